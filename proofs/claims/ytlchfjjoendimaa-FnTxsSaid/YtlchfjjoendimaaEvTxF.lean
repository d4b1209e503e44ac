/-
  FnTxs: PoolFee, PoolDone, hasTx.
-/
import Derived.Test.YtlchfjjoendimaaEvTxD
import Derived.Test.YtlchfjjoendimaaPoolFee
namespace Go.Proofs.Ytlchfjjoendimaa
set_option maxRecDepth 100000
set_option linter.unusedVariables false
set_option linter.unusedSimpArgs false
open Go Go.RowKit
set_option maxHeartbeats 4000000
set_option linter.unusedVariables false

/-- is a transaction done? -/
def doneBy (t d : TTx) : Bool := decide (d.1 = t.1) && decide (t.2.1 ≤ d.2.1)
def goneB (t : TTx) (ds : List TTx) : Bool := ds.any (doneBy t)
def poolLeft (ds l : List TTx) : List TTx := l.filter fun t => !goneB t ds
def poolDone (l ds : List TTx) : List TTx := if poolOk l then poolLeft ds l else []
theorem goneB_next (t : TTx) (ds : List TTx) (k : Nat) (h : k < ds.length) : goneB t (ds.take (k + 1)) = (goneB t (ds.take k) || doneBy t ds[k]) := by
  unfold goneB
  rw [List.take_succ_eq_append_getElem h, List.any_append]
  simp
theorem poolLeft_next (ds l : List TTx) (k : Nat) (h : k < l.length) : poolLeft ds (l.take (k + 1)) = poolLeft ds (l.take k) ++ if goneB l[k] ds then [] else [l[k]] := by
  unfold poolLeft
  rw [List.take_succ_eq_append_getElem h, List.filter_append]
  cases hg : goneB l[k] ds <;> simp [List.filter_cons, hg]
theorem poolLeft_le (ds l : List TTx) : (poolLeft ds l).length ≤ l.length := List.length_filter_le _ _
theorem poolDone_le (l ds : List TTx) : (poolDone l ds).length ≤ l.length := by
  unfold poolDone
  split
  · exact poolLeft_le ds l
  · simp
noncomputable def mFee := mdl (fun l : List TTx => l.length ≤ 8796093022207) (fun l => [aL cTx l]) (fun l => rI (poolFee l))
theorem mFee_eq (l : List TTx) (h : l.length ≤ 8796093022207) : mFee [aL cTx l] = some (rI (poolFee l)) := mdl_eq (by intro a b h; simpa using h) l h
theorem feeS_s : Sound Try.prog 32 mFee := Sound.says (fun _ => rfl) fun l vs w hok hr => by
  obtain ⟨v, rfl, h2⟩ := RepAs.one hr
  exact (poolFee_spec v l w (rep_RdS (s := 3) (fun _ => rfl) (repA_list_inv h2)) hok).mono fun e w' hq => hq
theorem feeI_s : Sound Try.prog 31 mFee := Sound.says (fun _ => rfl) fun l vs w hok hr => by
  obtain ⟨v, rfl, h2⟩ := RepAs.one hr
  exact (poolFee_impl v l w (rep_RdS (s := 3) (fun _ => rfl) (repA_list_inv h2)) hok).mono fun e w' hq => hq
theorem idxP_any {α : Type} (p : α → Bool) (l : List α) : decide (0 ≤ idxP p l) = l.any p := by
  unfold idxP
  by_cases h : l.findIdx p < l.length
  · rw [if_pos h]
    have h1 : l.any p = true := List.any_eq_true.2 ⟨_, List.getElem_mem h, List.findIdx_getElem⟩
    rw [h1]
    exact decide_eq_true (by omega)
  · rw [if_neg h]
    have h1 : l.any p = false := by
      rw [List.any_eq_false]
      intro x hx hp
      exact h (List.findIdx_lt_length_of_exists ⟨x, hx, hp⟩)
    rw [h1]
    rfl
noncomputable def mConT (f : FuncId) (boxes : List (List Leaf)) (p : TTx → Bool) := mdl (fun l : List TTx => l.length ≤ 8796093022207) (fun l => [aL cTx l, .clo f boxes]) (fun l => rB (l.any p))
theorem mConT_eq (f : FuncId) (boxes : List (List Leaf)) (p : TTx → Bool) (l : List TTx) (h : l.length ≤ 8796093022207) : mConT f boxes p [aL cTx l, .clo f boxes] = some (rB (l.any p)) := mdl_eq (by intro a b h; simpa using h) l h
theorem conT_s {f : FuncId} {boxes : List (List Leaf)} {p : TTx → Bool} {mf : List Arg → Option Res} (hf : Has Try.prog f) (hs : Sound Try.prog f mf) (hm : ∀ x, mf ([aTx x] ++ boxes.map fun c => .row c 0) = some (rB (p x))) : Sound Try.prog 101 (mConT f boxes p) := by
  refine Sound.mdl Try.func101 rfl Try.ntmps101 ?_
  rintro l w hl
  refine ⟨by simp, ?_⟩
  replace hl : l.length ≤ 8796093022207 := hl
  have hΓ : GSound Try.prog (look [(96, mIdxT f boxes p)]) := env_cons (has_of Try.func96 rfl rfl) (idxT_s hf hs hm) env_nil
  have c := mIdxT_eq f boxes p l hl
  have hany := idxP_any p l
  clear hs hf hm
  generalize idxP p l = i at c hany
  simp only [initS, argPV, List.map_cons, List.map_nil, toPL, Nat.zero_add]
  repeat (first | with_reducible apply W.seq | with_reducible apply W.block | with_reducible apply W.skip | with_reducible apply W.exit | with_reducible apply W.ret | with_reducible apply At.seqN | with_reducible apply At.blkN | with_reducible apply At.blkE | with_reducible apply At.blkR | with_reducible apply At.thenX | with_reducible apply At.thenR | with_reducible apply At.blkX rfl | ((with_reducible apply W.ops); (repeat (first | refine WL.opA hΓ (h := ?_) | refine WL.opX hΓ (h := ?_) | refine WL.opY (h := ?_) | refine WL.opZ (h := ?_))); with_reducible apply WL.nil) | refine W.condT (h := ?_) | refine W.condF (h := ?_))
  refine At.retA (by rw [Try.results101]) (he := rfl)
noncomputable def mDoneT := mdl (fun _ : TTx × TTx => True) (fun x => [aTx x.1, .row (bTx x.2) 0]) (fun x => rB (doneBy x.2 x.1))
theorem mDoneT_eq (x t : TTx) : mDoneT [aTx x, .row (bTx t) 0] = some (rB (doneBy t x)) := mdl_eq (by
  rintro ⟨⟨a, b, c⟩, ⟨a2, b2, c2⟩⟩ ⟨⟨d, e, f⟩, ⟨d2, e2, f2⟩⟩ h
  simp at h
  simp [h]) (x, t) trivial
theorem doneT_s : Sound Try.prog 102 mDoneT := by
  refine Sound.mdl Try.func102 rfl Try.ntmps102 ?_
  rintro ⟨⟨a, b, c⟩, ⟨d, e, f⟩⟩ w -
  refine ⟨by simp, ?_⟩
  have hΓ : GSound Try.prog (look []) := env_nil
  simp only [initS, argPV, List.map_cons, List.map_nil, toPL, Nat.zero_add]
  by_cases h1 : a = d
  · subst h1
    by_cases h2 : e ≤ b
    · repeat (first | with_reducible apply W.seq | with_reducible apply W.block | with_reducible apply W.skip | with_reducible apply W.exit | with_reducible apply W.ret | with_reducible apply At.seqN | with_reducible apply At.blkN | with_reducible apply At.blkE | with_reducible apply At.blkR | with_reducible apply At.thenX | with_reducible apply At.thenR | with_reducible apply At.blkX rfl | ((with_reducible apply W.ops); (repeat (first | refine WL.opA hΓ (h := ?_) | refine WL.opX hΓ (h := ?_) | refine WL.opY (h := ?_) | refine WL.opZ (h := ?_))); with_reducible apply WL.nil) | refine W.condT (h := ?_) | refine W.condF (h := ?_))
      refine At.retA (by rw [Try.results102]) (he := ?_)
      simp [doneBy, h2]
    · repeat (first | with_reducible apply W.seq | with_reducible apply W.block | with_reducible apply W.skip | with_reducible apply W.exit | with_reducible apply W.ret | with_reducible apply At.seqN | with_reducible apply At.blkN | with_reducible apply At.blkE | with_reducible apply At.blkR | with_reducible apply At.thenX | with_reducible apply At.thenR | with_reducible apply At.blkX rfl | ((with_reducible apply W.ops); (repeat (first | refine WL.opA hΓ (h := ?_) | refine WL.opX hΓ (h := ?_) | refine WL.opY (h := ?_) | refine WL.opZ (h := ?_))); with_reducible apply WL.nil) | refine W.condT (h := ?_) | refine W.condF (h := ?_))
      refine At.retA (by rw [Try.results102]) (he := ?_)
      simp [doneBy, h2]
  · repeat (first | with_reducible apply W.seq | with_reducible apply W.block | with_reducible apply W.skip | with_reducible apply W.exit | with_reducible apply W.ret | with_reducible apply At.seqN | with_reducible apply At.blkN | with_reducible apply At.blkE | with_reducible apply At.blkR | with_reducible apply At.thenX | with_reducible apply At.thenR | with_reducible apply At.blkX rfl | ((with_reducible apply W.ops); (repeat (first | refine WL.opA hΓ (h := ?_) | refine WL.opX hΓ (h := ?_) | refine WL.opY (h := ?_) | refine WL.opZ (h := ?_))); with_reducible apply WL.nil) | refine W.condT (h := ?_) | refine W.condF (h := ?_))
    refine At.retA (by rw [Try.results102]) (he := ?_)
    simp [doneBy, h1]
theorem left_yes {l ds : List TTx} {k : Nat} (h : k < l.length) (hg : goneB l[k] ds = true) : poolLeft ds (l.take (k + 1)) = poolLeft ds (l.take k) := by
  rw [poolLeft_next ds l k h, if_pos hg, List.append_nil]
theorem left_no {l ds : List TTx} {k : Nat} (h : k < l.length) (hg : goneB l[k] ds = false) : rowsF cTx (poolLeft ds (l.take k)) ++ [bTx l[k]] = rowsF cTx (poolLeft ds (l.take (k + 1))) := by
  rw [poolLeft_next ds l k h, hg, if_neg (by simp)]
  exact cTx_app _ _
noncomputable def mDnS := mdl (fun x : List TTx × List TTx => x.1.length ≤ 8796093022207 ∧ x.2.length ≤ 8796093022207) (fun x => [aL cTx x.1, aL cTx x.2]) (fun x => rL 44 3 cTx (poolDone x.1 x.2))
noncomputable def mDnI := mdl (fun x : List TTx × List TTx => x.1.length ≤ 8796093022207 ∧ x.2.length ≤ 8796093022207) (fun x => [aL cTx x.1, aL cTx x.2]) (fun x => if poolOk x.1 then rL 44 3 cTx (poolDone x.1 x.2) else rN)
theorem mDnS_eq (l ds : List TTx) (h1 : l.length ≤ 8796093022207) (h2 : ds.length ≤ 8796093022207) : mDnS [aL cTx l, aL cTx ds] = some (rL 44 3 cTx (poolDone l ds)) := mdl_eq (by rintro ⟨a, b⟩ ⟨d, e⟩ h; simpa using h) (l, ds) ⟨h1, h2⟩
theorem mDnI_eq (l ds : List TTx) (h1 : l.length ≤ 8796093022207) (h2 : ds.length ≤ 8796093022207) : mDnI [aL cTx l, aL cTx ds] = some (if poolOk l then rL 44 3 cTx (poolDone l ds) else rN) := mdl_eq (by rintro ⟨a, b⟩ ⟨d, e⟩ h; simpa using h) (l, ds) ⟨h1, h2⟩
theorem doneI_s : Sound Try.prog 36 mDnI := by
  refine Sound.mdl Try.func36 rfl Try.ntmps36 ?_
  rintro ⟨l, ds⟩ w ⟨hl, hd⟩
  refine ⟨by simp, ?_⟩
  replace hl : l.length ≤ 8796093022207 := hl
  replace hd : ds.length ≤ 8796093022207 := hd
  have hΓ : GSound Try.prog (look [(94, mPool)]) := env_cons (has_of Try.func94 rfl rfl) poolI_s env_nil
  have c1 := mPool_eq l (by omega)
  have hnil : ([] : List (List Leaf)) = rowsF cTx (poolLeft ds (l.take 0)) := rfl
  by_cases hp : poolOk l
  · rw [decide_eq_true hp] at c1
    have hl14 : l.length ≤ 14 := hp.1
    have hres : poolDone l ds = poolLeft ds l := by unfold poolDone; rw [if_pos hp]
    simp only [initS, argPV, List.map_cons, List.map_nil, toPL, Nat.zero_add]
    repeat (first | with_reducible apply W.seq | with_reducible apply W.block | with_reducible apply W.skip | with_reducible apply W.exit | with_reducible apply W.ret | with_reducible apply At.seqN | with_reducible apply At.blkN | with_reducible apply At.blkE | with_reducible apply At.blkR | with_reducible apply At.thenX | with_reducible apply At.thenR | with_reducible apply At.blkX rfl | ((with_reducible apply W.ops); (repeat (first | refine WL.opA hΓ (h := ?_) | refine WL.opX hΓ (h := ?_) | refine WL.opY (h := ?_) | refine WL.opZ (h := ?_))); with_reducible apply WL.nil) | refine W.condT (h := ?_) | refine W.condF (h := ?_))
    refine W.loopA (fun k => k ≤ l.length) (fun k : Nat => [.slot 1 (vL cTx ds), .slot 12 (vL cTx l), .slot 13 (vI l.length), .slot 5 (one (.all 11)), .blk 11 (.arr true 44 3 (rowsF cTx (poolLeft ds (l.take k)))), .slot 14 (vI k)]) (fun k => l.length - k) 0 (Nat.zero_le _) (h := ?_)
    rintro k hk
    clear hnil
    have hln := poolLeft_le ds (l.take k)
    rw [List.length_take] at hln
    replace hln : (poolLeft ds (l.take k)).length ≤ 14 := by omega
    by_cases hlt : k < l.length
    · have hrow := tx_row hlt
      have c := mConT_eq 102 [bTx l[k]] (doneBy l[k]) ds hd
      replace hΓ : GSound Try.prog (look [(101, mConT 102 [bTx l[k]] (doneBy l[k]))]) := env_cons (has_of Try.func101 rfl rfl) (conT_s (has_of Try.func102 rfl rfl) doneT_s (fun x => mDoneT_eq x l[k])) env_nil
      have hy := left_yes (ds := ds) hlt
      have hn := left_no (ds := ds) hlt
      clear hres c1
      cases hg : goneB l[k] ds with
      | true =>
        replace hy := hy hg
        replace c := c.trans (congrArg (fun b => some (rB b)) hg)
        clear hn hg
        generalize l[k] = t at *
        obtain ⟨ta, tb, tc⟩ := t
        dsimp only [bTx] at hrow c hΓ
        repeat (first | with_reducible apply W.seq | with_reducible apply W.block | with_reducible apply W.skip | with_reducible apply W.exit | with_reducible apply W.ret | with_reducible apply At.seqN | with_reducible apply At.blkN | with_reducible apply At.blkE | with_reducible apply At.blkR | with_reducible apply At.thenX | with_reducible apply At.thenR | with_reducible apply At.blkX rfl | ((with_reducible apply W.ops); (repeat (first | refine WL.opA hΓ (h := ?_) | refine WL.opX hΓ (h := ?_) | refine WL.opY (h := ?_) | refine WL.opZ (h := ?_))); with_reducible apply WL.nil) | refine W.condT (h := ?_) | refine W.condF (h := ?_))
        exact At.roundA (k + 1) (by omega) (by omega)
      | false =>
        replace hn := hn hg
        replace c := c.trans (congrArg (fun b => some (rB b)) hg)
        clear hy hg
        generalize l[k] = t at *
        obtain ⟨ta, tb, tc⟩ := t
        dsimp only [bTx] at hrow c hΓ hn
        repeat (first | with_reducible apply W.seq | with_reducible apply W.block | with_reducible apply W.skip | with_reducible apply W.exit | with_reducible apply W.ret | with_reducible apply At.seqN | with_reducible apply At.blkN | with_reducible apply At.blkE | with_reducible apply At.blkR | with_reducible apply At.thenX | with_reducible apply At.thenR | with_reducible apply At.blkX rfl | ((with_reducible apply W.ops); (repeat (first | refine WL.opA hΓ (h := ?_) | refine WL.opX hΓ (h := ?_) | refine WL.opY (h := ?_) | refine WL.opZ (h := ?_))); with_reducible apply WL.nil) | refine W.condT (h := ?_) | refine W.condF (h := ?_))
        exact At.roundA (k + 1) (by omega) (by omega)
    · have hkl : k = l.length := by omega
      subst hkl
      rw [List.take_length]
      repeat (first | with_reducible apply W.seq | with_reducible apply W.block | with_reducible apply W.skip | with_reducible apply W.exit | with_reducible apply W.ret | with_reducible apply At.seqN | with_reducible apply At.blkN | with_reducible apply At.blkE | with_reducible apply At.blkR | with_reducible apply At.thenX | with_reducible apply At.thenR | with_reducible apply At.blkX rfl | ((with_reducible apply W.ops); (repeat (first | refine WL.opA hΓ (h := ?_) | refine WL.opX hΓ (h := ?_) | refine WL.opY (h := ?_) | refine WL.opZ (h := ?_))); with_reducible apply WL.nil) | refine W.condT (h := ?_) | refine W.condF (h := ?_))
      refine At.retA (by rw [Try.results36]) (he := ?_)
      simp [hp, hres]
  · rw [decide_eq_false hp] at c1
    simp only [initS, argPV, List.map_cons, List.map_nil, toPL, Nat.zero_add]
    repeat (first | with_reducible apply W.seq | with_reducible apply W.block | with_reducible apply W.skip | with_reducible apply W.exit | with_reducible apply W.ret | with_reducible apply At.seqN | with_reducible apply At.blkN | with_reducible apply At.blkE | with_reducible apply At.blkR | with_reducible apply At.thenX | with_reducible apply At.thenR | with_reducible apply At.blkX rfl | ((with_reducible apply W.ops); (repeat (first | refine WL.opA hΓ (h := ?_) | refine WL.opX hΓ (h := ?_) | refine WL.opY (h := ?_) | refine WL.opZ (h := ?_))); with_reducible apply WL.nil) | refine W.condT (h := ?_) | refine W.condF (h := ?_))
    refine At.retA (by rw [Try.results36]) (he := ?_)
    simp [hp]
    rfl
theorem gone_zero (t : TTx) (ds : List TTx) : goneB t (ds.take 0) = false := rfl
theorem doneS_s : Sound Try.prog 38 mDnS := by
  refine Sound.mdl Try.func38 rfl Try.ntmps38 ?_
  rintro ⟨l, ds⟩ w ⟨hl, hd⟩
  refine ⟨by simp, ?_⟩
  replace hl : l.length ≤ 8796093022207 := hl
  replace hd : ds.length ≤ 8796093022207 := hd
  have hΓ : GSound Try.prog (look [(29, mPool)]) := env_cons (has_of Try.func29 rfl rfl) poolS_s env_nil
  have c1 := mPool_eq l (by omega)
  have hnil : ([] : List (List Leaf)) = rowsF cTx (poolLeft ds (l.take 0)) := rfl
  by_cases hp : poolOk l
  · rw [decide_eq_true hp] at c1
    have hl14 : l.length ≤ 14 := hp.1
    have hres : poolDone l ds = poolLeft ds l := by unfold poolDone; rw [if_pos hp]
    simp only [initS, argPV, List.map_cons, List.map_nil, toPL, Nat.zero_add]
    repeat (first | with_reducible apply W.seq | with_reducible apply W.block | with_reducible apply W.skip | with_reducible apply W.exit | with_reducible apply W.ret | with_reducible apply At.seqN | with_reducible apply At.blkN | with_reducible apply At.blkE | with_reducible apply At.blkR | with_reducible apply At.thenX | with_reducible apply At.thenR | with_reducible apply At.blkX rfl | ((with_reducible apply W.ops); (repeat (first | refine WL.opA hΓ (h := ?_) | refine WL.opX hΓ (h := ?_) | refine WL.opY (h := ?_) | refine WL.opZ (h := ?_))); with_reducible apply WL.nil) | refine W.condT (h := ?_) | refine W.condF (h := ?_))
    refine W.loopA (fun k => k ≤ l.length) (fun k : Nat => [.slot 0 (vL cTx l), .slot 1 (vL cTx ds), .slot 5 (one (.all 9)), .blk 9 (.arr true 44 3 (rowsF cTx (poolLeft ds (l.take k)))), .slot 6 (vI k)]) (fun k => l.length - k) 0 (Nat.zero_le _) (h := ?_)
    rintro k hk
    clear hnil
    have hln := poolLeft_le ds (l.take k)
    rw [List.length_take] at hln
    replace hln : (poolLeft ds (l.take k)).length ≤ 14 := by omega
    by_cases hlt : k < l.length
    · have hrow := tx_row hlt
      have hz := gone_zero l[k] ds
      have hy := left_yes (ds := ds) hlt
      have hn := left_no (ds := ds) hlt
      have hgn := goneB_next l[k] ds
      clear hres
      generalize l[k] = t at hrow hz hy hn hgn
      repeat (first | with_reducible apply W.seq | with_reducible apply W.block | with_reducible apply W.skip | with_reducible apply W.exit | with_reducible apply W.ret | with_reducible apply At.seqN | with_reducible apply At.blkN | with_reducible apply At.blkE | with_reducible apply At.blkR | with_reducible apply At.thenX | with_reducible apply At.thenR | with_reducible apply At.blkX rfl | ((with_reducible apply W.ops); (repeat (first | refine WL.opA hΓ (h := ?_) | refine WL.opX hΓ (h := ?_) | refine WL.opY (h := ?_) | refine WL.opZ (h := ?_))); with_reducible apply WL.nil) | refine W.condT (h := ?_) | refine W.condF (h := ?_))
      refine W.loopA (fun j => j ≤ ds.length) (fun j : Nat => [.slot 0 (vL cTx l), .slot 1 (vL cTx ds), .slot 5 (one (.all 9)), .blk 9 (.arr true 44 3 (rowsF cTx (poolLeft ds (l.take k)))), .slot 6 (vI k), .slot 7 (one (.sc (.bool (goneB t (ds.take j))))), .slot 8 (vI j)]) (fun j => ds.length - j) 0 (Nat.zero_le _) (h := ?_)
      rintro j hj
      clear hz
      by_cases hjl : j < ds.length
      · have hrow2 := tx_row hjl
        replace hgn := hgn j hjl
        clear hy hn c1
        generalize ds[j] = d at hrow2 hgn
        obtain ⟨ta, tb, tc⟩ := t
        obtain ⟨da, db, dc⟩ := d
        dsimp only [bTx] at hrow hrow2
        unfold doneBy at hgn
        dsimp only at hgn
        cases hg : goneB (ta, tb, tc) (ds.take j) with
        | true =>
          rw [hg, Bool.true_or] at hgn
          repeat (first | with_reducible apply W.seq | with_reducible apply W.block | with_reducible apply W.skip | with_reducible apply W.exit | with_reducible apply W.ret | with_reducible apply At.seqN | with_reducible apply At.blkN | with_reducible apply At.blkE | with_reducible apply At.blkR | with_reducible apply At.thenX | with_reducible apply At.thenR | with_reducible apply At.blkX rfl | ((with_reducible apply W.ops); (repeat (first | refine WL.opA hΓ (h := ?_) | refine WL.opX hΓ (h := ?_) | refine WL.opY (h := ?_) | refine WL.opZ (h := ?_))); with_reducible apply WL.nil) | refine W.condT (h := ?_) | refine W.condF (h := ?_))
          refine W.drawsA hΓ 28 [[], [0], [0, 1], [0, 1], [0, 1, 2, 3], [0, 1, 2, 3, 4], [0, 1, 2, 3, 4, 5], [0, 1], [0, 1], [0, 1, 7, 8], [0, 1, 7, 8, 9], [0, 1, 7, 8, 9, 10], [0, 1, 2, 3, 4, 5, 6, 7, 8, 9, 10, 11], [0, 1, 2, 3, 4, 5, 6, 7, 8, 9, 10, 11, 12], [0, 1, 2, 3, 4, 5, 6, 7, 8, 9, 10, 11, 12, 13], [0, 1, 2, 3, 4, 5, 6, 7, 8, 9, 10, 11, 12, 13], [0, 1, 2, 3, 4, 5, 6, 7, 8, 9, 10, 11, 12, 13, 14, 15], [0, 1, 2, 3, 4, 5, 6, 7, 8, 9, 10, 11, 12, 13, 14, 15, 16], [0, 1, 2, 3, 4, 5, 6, 7, 8, 9, 10, 11, 12, 13, 14, 15, 16, 17], [0, 1, 2, 3, 4, 5, 6, 7, 8, 9, 10, 11, 12, 13], [0, 1, 2, 3, 4, 5, 6, 7, 8, 9, 10, 11, 12, 13], [0, 1, 2, 3, 4, 5, 6, 7, 8, 9, 10, 11, 12, 13, 19, 20], [0, 1, 2, 3, 4, 5, 6, 7, 8, 9, 10, 11, 12, 13, 19, 20, 21], [0, 1, 2, 3, 4, 5, 6, 7, 8, 9, 10, 11, 12, 13, 19, 20, 21, 22], [0, 1, 2, 3, 4, 5, 6, 7, 8, 9, 10, 11, 12, 13, 14, 15, 16, 17, 18, 19, 20, 21, 22, 23], [0, 1, 2, 3, 4, 5, 6, 7, 8, 9, 10, 11, 12, 13, 14, 15, 16, 17, 18, 19, 20, 21, 22, 23, 24], [0, 1, 2, 3, 4, 5, 6, 7, 8, 9, 10, 11, 12, 13, 14, 15, 16, 17, 18, 19, 20, 21, 22, 23, 24, 25], [0, 1, 2, 3, 4, 5, 6, 7, 8, 9, 10, 11, 12, 13, 14, 15, 16, 17, 18, 19, 20, 21, 22, 23, 24, 25, 26]] (rest := ?rest28) (Es := ?Es28) (st1 := ?st128) (h := ?h28) (hf := ?hf28) (hp := ?hp28) (hd := ?hd28) (hfr := ?hfr28) (hst := ?hst28) (hT := ?hT28)
          case h28 => kernel_rfl
          case hf28 =>
            repeat (first | refine FlowT.opA (h := ?_) | refine FlowT.opX (h := ?_) | refine FlowT.opY (h := ?_) | refine FlowT.opZ (h := ?_))
            exact FlowT.done
          case hp28 => rfl
          case hd28 => rfl
          case hfr28 => rfl
          case hst28 =>
            simp only [pick_nil, pick_all, List.cons_append, List.nil_append]
            rfl
          (repeat (first | refine WL.opA hΓ (h := ?_) | refine WL.opX hΓ (h := ?_) | refine WL.opY (h := ?_) | refine WL.opZ (h := ?_)))
          with_reducible apply WL.nil
          repeat (first | with_reducible apply W.seq | with_reducible apply W.block | with_reducible apply W.skip | with_reducible apply W.exit | with_reducible apply W.ret | with_reducible apply At.seqN | with_reducible apply At.blkN | with_reducible apply At.blkE | with_reducible apply At.blkR | with_reducible apply At.thenX | with_reducible apply At.thenR | with_reducible apply At.blkX rfl | ((with_reducible apply W.ops); (repeat (first | refine WL.opA hΓ (h := ?_) | refine WL.opX hΓ (h := ?_) | refine WL.opY (h := ?_) | refine WL.opZ (h := ?_))); with_reducible apply WL.nil) | refine W.condT (h := ?_) | refine W.condF (h := ?_))
          exact At.roundA (j + 1) (by omega) (by omega)
        | false =>
          rw [hg, Bool.false_or] at hgn
          by_cases h1 : da = ta
          · subst h1
            rw [decide_eq_true rfl, Bool.true_and] at hgn
            by_cases h2 : tb ≤ db
            · rw [decide_eq_true h2] at hgn
              repeat (first | with_reducible apply W.seq | with_reducible apply W.block | with_reducible apply W.skip | with_reducible apply W.exit | with_reducible apply W.ret | with_reducible apply At.seqN | with_reducible apply At.blkN | with_reducible apply At.blkE | with_reducible apply At.blkR | with_reducible apply At.thenX | with_reducible apply At.thenR | with_reducible apply At.blkX rfl | ((with_reducible apply W.ops); (repeat (first | refine WL.opA hΓ (h := ?_) | refine WL.opX hΓ (h := ?_) | refine WL.opY (h := ?_) | refine WL.opZ (h := ?_))); with_reducible apply WL.nil) | refine W.condT (h := ?_) | refine W.condF (h := ?_))
              refine W.drawsA hΓ 28 [[], [0], [0, 1], [0, 1], [0, 1, 2, 3], [0, 1, 2, 3, 4], [0, 1, 2, 3, 4, 5], [0, 1], [0, 1], [0, 1, 7, 8], [0, 1, 7, 8, 9], [0, 1, 7, 8, 9, 10], [0, 1, 2, 3, 4, 5, 6, 7, 8, 9, 10, 11], [0, 1, 2, 3, 4, 5, 6, 7, 8, 9, 10, 11, 12], [0, 1, 2, 3, 4, 5, 6, 7, 8, 9, 10, 11, 12, 13], [0, 1, 2, 3, 4, 5, 6, 7, 8, 9, 10, 11, 12, 13], [0, 1, 2, 3, 4, 5, 6, 7, 8, 9, 10, 11, 12, 13, 14, 15], [0, 1, 2, 3, 4, 5, 6, 7, 8, 9, 10, 11, 12, 13, 14, 15, 16], [0, 1, 2, 3, 4, 5, 6, 7, 8, 9, 10, 11, 12, 13, 14, 15, 16, 17], [0, 1, 2, 3, 4, 5, 6, 7, 8, 9, 10, 11, 12, 13], [0, 1, 2, 3, 4, 5, 6, 7, 8, 9, 10, 11, 12, 13], [0, 1, 2, 3, 4, 5, 6, 7, 8, 9, 10, 11, 12, 13, 19, 20], [0, 1, 2, 3, 4, 5, 6, 7, 8, 9, 10, 11, 12, 13, 19, 20, 21], [0, 1, 2, 3, 4, 5, 6, 7, 8, 9, 10, 11, 12, 13, 19, 20, 21, 22], [0, 1, 2, 3, 4, 5, 6, 7, 8, 9, 10, 11, 12, 13, 14, 15, 16, 17, 18, 19, 20, 21, 22, 23], [0, 1, 2, 3, 4, 5, 6, 7, 8, 9, 10, 11, 12, 13, 14, 15, 16, 17, 18, 19, 20, 21, 22, 23, 24], [0, 1, 2, 3, 4, 5, 6, 7, 8, 9, 10, 11, 12, 13, 14, 15, 16, 17, 18, 19, 20, 21, 22, 23, 24, 25], [0, 1, 2, 3, 4, 5, 6, 7, 8, 9, 10, 11, 12, 13, 14, 15, 16, 17, 18, 19, 20, 21, 22, 23, 24, 25, 26]] (rest := ?rest31) (Es := ?Es31) (st1 := ?st131) (h := ?h31) (hf := ?hf31) (hp := ?hp31) (hd := ?hd31) (hfr := ?hfr31) (hst := ?hst31) (hT := ?hT31)
              case h31 => kernel_rfl
              case hf31 =>
                repeat (first | refine FlowT.opA (h := ?_) | refine FlowT.opX (h := ?_) | refine FlowT.opY (h := ?_) | refine FlowT.opZ (h := ?_))
                exact FlowT.done
              case hp31 => rfl
              case hd31 => rfl
              case hfr31 => rfl
              case hst31 =>
                simp only [pick_nil, pick_all, List.cons_append, List.nil_append]
                rfl
              (repeat (first | refine WL.opA hΓ (h := ?_) | refine WL.opX hΓ (h := ?_) | refine WL.opY (h := ?_) | refine WL.opZ (h := ?_)))
              with_reducible apply WL.nil
              repeat (first | with_reducible apply W.seq | with_reducible apply W.block | with_reducible apply W.skip | with_reducible apply W.exit | with_reducible apply W.ret | with_reducible apply At.seqN | with_reducible apply At.blkN | with_reducible apply At.blkE | with_reducible apply At.blkR | with_reducible apply At.thenX | with_reducible apply At.thenR | with_reducible apply At.blkX rfl | ((with_reducible apply W.ops); (repeat (first | refine WL.opA hΓ (h := ?_) | refine WL.opX hΓ (h := ?_) | refine WL.opY (h := ?_) | refine WL.opZ (h := ?_))); with_reducible apply WL.nil) | refine W.condT (h := ?_) | refine W.condF (h := ?_))
              exact At.roundA (j + 1) (by omega) (by omega)
            · rw [decide_eq_false h2] at hgn
              repeat (first | with_reducible apply W.seq | with_reducible apply W.block | with_reducible apply W.skip | with_reducible apply W.exit | with_reducible apply W.ret | with_reducible apply At.seqN | with_reducible apply At.blkN | with_reducible apply At.blkE | with_reducible apply At.blkR | with_reducible apply At.thenX | with_reducible apply At.thenR | with_reducible apply At.blkX rfl | ((with_reducible apply W.ops); (repeat (first | refine WL.opA hΓ (h := ?_) | refine WL.opX hΓ (h := ?_) | refine WL.opY (h := ?_) | refine WL.opZ (h := ?_))); with_reducible apply WL.nil) | refine W.condT (h := ?_) | refine W.condF (h := ?_))
              refine W.drawsA hΓ 28 [[], [0], [0, 1], [0, 1], [0, 1, 2, 3], [0, 1, 2, 3, 4], [0, 1, 2, 3, 4, 5], [0, 1], [0, 1], [0, 1, 7, 8], [0, 1, 7, 8, 9], [0, 1, 7, 8, 9, 10], [0, 1, 2, 3, 4, 5, 6, 7, 8, 9, 10, 11], [0, 1, 2, 3, 4, 5, 6, 7, 8, 9, 10, 11, 12], [0, 1, 2, 3, 4, 5, 6, 7, 8, 9, 10, 11, 12, 13], [0, 1, 2, 3, 4, 5, 6, 7, 8, 9, 10, 11, 12, 13], [0, 1, 2, 3, 4, 5, 6, 7, 8, 9, 10, 11, 12, 13, 14, 15], [0, 1, 2, 3, 4, 5, 6, 7, 8, 9, 10, 11, 12, 13, 14, 15, 16], [0, 1, 2, 3, 4, 5, 6, 7, 8, 9, 10, 11, 12, 13, 14, 15, 16, 17], [0, 1, 2, 3, 4, 5, 6, 7, 8, 9, 10, 11, 12, 13], [0, 1, 2, 3, 4, 5, 6, 7, 8, 9, 10, 11, 12, 13], [0, 1, 2, 3, 4, 5, 6, 7, 8, 9, 10, 11, 12, 13, 19, 20], [0, 1, 2, 3, 4, 5, 6, 7, 8, 9, 10, 11, 12, 13, 19, 20, 21], [0, 1, 2, 3, 4, 5, 6, 7, 8, 9, 10, 11, 12, 13, 19, 20, 21, 22], [0, 1, 2, 3, 4, 5, 6, 7, 8, 9, 10, 11, 12, 13, 14, 15, 16, 17, 18, 19, 20, 21, 22, 23], [0, 1, 2, 3, 4, 5, 6, 7, 8, 9, 10, 11, 12, 13, 14, 15, 16, 17, 18, 19, 20, 21, 22, 23, 24], [0, 1, 2, 3, 4, 5, 6, 7, 8, 9, 10, 11, 12, 13, 14, 15, 16, 17, 18, 19, 20, 21, 22, 23, 24, 25], [0, 1, 2, 3, 4, 5, 6, 7, 8, 9, 10, 11, 12, 13, 14, 15, 16, 17, 18, 19, 20, 21, 22, 23, 24, 25, 26]] (rest := ?rest34) (Es := ?Es34) (st1 := ?st134) (h := ?h34) (hf := ?hf34) (hp := ?hp34) (hd := ?hd34) (hfr := ?hfr34) (hst := ?hst34) (hT := ?hT34)
              case h34 => kernel_rfl
              case hf34 =>
                repeat (first | refine FlowT.opA (h := ?_) | refine FlowT.opX (h := ?_) | refine FlowT.opY (h := ?_) | refine FlowT.opZ (h := ?_))
                exact FlowT.done
              case hp34 => rfl
              case hd34 => rfl
              case hfr34 => rfl
              case hst34 =>
                simp only [pick_nil, pick_all, List.cons_append, List.nil_append]
                rfl
              (repeat (first | refine WL.opA hΓ (h := ?_) | refine WL.opX hΓ (h := ?_) | refine WL.opY (h := ?_) | refine WL.opZ (h := ?_)))
              with_reducible apply WL.nil
              repeat (first | with_reducible apply W.seq | with_reducible apply W.block | with_reducible apply W.skip | with_reducible apply W.exit | with_reducible apply W.ret | with_reducible apply At.seqN | with_reducible apply At.blkN | with_reducible apply At.blkE | with_reducible apply At.blkR | with_reducible apply At.thenX | with_reducible apply At.thenR | with_reducible apply At.blkX rfl | ((with_reducible apply W.ops); (repeat (first | refine WL.opA hΓ (h := ?_) | refine WL.opX hΓ (h := ?_) | refine WL.opY (h := ?_) | refine WL.opZ (h := ?_))); with_reducible apply WL.nil) | refine W.condT (h := ?_) | refine W.condF (h := ?_))
              exact At.roundA (j + 1) (by omega) (by omega)
          · rw [decide_eq_false h1, Bool.false_and] at hgn
            repeat (first | with_reducible apply W.seq | with_reducible apply W.block | with_reducible apply W.skip | with_reducible apply W.exit | with_reducible apply W.ret | with_reducible apply At.seqN | with_reducible apply At.blkN | with_reducible apply At.blkE | with_reducible apply At.blkR | with_reducible apply At.thenX | with_reducible apply At.thenR | with_reducible apply At.blkX rfl | ((with_reducible apply W.ops); (repeat (first | refine WL.opA hΓ (h := ?_) | refine WL.opX hΓ (h := ?_) | refine WL.opY (h := ?_) | refine WL.opZ (h := ?_))); with_reducible apply WL.nil) | refine W.condT (h := ?_) | refine W.condF (h := ?_))
            refine W.drawsA hΓ 28 [[], [0], [0, 1], [0, 1], [0, 1, 2, 3], [0, 1, 2, 3, 4], [0, 1, 2, 3, 4, 5], [0, 1], [0, 1], [0, 1, 7, 8], [0, 1, 7, 8, 9], [0, 1, 7, 8, 9, 10], [0, 1, 2, 3, 4, 5, 6, 7, 8, 9, 10, 11], [0, 1, 2, 3, 4, 5, 6, 7, 8, 9, 10, 11, 12], [0, 1, 2, 3, 4, 5, 6, 7, 8, 9, 10, 11, 12, 13], [0, 1, 2, 3, 4, 5, 6, 7, 8, 9, 10, 11, 12, 13], [0, 1, 2, 3, 4, 5, 6, 7, 8, 9, 10, 11, 12, 13, 14, 15], [0, 1, 2, 3, 4, 5, 6, 7, 8, 9, 10, 11, 12, 13, 14, 15, 16], [0, 1, 2, 3, 4, 5, 6, 7, 8, 9, 10, 11, 12, 13, 14, 15, 16, 17], [0, 1, 2, 3, 4, 5, 6, 7, 8, 9, 10, 11, 12, 13], [0, 1, 2, 3, 4, 5, 6, 7, 8, 9, 10, 11, 12, 13], [0, 1, 2, 3, 4, 5, 6, 7, 8, 9, 10, 11, 12, 13, 19, 20], [0, 1, 2, 3, 4, 5, 6, 7, 8, 9, 10, 11, 12, 13, 19, 20, 21], [0, 1, 2, 3, 4, 5, 6, 7, 8, 9, 10, 11, 12, 13, 19, 20, 21, 22], [0, 1, 2, 3, 4, 5, 6, 7, 8, 9, 10, 11, 12, 13, 14, 15, 16, 17, 18, 19, 20, 21, 22, 23], [0, 1, 2, 3, 4, 5, 6, 7, 8, 9, 10, 11, 12, 13, 14, 15, 16, 17, 18, 19, 20, 21, 22, 23, 24], [0, 1, 2, 3, 4, 5, 6, 7, 8, 9, 10, 11, 12, 13, 14, 15, 16, 17, 18, 19, 20, 21, 22, 23, 24, 25], [0, 1, 2, 3, 4, 5, 6, 7, 8, 9, 10, 11, 12, 13, 14, 15, 16, 17, 18, 19, 20, 21, 22, 23, 24, 25, 26]] (rest := ?rest37) (Es := ?Es37) (st1 := ?st137) (h := ?h37) (hf := ?hf37) (hp := ?hp37) (hd := ?hd37) (hfr := ?hfr37) (hst := ?hst37) (hT := ?hT37)
            case h37 => kernel_rfl
            case hf37 =>
              repeat (first | refine FlowT.opA (h := ?_) | refine FlowT.opX (h := ?_) | refine FlowT.opY (h := ?_) | refine FlowT.opZ (h := ?_))
              exact FlowT.done
            case hp37 => rfl
            case hd37 => rfl
            case hfr37 => rfl
            case hst37 =>
              simp only [pick_nil, pick_all, List.cons_append, List.nil_append]
              rfl
            (repeat (first | refine WL.opA hΓ (h := ?_) | refine WL.opX hΓ (h := ?_) | refine WL.opY (h := ?_) | refine WL.opZ (h := ?_)))
            with_reducible apply WL.nil
            repeat (first | with_reducible apply W.seq | with_reducible apply W.block | with_reducible apply W.skip | with_reducible apply W.exit | with_reducible apply W.ret | with_reducible apply At.seqN | with_reducible apply At.blkN | with_reducible apply At.blkE | with_reducible apply At.blkR | with_reducible apply At.thenX | with_reducible apply At.thenR | with_reducible apply At.blkX rfl | ((with_reducible apply W.ops); (repeat (first | refine WL.opA hΓ (h := ?_) | refine WL.opX hΓ (h := ?_) | refine WL.opY (h := ?_) | refine WL.opZ (h := ?_))); with_reducible apply WL.nil) | refine W.condT (h := ?_) | refine W.condF (h := ?_))
            exact At.roundA (j + 1) (by omega) (by omega)
      · have hjl : j = ds.length := by omega
        subst hjl
        rw [List.take_length]
        clear hgn c1
        obtain ⟨ta, tb, tc⟩ := t
        dsimp only [bTx] at hrow hn
        cases hg : goneB (ta, tb, tc) ds with
        | true =>
          replace hy := hy hg
          clear hn
          repeat (first | with_reducible apply W.seq | with_reducible apply W.block | with_reducible apply W.skip | with_reducible apply W.exit | with_reducible apply W.ret | with_reducible apply At.seqN | with_reducible apply At.blkN | with_reducible apply At.blkE | with_reducible apply At.blkR | with_reducible apply At.thenX | with_reducible apply At.thenR | with_reducible apply At.blkX rfl | ((with_reducible apply W.ops); (repeat (first | refine WL.opA hΓ (h := ?_) | refine WL.opX hΓ (h := ?_) | refine WL.opY (h := ?_) | refine WL.opZ (h := ?_))); with_reducible apply WL.nil) | refine W.condT (h := ?_) | refine W.condF (h := ?_))
          exact At.roundA (k + 1) (by omega) (by omega)
        | false =>
          replace hn := hn hg
          clear hy
          repeat (first | with_reducible apply W.seq | with_reducible apply W.block | with_reducible apply W.skip | with_reducible apply W.exit | with_reducible apply W.ret | with_reducible apply At.seqN | with_reducible apply At.blkN | with_reducible apply At.blkE | with_reducible apply At.blkR | with_reducible apply At.thenX | with_reducible apply At.thenR | with_reducible apply At.blkX rfl | ((with_reducible apply W.ops); (repeat (first | refine WL.opA hΓ (h := ?_) | refine WL.opX hΓ (h := ?_) | refine WL.opY (h := ?_) | refine WL.opZ (h := ?_))); with_reducible apply WL.nil) | refine W.condT (h := ?_) | refine W.condF (h := ?_))
          exact At.roundA (k + 1) (by omega) (by omega)
    · have hkl : k = l.length := by omega
      subst hkl
      rw [List.take_length]
      repeat (first | with_reducible apply W.seq | with_reducible apply W.block | with_reducible apply W.skip | with_reducible apply W.exit | with_reducible apply W.ret | with_reducible apply At.seqN | with_reducible apply At.blkN | with_reducible apply At.blkE | with_reducible apply At.blkR | with_reducible apply At.thenX | with_reducible apply At.thenR | with_reducible apply At.blkX rfl | ((with_reducible apply W.ops); (repeat (first | refine WL.opA hΓ (h := ?_) | refine WL.opX hΓ (h := ?_) | refine WL.opY (h := ?_) | refine WL.opZ (h := ?_))); with_reducible apply WL.nil) | refine W.condT (h := ?_) | refine W.condF (h := ?_))
      refine At.retA (by rw [Try.results38]) (he := ?_)
      rw [hres]
  · rw [decide_eq_false hp] at c1
    have hres : poolDone l ds = [] := by unfold poolDone; rw [if_neg hp]
    by_cases h0 : 0 < l.length
    · simp only [initS, argPV, List.map_cons, List.map_nil, toPL, Nat.zero_add]
      repeat (first | with_reducible apply W.seq | with_reducible apply W.block | with_reducible apply W.skip | with_reducible apply W.exit | with_reducible apply W.ret | with_reducible apply At.seqN | with_reducible apply At.blkN | with_reducible apply At.blkE | with_reducible apply At.blkR | with_reducible apply At.thenX | with_reducible apply At.thenR | with_reducible apply At.blkX rfl | ((with_reducible apply W.ops); (repeat (first | refine WL.opA hΓ (h := ?_) | refine WL.opX hΓ (h := ?_) | refine WL.opY (h := ?_) | refine WL.opZ (h := ?_))); with_reducible apply WL.nil) | refine W.condT (h := ?_) | refine W.condF (h := ?_))
      refine W.loopA (fun k => k = 0) (fun k : Nat => [.slot 0 (vL cTx l), .slot 1 (vL cTx ds), .slot 5 (one (.all 9)), .blk 9 (.arr true 44 3 (rowsF cTx (poolLeft ds (l.take 0)))), .slot 6 (vI k)]) (fun k => 0) 0 rfl (h := ?_)
      rintro k rfl
      repeat (first | with_reducible apply W.seq | with_reducible apply W.block | with_reducible apply W.skip | with_reducible apply W.exit | with_reducible apply W.ret | with_reducible apply At.seqN | with_reducible apply At.blkN | with_reducible apply At.blkE | with_reducible apply At.blkR | with_reducible apply At.thenX | with_reducible apply At.thenR | with_reducible apply At.blkX rfl | ((with_reducible apply W.ops); (repeat (first | refine WL.opA hΓ (h := ?_) | refine WL.opX hΓ (h := ?_) | refine WL.opY (h := ?_) | refine WL.opZ (h := ?_))); with_reducible apply WL.nil) | refine W.condT (h := ?_) | refine W.condF (h := ?_))
      refine At.retA (by rw [Try.results38]) (he := ?_)
      simp only [hres]
      rfl
    · exact absurd ⟨by omega, fun k hk => by omega⟩ hp
noncomputable def mHasT := mdl (fun x : List TTx × TTx => x.1.length ≤ 8796093022207) (fun x => [aL cTx x.1, aTx x.2]) (fun x => rB (decide (x.2 ∈ x.1)))
theorem mHasT_eq (l : List TTx) (t : TTx) (h : l.length ≤ 8796093022207) : mHasT [aL cTx l, aTx t] = some (rB (decide (t ∈ l))) := mdl_eq (by
  rintro ⟨a, ⟨b1, b2, b3⟩⟩ ⟨d, ⟨e1, e2, e3⟩⟩ h
  simp at h
  simp [h]) (l, t) h
theorem hasT_s : Sound Try.prog 30 mHasT := by
  refine Sound.mdl Try.func30 rfl Try.ntmps30 ?_
  rintro ⟨l, t⟩ w hl
  refine ⟨by simp, ?_⟩
  replace hl : l.length ≤ 8796093022207 := hl
  have hΓ : GSound Try.prog (look []) := env_nil
  obtain ⟨ta, tb, tc⟩ := t
  simp only [initS, argPV, List.map_cons, List.map_nil, toPL, Nat.zero_add]
  repeat (first | with_reducible apply W.seq | with_reducible apply W.block | with_reducible apply W.skip | with_reducible apply W.exit | with_reducible apply W.ret | with_reducible apply At.seqN | with_reducible apply At.blkN | with_reducible apply At.blkE | with_reducible apply At.blkR | with_reducible apply At.thenX | with_reducible apply At.thenR | with_reducible apply At.blkX rfl | ((with_reducible apply W.ops); (repeat (first | refine WL.opA hΓ (h := ?_) | refine WL.opX hΓ (h := ?_) | refine WL.opY (h := ?_) | refine WL.opZ (h := ?_))); with_reducible apply WL.nil) | refine W.condT (h := ?_) | refine W.condF (h := ?_))
  refine W.loopA (fun k => k ≤ l.length ∧ ∀ j, (h : j < k) → ∀ hj : j < l.length, l[j] ≠ (ta, tb, tc)) (fun k : Nat => [.slot 0 (vL cTx l), .slot 3 (one (.ptr 3 0)), .blk 3 (.box [.sc (.int .i64 ta), .sc (.int .i64 tb), .sc (.int .i64 tc)]), .slot 5 (vI k)]) (fun k => l.length - k) 0 ⟨Nat.zero_le _, fun j h => by omega⟩ (h := ?_)
  rintro k ⟨hk, hn⟩
  by_cases hlt : k < l.length
  · have hrow := tx_row hlt
    have hmem := List.getElem_mem hlt
    have hnx : l[k] ≠ (ta, tb, tc) → ∀ j, (h : j < k + 1) → ∀ hj : j < l.length, l[j] ≠ (ta, tb, tc) := fun he j h hj => by
      rcases Nat.lt_or_ge j k with h1 | h1
      · exact hn j h1 hj
      · have : j = k := by omega
        subst this
        exact he
    clear hn
    generalize l[k] = x at hrow hmem hnx
    obtain ⟨xa, xb, xc⟩ := x
    dsimp only [bTx] at hrow
    by_cases h1 : xa = ta
    · subst h1
      by_cases h2 : xb = tb
      · subst h2
        by_cases h3 : xc = tc
        · subst h3
          repeat (first | with_reducible apply W.seq | with_reducible apply W.block | with_reducible apply W.skip | with_reducible apply W.exit | with_reducible apply W.ret | with_reducible apply At.seqN | with_reducible apply At.blkN | with_reducible apply At.blkE | with_reducible apply At.blkR | with_reducible apply At.thenX | with_reducible apply At.thenR | with_reducible apply At.blkX rfl | ((with_reducible apply W.ops); (repeat (first | refine WL.opA hΓ (h := ?_) | refine WL.opX hΓ (h := ?_) | refine WL.opY (h := ?_) | refine WL.opZ (h := ?_))); with_reducible apply WL.nil) | refine W.condT (h := ?_) | refine W.condF (h := ?_))
          refine W.drawsA hΓ 6 [[], [], [0, 1], [0, 1, 2], [], [0, 1, 2, 3, 4]] (rest := ?rest51) (Es := ?Es51) (st1 := ?st151) (h := ?h51) (hf := ?hf51) (hp := ?hp51) (hd := ?hd51) (hfr := ?hfr51) (hst := ?hst51) (hT := ?hT51)
          case h51 => kernel_rfl
          case hf51 =>
            repeat (first | refine FlowT.opA (h := ?_) | refine FlowT.opX (h := ?_) | refine FlowT.opY (h := ?_) | refine FlowT.opZ (h := ?_))
            exact FlowT.done
          case hp51 => rfl
          case hd51 => rfl
          case hfr51 => rfl
          case hst51 =>
            simp only [pick_nil, pick_all, List.cons_append, List.nil_append]
            rfl
          (repeat (first | refine WL.opA hΓ (h := ?_) | refine WL.opX hΓ (h := ?_) | refine WL.opY (h := ?_) | refine WL.opZ (h := ?_)))
          with_reducible apply WL.nil
          repeat (first | with_reducible apply W.seq | with_reducible apply W.block | with_reducible apply W.skip | with_reducible apply W.exit | with_reducible apply W.ret | with_reducible apply At.seqN | with_reducible apply At.blkN | with_reducible apply At.blkE | with_reducible apply At.blkR | with_reducible apply At.thenX | with_reducible apply At.thenR | with_reducible apply At.blkX rfl | ((with_reducible apply W.ops); (repeat (first | refine WL.opA hΓ (h := ?_) | refine WL.opX hΓ (h := ?_) | refine WL.opY (h := ?_) | refine WL.opZ (h := ?_))); with_reducible apply WL.nil) | refine W.condT (h := ?_) | refine W.condF (h := ?_))
          refine At.retA (by rw [Try.results30]) (he := ?_)
          simp [hmem]
        · have hne := hnx (fun h => h3 (by simpa using h))
          clear hnx hmem
          repeat (first | with_reducible apply W.seq | with_reducible apply W.block | with_reducible apply W.skip | with_reducible apply W.exit | with_reducible apply W.ret | with_reducible apply At.seqN | with_reducible apply At.blkN | with_reducible apply At.blkE | with_reducible apply At.blkR | with_reducible apply At.thenX | with_reducible apply At.thenR | with_reducible apply At.blkX rfl | ((with_reducible apply W.ops); (repeat (first | refine WL.opA hΓ (h := ?_) | refine WL.opX hΓ (h := ?_) | refine WL.opY (h := ?_) | refine WL.opZ (h := ?_))); with_reducible apply WL.nil) | refine W.condT (h := ?_) | refine W.condF (h := ?_))
          refine W.drawsA hΓ 6 [[], [], [0, 1], [0, 1, 2], [], [0, 1, 2, 3, 4]] (rest := ?rest55) (Es := ?Es55) (st1 := ?st155) (h := ?h55) (hf := ?hf55) (hp := ?hp55) (hd := ?hd55) (hfr := ?hfr55) (hst := ?hst55) (hT := ?hT55)
          case h55 => kernel_rfl
          case hf55 =>
            repeat (first | refine FlowT.opA (h := ?_) | refine FlowT.opX (h := ?_) | refine FlowT.opY (h := ?_) | refine FlowT.opZ (h := ?_))
            exact FlowT.done
          case hp55 => rfl
          case hd55 => rfl
          case hfr55 => rfl
          case hst55 =>
            simp only [pick_nil, pick_all, List.cons_append, List.nil_append]
            rfl
          (repeat (first | refine WL.opA hΓ (h := ?_) | refine WL.opX hΓ (h := ?_) | refine WL.opY (h := ?_) | refine WL.opZ (h := ?_)))
          with_reducible apply WL.nil
          repeat (first | with_reducible apply W.seq | with_reducible apply W.block | with_reducible apply W.skip | with_reducible apply W.exit | with_reducible apply W.ret | with_reducible apply At.seqN | with_reducible apply At.blkN | with_reducible apply At.blkE | with_reducible apply At.blkR | with_reducible apply At.thenX | with_reducible apply At.thenR | with_reducible apply At.blkX rfl | ((with_reducible apply W.ops); (repeat (first | refine WL.opA hΓ (h := ?_) | refine WL.opX hΓ (h := ?_) | refine WL.opY (h := ?_) | refine WL.opZ (h := ?_))); with_reducible apply WL.nil) | refine W.condT (h := ?_) | refine W.condF (h := ?_))
          exact At.roundA (k + 1) ⟨by omega, hne⟩ (by omega)
      · have hne := hnx (fun h => h2 (by simp at h; exact h.1))
        clear hnx hmem
        repeat (first | with_reducible apply W.seq | with_reducible apply W.block | with_reducible apply W.skip | with_reducible apply W.exit | with_reducible apply W.ret | with_reducible apply At.seqN | with_reducible apply At.blkN | with_reducible apply At.blkE | with_reducible apply At.blkR | with_reducible apply At.thenX | with_reducible apply At.thenR | with_reducible apply At.blkX rfl | ((with_reducible apply W.ops); (repeat (first | refine WL.opA hΓ (h := ?_) | refine WL.opX hΓ (h := ?_) | refine WL.opY (h := ?_) | refine WL.opZ (h := ?_))); with_reducible apply WL.nil) | refine W.condT (h := ?_) | refine W.condF (h := ?_))
        refine W.drawsA hΓ 6 [[], [], [0, 1], [0, 1, 2], [], [0, 1, 2, 3, 4]] (rest := ?rest58) (Es := ?Es58) (st1 := ?st158) (h := ?h58) (hf := ?hf58) (hp := ?hp58) (hd := ?hd58) (hfr := ?hfr58) (hst := ?hst58) (hT := ?hT58)
        case h58 => kernel_rfl
        case hf58 =>
          repeat (first | refine FlowT.opA (h := ?_) | refine FlowT.opX (h := ?_) | refine FlowT.opY (h := ?_) | refine FlowT.opZ (h := ?_))
          exact FlowT.done
        case hp58 => rfl
        case hd58 => rfl
        case hfr58 => rfl
        case hst58 =>
          simp only [pick_nil, pick_all, List.cons_append, List.nil_append]
          rfl
        (repeat (first | refine WL.opA hΓ (h := ?_) | refine WL.opX hΓ (h := ?_) | refine WL.opY (h := ?_) | refine WL.opZ (h := ?_)))
        with_reducible apply WL.nil
        repeat (first | with_reducible apply W.seq | with_reducible apply W.block | with_reducible apply W.skip | with_reducible apply W.exit | with_reducible apply W.ret | with_reducible apply At.seqN | with_reducible apply At.blkN | with_reducible apply At.blkE | with_reducible apply At.blkR | with_reducible apply At.thenX | with_reducible apply At.thenR | with_reducible apply At.blkX rfl | ((with_reducible apply W.ops); (repeat (first | refine WL.opA hΓ (h := ?_) | refine WL.opX hΓ (h := ?_) | refine WL.opY (h := ?_) | refine WL.opZ (h := ?_))); with_reducible apply WL.nil) | refine W.condT (h := ?_) | refine W.condF (h := ?_))
        exact At.roundA (k + 1) ⟨by omega, hne⟩ (by omega)
    · have hne := hnx (fun h => h1 (by simp at h; exact h.1))
      clear hnx hmem
      repeat (first | with_reducible apply W.seq | with_reducible apply W.block | with_reducible apply W.skip | with_reducible apply W.exit | with_reducible apply W.ret | with_reducible apply At.seqN | with_reducible apply At.blkN | with_reducible apply At.blkE | with_reducible apply At.blkR | with_reducible apply At.thenX | with_reducible apply At.thenR | with_reducible apply At.blkX rfl | ((with_reducible apply W.ops); (repeat (first | refine WL.opA hΓ (h := ?_) | refine WL.opX hΓ (h := ?_) | refine WL.opY (h := ?_) | refine WL.opZ (h := ?_))); with_reducible apply WL.nil) | refine W.condT (h := ?_) | refine W.condF (h := ?_))
      refine W.drawsA hΓ 6 [[], [], [0, 1], [0, 1, 2], [], [0, 1, 2, 3, 4]] (rest := ?rest61) (Es := ?Es61) (st1 := ?st161) (h := ?h61) (hf := ?hf61) (hp := ?hp61) (hd := ?hd61) (hfr := ?hfr61) (hst := ?hst61) (hT := ?hT61)
      case h61 => kernel_rfl
      case hf61 =>
        repeat (first | refine FlowT.opA (h := ?_) | refine FlowT.opX (h := ?_) | refine FlowT.opY (h := ?_) | refine FlowT.opZ (h := ?_))
        exact FlowT.done
      case hp61 => rfl
      case hd61 => rfl
      case hfr61 => rfl
      case hst61 =>
        simp only [pick_nil, pick_all, List.cons_append, List.nil_append]
        rfl
      (repeat (first | refine WL.opA hΓ (h := ?_) | refine WL.opX hΓ (h := ?_) | refine WL.opY (h := ?_) | refine WL.opZ (h := ?_)))
      with_reducible apply WL.nil
      repeat (first | with_reducible apply W.seq | with_reducible apply W.block | with_reducible apply W.skip | with_reducible apply W.exit | with_reducible apply W.ret | with_reducible apply At.seqN | with_reducible apply At.blkN | with_reducible apply At.blkE | with_reducible apply At.blkR | with_reducible apply At.thenX | with_reducible apply At.thenR | with_reducible apply At.blkX rfl | ((with_reducible apply W.ops); (repeat (first | refine WL.opA hΓ (h := ?_) | refine WL.opX hΓ (h := ?_) | refine WL.opY (h := ?_) | refine WL.opZ (h := ?_))); with_reducible apply WL.nil) | refine W.condT (h := ?_) | refine W.condF (h := ?_))
      exact At.roundA (k + 1) ⟨by omega, hne⟩ (by omega)
  · have hmem : ¬ (ta, tb, tc) ∈ l := fun h => by
      obtain ⟨j, hj, e⟩ := List.getElem_of_mem h
      exact hn j (by omega) hj e
    clear hn
    repeat (first | with_reducible apply W.seq | with_reducible apply W.block | with_reducible apply W.skip | with_reducible apply W.exit | with_reducible apply W.ret | with_reducible apply At.seqN | with_reducible apply At.blkN | with_reducible apply At.blkE | with_reducible apply At.blkR | with_reducible apply At.thenX | with_reducible apply At.thenR | with_reducible apply At.blkX rfl | ((with_reducible apply W.ops); (repeat (first | refine WL.opA hΓ (h := ?_) | refine WL.opX hΓ (h := ?_) | refine WL.opY (h := ?_) | refine WL.opZ (h := ?_))); with_reducible apply WL.nil) | refine W.condT (h := ?_) | refine W.condF (h := ?_))
    refine At.retA (by rw [Try.results30]) (he := ?_)
    simp [hmem]
end Go.Proofs.Ytlchfjjoendimaa
