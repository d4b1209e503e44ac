/-
  PoolPick of spec and impl.
-/
import Derived.Test.YtlchfjjoendimaaEvList
import Derived.Test.YtlchfjjoendimaaEvPool
namespace Go.Proofs.Ytlchfjjoendimaa
set_option maxRecDepth 100000
set_option linter.unusedVariables false
set_option linter.unusedSimpArgs false
open Go Go.RowKit
set_option maxHeartbeats 4000000

/-- the best of the first k that is due -/
def bestK (due : List Int) (l : List TTx) : Nat → Option Nat
  | 0 => none
  | k + 1 => if (l.getD k (0, 0, 0)).2.1 = due.getD (l.getD k (0, 0, 0)).1.toNat 0 ∧ (∀ b, bestK due l k = some b → (l.getD b (0, 0, 0)).2.2 < (l.getD k (0, 0, 0)).2.2) then some k else bestK due l k
/-- what is still due or later -/
def leftK (due : List Int) (l : List TTx) : Nat := (l.filter fun t => decide (due.getD t.1.toNat 0 ≤ t.2.1)).length
def nextD (due : List Int) (t : TTx) : List Int := due.set t.1.toNat (due.getD t.1.toNat 0 + 1)
def pickF (l : List TTx) (most : Int) : Nat → List Int → List TTx → List TTx
  | n, due, out => if (out.length : Int) < most then match bestK due l l.length with
    | none => out
    | some b => match n with
      | 0 => out
      | n + 1 => pickF l most n (nextD due (l.getD b (0, 0, 0))) (out ++ [l.getD b (0, 0, 0)])
    else out
def dueT (next : List Int) (d0 : Int) : List Int := d0 :: (List.range 9).map fun i => next.getD i 1
def poolPick (l : List TTx) (next : List Int) (most : Int) : List TTx := if poolOk l then pickF l most l.length (dueT next 0) [] else []

theorem bestK_lt {due : List Int} {l : List TTx} : ∀ {k b : Nat}, bestK due l k = some b → b < k ∧ (l.getD b (0, 0, 0)).2.1 = due.getD (l.getD b (0, 0, 0)).1.toNat 0
  | 0, b, h => by cases h
  | k + 1, b, h => by
    unfold bestK at h
    split at h
    · rename_i hc
      cases h
      exact ⟨by omega, hc.1⟩
    · have := bestK_lt h
      exact ⟨by omega, this.2⟩
theorem filter_le {α : Type} {p q : α → Bool} (h : ∀ x, p x = true → q x = true) : ∀ r : List α, (r.filter p).length ≤ (r.filter q).length
  | [] => Nat.le_refl _
  | x :: r => by
    have ih := filter_le h r
    rw [List.filter_cons, List.filter_cons]
    split
    · rename_i hx
      rw [if_pos (h x hx)]
      simp only [List.length_cons]
      omega
    · split
      · simp only [List.length_cons]
        omega
      · exact ih
theorem leftK_lt {due : List Int} {l : List TTx} {t : TTx} (hm : t ∈ l) (ht : t.2.1 = due.getD t.1.toNat 0) (hd : t.1.toNat < due.length) : leftK (nextD due t) l + 1 ≤ leftK due l := by
  unfold leftK
  have key : ∀ x : TTx, decide ((nextD due t).getD x.1.toNat 0 ≤ x.2.1) = true → decide (due.getD x.1.toNat 0 ≤ x.2.1) = true := by
    intro x hx
    simp only [decide_eq_true_eq, nextD, List.getD_eq_getElem?_getD, List.getElem?_set] at hx ⊢
    split at hx
    · rename_i e
      rw [← e]
      simp only [Option.getD_some] at hx
      omega
    · exact hx
  have h0 : decide ((nextD due t).getD t.1.toNat 0 ≤ t.2.1) = false := by
    simp only [decide_eq_false_iff_not, nextD, List.getD_eq_getElem?_getD, List.getElem?_set, if_true, if_pos hd, Option.getD_some]
    rw [ht, List.getD_eq_getElem?_getD]
    omega
  have h1 : decide (due.getD t.1.toNat 0 ≤ t.2.1) = true := by simp [ht]
  clear ht
  induction l with
  | nil => cases hm
  | cons x r ih =>
    rw [List.filter_cons, List.filter_cons]
    rcases List.mem_cons.1 hm with rfl | hm
    · rw [if_neg (by rw [h0]; simp), if_pos h1]
      have : (r.filter fun x => decide ((nextD due t).getD x.1.toNat 0 ≤ x.2.1)).length ≤ (r.filter fun x => decide (due.getD x.1.toNat 0 ≤ x.2.1)).length :=
        filter_le key r
      simp only [List.length_cons]
      omega
    · have ih := ih hm
      split
      · rename_i hx
        rw [if_pos (key x hx)]
        simp only [List.length_cons]
        omega
      · split
        · simp only [List.length_cons]
          omega
        · exact ih
theorem leftK_le (due : List Int) (l : List TTx) : leftK due l ≤ l.length := List.length_filter_le _ _
theorem pickF_le {l : List TTx} {most : Int} : ∀ (n : Nat) (due : List Int) (out : List TTx), (pickF l most n due out).length ≤ out.length + n
  | n, due, out => by
    unfold pickF
    split
    · split
      · omega
      · rename_i b _
        cases n with
        | zero => simp
        | succ n' =>
          have := pickF_le (l := l) (most := most) n' (nextD due (l.getD b (0, 0, 0))) (out ++ [l.getD b (0, 0, 0)])
          simp only [List.length_append, List.length_cons, List.length_nil] at this
          simp only
          omega
    · omega
theorem poolPick_le (l : List TTx) (next : List Int) (most : Int) : (poolPick l next most).length ≤ l.length := by
  unfold poolPick
  split
  · have := pickF_le (l := l) (most := most) l.length (dueT next 0) []
    simpa using this
  · simp

def bI (due : List Int) (l : List TTx) (k : Nat) : Int := match bestK due l k with
  | none => -1
  | some b => b
theorem bI_none {due : List Int} {l : List TTx} {k : Nat} (h : bestK due l k = none) : bI due l k = -1 := by unfold bI; rw [h]
theorem bI_some {due : List Int} {l : List TTx} {k b : Nat} (h : bestK due l k = some b) : bI due l k = b := by unfold bI; rw [h]
theorem getD_of {α : Type} {l : List α} {k : Nat} (h : k < l.length) (d : α) : l.getD k d = l[k] := by simp [h]
theorem bK_no {due : List Int} {l : List TTx} {k : Nat} (hk : k < l.length) (h : ¬ l[k].2.1 = due.getD l[k].1.toNat 0) : bestK due l (k + 1) = bestK due l k := by
  rw [bestK, getD_of hk, if_neg (fun hc => h hc.1)]
theorem bK_first {due : List Int} {l : List TTx} {k : Nat} (hk : k < l.length) (h : l[k].2.1 = due.getD l[k].1.toNat 0) (hn : bestK due l k = none) : bestK due l (k + 1) = some k := by
  rw [bestK, getD_of hk, if_pos ⟨h, fun b hb => by rw [hn] at hb; cases hb⟩]
theorem bK_more {due : List Int} {l : List TTx} {k b : Nat} (hk : k < l.length) (hb : b < l.length) (h : l[k].2.1 = due.getD l[k].1.toNat 0) (hs : bestK due l k = some b) (hf : l[b].2.2 < l[k].2.2) : bestK due l (k + 1) = some k := by
  rw [bestK, getD_of hk, if_pos ⟨h, fun b' hb' => by rw [hs] at hb'; cases hb'; rw [getD_of hb]; exact hf⟩]
theorem bK_less {due : List Int} {l : List TTx} {k b : Nat} (hk : k < l.length) (hb : b < l.length) (hs : bestK due l k = some b) (hf : ¬ l[b].2.2 < l[k].2.2) : bestK due l (k + 1) = bestK due l k := by
  rw [bestK, getD_of hk, if_neg (fun hc => hf (by have := hc.2 b hs; rw [getD_of hb] at this; exact this))]
theorem pickF_stop {l : List TTx} {most : Int} {n : Nat} {due : List Int} {out : List TTx} (h : ¬ (out.length : Int) < most) : pickF l most n due out = out := by unfold pickF; rw [if_neg h]
theorem pickF_none {l : List TTx} {most : Int} {n : Nat} {due : List Int} {out : List TTx} (h : bestK due l l.length = none) : pickF l most n due out = out := by
  unfold pickF
  split
  · rw [h]
  · rfl
theorem pickF_next {l : List TTx} {most : Int} {n b : Nat} {due : List Int} {out : List TTx} (h : (out.length : Int) < most) (hb : b < l.length) (hs : bestK due l l.length = some b) : pickF l most (n + 1) due out = pickF l most n (nextD due l[b]) (out ++ [l[b]]) := by
  rw [pickF, if_pos h, hs]
  simp only [getD_of hb]

def wantK (next : List Int) (f : Nat) : List Int := 0 :: (((List.range 9).map fun i => next.getD i 1).take (f - 1) ++ List.replicate (10 - f) 0)
theorem wantK_len (next : List Int) {f : Nat} (h1 : 1 ≤ f) (h2 : f ≤ 10) : (wantK next f).length = 10 := by simp [wantK]; omega
theorem wantK_get (next : List Int) {f : Nat} (h1 : 1 ≤ f) (h2 : f ≤ 9) : (wantK next f)[f]? = some 0 := by
  obtain ⟨g, rfl⟩ : ∃ g, f = g + 1 := ⟨f - 1, by omega⟩
  unfold wantK
  rw [List.getElem?_cons_succ, List.getElem?_append_right (by simp; omega)]
  have hl : (((List.range 9).map fun i => next.getD i 1).take (g + 1 - 1)).length = g := by simp; omega
  rw [hl, Nat.sub_self, List.getElem?_replicate, if_pos (by omega)]
theorem wantK_succ (next : List Int) {f : Nat} (h1 : 1 ≤ f) (h2 : f ≤ 9) : wantK next (f + 1) = (wantK next f).set f (next.getD (f - 1) 1) := by
  obtain ⟨g, rfl⟩ : ∃ g, f = g + 1 := ⟨f - 1, by omega⟩
  unfold wantK
  have hl : (((List.range 9).map fun i => next.getD i 1).take g).length = g := by simp; omega
  have hr : 10 - (g + 1) = (10 - (g + 1 + 1)) + 1 := by omega
  rw [List.set_cons_succ, Nat.add_sub_cancel, Nat.add_sub_cancel, List.set_append_right _ _ (by omega), hl, Nat.sub_self, hr, List.replicate_succ, List.set_cons_zero,
    List.take_succ_eq_append_getElem (by simp; omega), List.append_assoc]
  simp
theorem wantK_all (next : List Int) : wantK next 10 = 0 :: (dueT next 1).tail := by
  unfold wantK dueT
  rw [List.take_of_length_le (by simp)]
  simp
theorem tl_get {due : List Int} (hl : due.length = 10) {i : Nat} (h1 : 1 ≤ i) : (0 :: due.tail)[i]? = due[i]? := by
  cases due with
  | nil => cases hl
  | cons d r => cases i with
    | zero => omega
    | succ i => rfl
theorem tl_set {due : List Int} (hl : due.length = 10) {i : Nat} (h1 : 1 ≤ i) (v : Int) : (0 :: due.tail).set i v = 0 :: (due.set i v).tail := by
  cases due with
  | nil => cases hl
  | cons d r => cases i with
    | zero => omega
    | succ i => rfl
abbrev ePick (x : List TTx × List Int × Int) : List Arg := [aL cTx x.1, aL cInt x.2.1, aI x.2.2]
abbrev okPick (x : List TTx × List Int × Int) : Prop := x.1.length ≤ 8796093022207 ∧ x.2.1.length ≤ 8796093022207
theorem ePick_inj : ∀ x y, ePick x = ePick y → x = y := by
  rintro ⟨a, b, c⟩ ⟨d, e, f⟩ h
  simpa [ePick] using h

theorem pickS_s : Sound Try.prog 35 (mdl okPick ePick fun x => rL 44 3 cTx (if poolOk x.1 then pickF x.1 x.2.2 x.1.length (dueT x.2.1 1) [] else [])) := by
  refine Sound.mdl Try.func35 rfl Try.ntmps35 ?_
  rintro ⟨l, next, most⟩ w ⟨hl, hi⟩
  refine ⟨by simp, ?_⟩
  replace hl : l.length ≤ 8796093022207 := hl
  replace hi : next.length ≤ 8796093022207 := hi
  have hΓ : GSound Try.prog (look [(29, mPool)]) := env_cons (has_of Try.func29 rfl rfl) poolS_s env_nil
  have c1 := mPool_eq l hl
  have hw0 : List.replicate 10 [Leaf.sc (.int .i64 0)] = rowsF cInt (wantK next 1) := rfl
  simp only [initS, argPV, List.map_cons, List.map_nil, toPL, Nat.zero_add]
  repeat (first | with_reducible apply W.seq | with_reducible apply W.block | with_reducible apply W.skip | with_reducible apply W.exit | with_reducible apply W.ret | with_reducible apply At.seqN | with_reducible apply At.blkN | with_reducible apply At.blkE | with_reducible apply At.blkR | with_reducible apply At.thenX | with_reducible apply At.thenR | with_reducible apply At.blkX rfl | ((with_reducible apply W.ops); (repeat (first | refine WL.opA hΓ (h := ?_) | refine WL.opX hΓ (h := ?_) | refine WL.opY (h := ?_) | refine WL.opZ (h := ?_))); with_reducible apply WL.nil) | refine W.condT (h := ?_) | refine W.condF (h := ?_))
  refine W.loopA (fun f => 1 ≤ f ∧ f ≤ 10) (fun f : Nat => [.slot 9 (vI f), .slot 8 (one (.all 13)), .slot 7 (one (.all 12)), .slot 0 (vL cTx l), .slot 1 (vL cInt next), .slot 2 (vI most), .blk 12 (.arr true 44 3 []), .blk 13 (.arr true 3 1 (rowsF cInt (wantK next f)))]) (fun f => 10 - f) 1 ⟨by omega, by omega⟩ (h := ?_)
  rintro f ⟨hf1, hf2⟩
  have hwl := wantK_len next hf1 hf2
  by_cases hf : f ≤ 9
  · have hg : (rowsF cInt (wantK next f))[f]? = some [.sc (.int .i64 0)] := by
      unfold rowsF
      rw [List.getElem?_map, wantK_get next hf1 hf]
      rfl
    have hs := wantK_succ next hf1 hf
    by_cases hn : f ≤ next.length
    · have e1 : (rowsF cInt (wantK next f)).set f [.sc (.int .i64 1)] = rowsF cInt ((wantK next f).set f 1) := rowsF_set cInt _ _ _
      have hwl2 : ((wantK next f).set f 1).length = 10 := by rw [List.length_set]; exact hwl
      have hg2 : (rowsF cInt ((wantK next f).set f 1))[f]? = some [.sc (.int .i64 1)] := by
        unfold rowsF
        rw [List.getElem?_map, List.getElem?_set_self (by omega)]
        rfl
      have hrow := row_at cInt next (k := f - 1) (by omega)
      simp only [cInt, List.map_cons, List.map_nil] at hrow
      have e3 : ((f : Int) - 1).toNat = f - 1 := by omega
      have e2 : (rowsF cInt ((wantK next f).set f 1)).set f [.sc (.int .i64 next[f - 1])] = rowsF cInt (wantK next (f + 1)) := by
        rw [hs, show [Leaf.sc (.int .i64 next[f - 1])] = (cInt next[f - 1]).map Leaf.sc from rfl, rowsF_set, List.set_set, getD_of (by omega)]
      repeat (first | with_reducible apply W.seq | with_reducible apply W.block | with_reducible apply W.skip | with_reducible apply W.exit | with_reducible apply W.ret | with_reducible apply At.seqN | with_reducible apply At.blkN | with_reducible apply At.blkE | with_reducible apply At.blkR | with_reducible apply At.thenX | with_reducible apply At.thenR | with_reducible apply At.blkX rfl | ((with_reducible apply W.ops); (repeat (first | refine WL.opA hΓ (h := ?_) | refine WL.opX hΓ (h := ?_) | refine WL.opY (h := ?_) | refine WL.opZ (h := ?_))); with_reducible apply WL.nil) | refine W.condT (h := ?_) | refine W.condF (h := ?_))
      exact At.roundA (f + 1) ⟨by omega, by omega⟩ (by omega)
    · have e1 : (rowsF cInt (wantK next f)).set f [.sc (.int .i64 1)] = rowsF cInt (wantK next (f + 1)) := by
        rw [hs, show [Leaf.sc (.int .i64 1)] = (cInt 1).map Leaf.sc from rfl, rowsF_set]
        congr 2
        rw [List.getD_eq_getElem?_getD, List.getElem?_eq_none (by omega)]
        rfl
      repeat (first | with_reducible apply W.seq | with_reducible apply W.block | with_reducible apply W.skip | with_reducible apply W.exit | with_reducible apply W.ret | with_reducible apply At.seqN | with_reducible apply At.blkN | with_reducible apply At.blkE | with_reducible apply At.blkR | with_reducible apply At.thenX | with_reducible apply At.thenR | with_reducible apply At.blkX rfl | ((with_reducible apply W.ops); (repeat (first | refine WL.opA hΓ (h := ?_) | refine WL.opX hΓ (h := ?_) | refine WL.opY (h := ?_) | refine WL.opZ (h := ?_))); with_reducible apply WL.nil) | refine W.condT (h := ?_) | refine W.condF (h := ?_))
      exact At.roundA (f + 1) ⟨by omega, by omega⟩ (by omega)
  have hf : f = 10 := by omega
  subst hf
  have hwa := wantK_all next
  by_cases hp : poolOk l
  · have hl14 : l.length ≤ 14 := hp.1
    have hnil : rowsF cTx [] = [] := rfl
    have hd0 : (dueT next 1).length = 10 := by simp [dueT]
    repeat (first | with_reducible apply W.seq | with_reducible apply W.block | with_reducible apply W.skip | with_reducible apply W.exit | with_reducible apply W.ret | with_reducible apply At.seqN | with_reducible apply At.blkN | with_reducible apply At.blkE | with_reducible apply At.blkR | with_reducible apply At.thenX | with_reducible apply At.thenR | with_reducible apply At.blkX rfl | ((with_reducible apply W.ops); (repeat (first | refine WL.opA hΓ (h := ?_) | refine WL.opX hΓ (h := ?_) | refine WL.opY (h := ?_) | refine WL.opZ (h := ?_))); with_reducible apply WL.nil) | refine W.condT (h := ?_) | refine W.condF (h := ?_))
    refine W.loopA (fun s : Nat × List Int × List TTx => s.2.1.length = 10 ∧ leftK s.2.1 l ≤ s.1 ∧ s.2.2.length + s.1 ≤ 14 ∧ pickF l most s.1 s.2.1 s.2.2 = pickF l most l.length (dueT next 1) [])
      (fun s => [.slot 8 (one (.all 13)), .slot 7 (one (.all 12)), .slot 0 (vL cTx l), .slot 2 (vI most), .blk 12 (.arr true 44 3 (rowsF cTx s.2.2)), .blk 13 (.arr true 3 1 (rowsF cInt (0 :: s.2.1.tail)))]) (fun s => s.1) (l.length, dueT next 1, [])
      ⟨hd0, leftK_le _ _, by simpa using hl14, rfl⟩ (h := ?_)
    rintro ⟨n, due, out⟩ ⟨hdl, hleft, hlen, hR⟩
    dsimp only at hdl hleft hlen hR ⊢
    by_cases hm : (out.length : Int) < most
    · repeat (first | with_reducible apply W.seq | with_reducible apply W.block | with_reducible apply W.skip | with_reducible apply W.exit | with_reducible apply W.ret | with_reducible apply At.seqN | with_reducible apply At.blkN | with_reducible apply At.blkE | with_reducible apply At.blkR | with_reducible apply At.thenX | with_reducible apply At.thenR | with_reducible apply At.blkX rfl | ((with_reducible apply W.ops); (repeat (first | refine WL.opA hΓ (h := ?_) | refine WL.opX hΓ (h := ?_) | refine WL.opY (h := ?_) | refine WL.opZ (h := ?_))); with_reducible apply WL.nil) | refine W.condT (h := ?_) | refine W.condF (h := ?_))
      have hb0 : bI due l 0 = -1 := rfl
      refine W.loopA (fun k => k ≤ l.length) (fun k : Nat => [.slot 11 (vI k), .slot 10 (vI (bI due l k)), .slot 8 (one (.all 13)), .slot 7 (one (.all 12)), .slot 0 (vL cTx l), .slot 2 (vI most), .blk 12 (.arr true 44 3 (rowsF cTx out)), .blk 13 (.arr true 3 1 (rowsF cInt (0 :: due.tail)))]) (fun k => l.length - k) 0 (Nat.zero_le _) (h := ?_)
      rintro k hk
      have htl : (0 :: due.tail).length = 10 := by simp [hdl]
      have htl9 : due.tail.length = 9 := by simp [hdl]
      by_cases hlt : k < l.length
      · have hrow := row_at cTx l hlt
        simp only [cTx, List.map_cons, List.map_nil] at hrow
        obtain ⟨t1, t2, t3, t4, t5, t6⟩ := tx_at hp hlt
        have hwant : (rowsF cInt (0 :: due.tail))[l[k].1.toNat]? = some [.sc (.int .i64 (due.getD l[k].1.toNat 0))] := by
          unfold rowsF
          rw [List.getElem?_map, tl_get hdl (by omega), List.getD_eq_getElem?_getD, List.getElem?_eq_getElem (by omega)]
          rfl
        generalize hv : due.getD l[k].1.toNat 0 = v at hwant
        by_cases h1 : l[k].2.1 = v
        · cases hs : bestK due l k with
          | none =>
            have hb := bI_none hs
            have hb2 := bI_some (bK_first hlt (h1.trans hv.symm) hs)
            clear hv
            repeat (first | with_reducible apply W.seq | with_reducible apply W.block | with_reducible apply W.skip | with_reducible apply W.exit | with_reducible apply W.ret | with_reducible apply At.seqN | with_reducible apply At.blkN | with_reducible apply At.blkE | with_reducible apply At.blkR | with_reducible apply At.thenX | with_reducible apply At.thenR | with_reducible apply At.blkX rfl | ((with_reducible apply W.ops); (repeat (first | refine WL.opA hΓ (h := ?_) | refine WL.opX hΓ (h := ?_) | refine WL.opY (h := ?_) | refine WL.opZ (h := ?_))); with_reducible apply WL.nil) | refine W.condT (h := ?_) | refine W.condF (h := ?_))
            refine W.drawsA hΓ 31 [[], [], [0, 1], [0, 1, 2], [0, 1, 2, 3], [], [], [], [6, 7], [6, 7, 8], [6, 7, 8, 9], [5, 6, 7, 8, 9, 10], [5, 6, 7, 8, 9, 10, 11], [0, 1, 2, 3, 4, 5, 6, 7, 8, 9, 10, 11, 12], [0, 1, 2, 3, 4, 5, 6, 7, 8, 9, 10, 11, 12, 13], [0, 1, 2, 3, 4, 5, 6, 7, 8, 9, 10, 11, 12, 13, 14], [0, 1, 2, 3, 4, 5, 6, 7, 8, 9, 10, 11, 12, 13, 14, 15], [0, 1, 2, 3, 4, 5, 6, 7, 8, 9, 10, 11, 12, 13, 14, 15, 16], [0, 1, 2, 3, 4, 5, 6, 7, 8, 9, 10, 11, 12, 13, 14, 15, 16, 17], [0, 1, 2, 3, 4, 5, 6, 7, 8, 9, 10, 11, 12, 13, 14, 15, 16, 17], [0, 1, 2, 3, 4, 5, 6, 7, 8, 9, 10, 11, 12, 13, 14, 15, 16, 17, 18, 19], [0, 1, 2, 3, 4, 5, 6, 7, 8, 9, 10, 11, 12, 13, 14, 15, 16, 17, 18, 19, 20], [0, 1, 2, 3, 4, 5, 6, 7, 8, 9, 10, 11, 12, 13, 14, 15, 16, 17, 18, 19, 20, 21], [0, 1, 2, 3, 4, 5, 6, 7, 8, 9, 10, 11, 12, 13, 14, 15, 16, 17], [0, 1, 2, 3, 4, 5, 6, 7, 8, 9, 10, 11, 12, 13, 14, 15, 16, 17], [0, 1, 2, 3, 4, 5, 6, 7, 8, 9, 10, 11, 12, 13, 14, 15, 16, 17, 23, 24], [0, 1, 2, 3, 4, 5, 6, 7, 8, 9, 10, 11, 12, 13, 14, 15, 16, 17, 23, 24, 25], [0, 1, 2, 3, 4, 5, 6, 7, 8, 9, 10, 11, 12, 13, 14, 15, 16, 17, 23, 24, 25, 26], [0, 1, 2, 3, 4, 5, 6, 7, 8, 9, 10, 11, 12, 13, 14, 15, 16, 17, 18, 19, 20, 21, 22, 23, 24, 25, 26, 27], [0, 1, 2, 3, 4, 5, 6, 7, 8, 9, 10, 11, 12, 13, 14, 15, 16, 17, 18, 19, 20, 21, 22, 23, 24, 25, 26, 27, 28], [0, 1, 2, 3, 4, 5, 6, 7, 8, 9, 10, 11, 12, 13, 14, 15, 16, 17, 18, 19, 20, 21, 22, 23, 24, 25, 26, 27, 28, 29]] (rest := ?rest9) (Es := ?Es9) (st1 := ?st19) (h := ?h9) (hf := ?hf9) (hp := ?hp9) (hd := ?hd9) (hfr := ?hfr9) (hst := ?hst9) (hT := ?hT9)
            case h9 => kernel_rfl
            case hf9 =>
              repeat (first | refine FlowT.opA (h := ?_) | refine FlowT.opX (h := ?_) | refine FlowT.opY (h := ?_) | refine FlowT.opZ (h := ?_))
              exact FlowT.done
            case hp9 => rfl
            case hd9 => rfl
            case hfr9 => rfl
            case hst9 =>
              simp only [pick_nil, pick_all, List.cons_append, List.nil_append]
              rfl
            (repeat (first | refine WL.opA hΓ (h := ?_) | refine WL.opX hΓ (h := ?_) | refine WL.opY (h := ?_) | refine WL.opZ (h := ?_)))
            with_reducible apply WL.nil
            repeat (first | with_reducible apply W.seq | with_reducible apply W.block | with_reducible apply W.skip | with_reducible apply W.exit | with_reducible apply W.ret | with_reducible apply At.seqN | with_reducible apply At.blkN | with_reducible apply At.blkE | with_reducible apply At.blkR | with_reducible apply At.thenX | with_reducible apply At.thenR | with_reducible apply At.blkX rfl | ((with_reducible apply W.ops); (repeat (first | refine WL.opA hΓ (h := ?_) | refine WL.opX hΓ (h := ?_) | refine WL.opY (h := ?_) | refine WL.opZ (h := ?_))); with_reducible apply WL.nil) | refine W.condT (h := ?_) | refine W.condF (h := ?_))
            exact At.roundA (k + 1) (by omega) (by omega)
          | some b =>
            have hb := bI_some hs
            obtain ⟨hbk, _⟩ := bestK_lt hs
            have hrowb := row_at cTx l (k := b) (by omega)
            simp only [cTx, List.map_cons, List.map_nil] at hrowb
            by_cases hf : l[b].2.2 < l[k].2.2
            · have hb2 := bI_some (bK_more hlt (by omega) (h1.trans hv.symm) hs hf)
              clear hv
              repeat (first | with_reducible apply W.seq | with_reducible apply W.block | with_reducible apply W.skip | with_reducible apply W.exit | with_reducible apply W.ret | with_reducible apply At.seqN | with_reducible apply At.blkN | with_reducible apply At.blkE | with_reducible apply At.blkR | with_reducible apply At.thenX | with_reducible apply At.thenR | with_reducible apply At.blkX rfl | ((with_reducible apply W.ops); (repeat (first | refine WL.opA hΓ (h := ?_) | refine WL.opX hΓ (h := ?_) | refine WL.opY (h := ?_) | refine WL.opZ (h := ?_))); with_reducible apply WL.nil) | refine W.condT (h := ?_) | refine W.condF (h := ?_))
              refine W.drawsA hΓ 31 [[], [], [0, 1], [0, 1, 2], [0, 1, 2, 3], [], [], [], [6, 7], [6, 7, 8], [6, 7, 8, 9], [5, 6, 7, 8, 9, 10], [5, 6, 7, 8, 9, 10, 11], [0, 1, 2, 3, 4, 5, 6, 7, 8, 9, 10, 11, 12], [0, 1, 2, 3, 4, 5, 6, 7, 8, 9, 10, 11, 12, 13], [0, 1, 2, 3, 4, 5, 6, 7, 8, 9, 10, 11, 12, 13, 14], [0, 1, 2, 3, 4, 5, 6, 7, 8, 9, 10, 11, 12, 13, 14, 15], [0, 1, 2, 3, 4, 5, 6, 7, 8, 9, 10, 11, 12, 13, 14, 15, 16], [0, 1, 2, 3, 4, 5, 6, 7, 8, 9, 10, 11, 12, 13, 14, 15, 16, 17], [0, 1, 2, 3, 4, 5, 6, 7, 8, 9, 10, 11, 12, 13, 14, 15, 16, 17], [0, 1, 2, 3, 4, 5, 6, 7, 8, 9, 10, 11, 12, 13, 14, 15, 16, 17, 18, 19], [0, 1, 2, 3, 4, 5, 6, 7, 8, 9, 10, 11, 12, 13, 14, 15, 16, 17, 18, 19, 20], [0, 1, 2, 3, 4, 5, 6, 7, 8, 9, 10, 11, 12, 13, 14, 15, 16, 17, 18, 19, 20, 21], [0, 1, 2, 3, 4, 5, 6, 7, 8, 9, 10, 11, 12, 13, 14, 15, 16, 17], [0, 1, 2, 3, 4, 5, 6, 7, 8, 9, 10, 11, 12, 13, 14, 15, 16, 17], [0, 1, 2, 3, 4, 5, 6, 7, 8, 9, 10, 11, 12, 13, 14, 15, 16, 17, 23, 24], [0, 1, 2, 3, 4, 5, 6, 7, 8, 9, 10, 11, 12, 13, 14, 15, 16, 17, 23, 24, 25], [0, 1, 2, 3, 4, 5, 6, 7, 8, 9, 10, 11, 12, 13, 14, 15, 16, 17, 23, 24, 25, 26], [0, 1, 2, 3, 4, 5, 6, 7, 8, 9, 10, 11, 12, 13, 14, 15, 16, 17, 18, 19, 20, 21, 22, 23, 24, 25, 26, 27], [0, 1, 2, 3, 4, 5, 6, 7, 8, 9, 10, 11, 12, 13, 14, 15, 16, 17, 18, 19, 20, 21, 22, 23, 24, 25, 26, 27, 28], [0, 1, 2, 3, 4, 5, 6, 7, 8, 9, 10, 11, 12, 13, 14, 15, 16, 17, 18, 19, 20, 21, 22, 23, 24, 25, 26, 27, 28, 29]] (rest := ?rest12) (Es := ?Es12) (st1 := ?st112) (h := ?h12) (hf := ?hf12) (hp := ?hp12) (hd := ?hd12) (hfr := ?hfr12) (hst := ?hst12) (hT := ?hT12)
              case h12 => kernel_rfl
              case hf12 =>
                repeat (first | refine FlowT.opA (h := ?_) | refine FlowT.opX (h := ?_) | refine FlowT.opY (h := ?_) | refine FlowT.opZ (h := ?_))
                exact FlowT.done
              case hp12 => rfl
              case hd12 => rfl
              case hfr12 => rfl
              case hst12 =>
                simp only [pick_nil, pick_all, List.cons_append, List.nil_append]
                rfl
              (repeat (first | refine WL.opA hΓ (h := ?_) | refine WL.opX hΓ (h := ?_) | refine WL.opY (h := ?_) | refine WL.opZ (h := ?_)))
              with_reducible apply WL.nil
              repeat (first | with_reducible apply W.seq | with_reducible apply W.block | with_reducible apply W.skip | with_reducible apply W.exit | with_reducible apply W.ret | with_reducible apply At.seqN | with_reducible apply At.blkN | with_reducible apply At.blkE | with_reducible apply At.blkR | with_reducible apply At.thenX | with_reducible apply At.thenR | with_reducible apply At.blkX rfl | ((with_reducible apply W.ops); (repeat (first | refine WL.opA hΓ (h := ?_) | refine WL.opX hΓ (h := ?_) | refine WL.opY (h := ?_) | refine WL.opZ (h := ?_))); with_reducible apply WL.nil) | refine W.condT (h := ?_) | refine W.condF (h := ?_))
              exact At.roundA (k + 1) (by omega) (by omega)
            · have hb2 : bI due l (k + 1) = b := bI_some ((bK_less hlt (by omega) hs hf).trans hs)
              clear hv
              repeat (first | with_reducible apply W.seq | with_reducible apply W.block | with_reducible apply W.skip | with_reducible apply W.exit | with_reducible apply W.ret | with_reducible apply At.seqN | with_reducible apply At.blkN | with_reducible apply At.blkE | with_reducible apply At.blkR | with_reducible apply At.thenX | with_reducible apply At.thenR | with_reducible apply At.blkX rfl | ((with_reducible apply W.ops); (repeat (first | refine WL.opA hΓ (h := ?_) | refine WL.opX hΓ (h := ?_) | refine WL.opY (h := ?_) | refine WL.opZ (h := ?_))); with_reducible apply WL.nil) | refine W.condT (h := ?_) | refine W.condF (h := ?_))
              refine W.drawsA hΓ 31 [[], [], [0, 1], [0, 1, 2], [0, 1, 2, 3], [], [], [], [6, 7], [6, 7, 8], [6, 7, 8, 9], [5, 6, 7, 8, 9, 10], [5, 6, 7, 8, 9, 10, 11], [0, 1, 2, 3, 4, 5, 6, 7, 8, 9, 10, 11, 12], [0, 1, 2, 3, 4, 5, 6, 7, 8, 9, 10, 11, 12, 13], [0, 1, 2, 3, 4, 5, 6, 7, 8, 9, 10, 11, 12, 13, 14], [0, 1, 2, 3, 4, 5, 6, 7, 8, 9, 10, 11, 12, 13, 14, 15], [0, 1, 2, 3, 4, 5, 6, 7, 8, 9, 10, 11, 12, 13, 14, 15, 16], [0, 1, 2, 3, 4, 5, 6, 7, 8, 9, 10, 11, 12, 13, 14, 15, 16, 17], [0, 1, 2, 3, 4, 5, 6, 7, 8, 9, 10, 11, 12, 13, 14, 15, 16, 17], [0, 1, 2, 3, 4, 5, 6, 7, 8, 9, 10, 11, 12, 13, 14, 15, 16, 17, 18, 19], [0, 1, 2, 3, 4, 5, 6, 7, 8, 9, 10, 11, 12, 13, 14, 15, 16, 17, 18, 19, 20], [0, 1, 2, 3, 4, 5, 6, 7, 8, 9, 10, 11, 12, 13, 14, 15, 16, 17, 18, 19, 20, 21], [0, 1, 2, 3, 4, 5, 6, 7, 8, 9, 10, 11, 12, 13, 14, 15, 16, 17], [0, 1, 2, 3, 4, 5, 6, 7, 8, 9, 10, 11, 12, 13, 14, 15, 16, 17], [0, 1, 2, 3, 4, 5, 6, 7, 8, 9, 10, 11, 12, 13, 14, 15, 16, 17, 23, 24], [0, 1, 2, 3, 4, 5, 6, 7, 8, 9, 10, 11, 12, 13, 14, 15, 16, 17, 23, 24, 25], [0, 1, 2, 3, 4, 5, 6, 7, 8, 9, 10, 11, 12, 13, 14, 15, 16, 17, 23, 24, 25, 26], [0, 1, 2, 3, 4, 5, 6, 7, 8, 9, 10, 11, 12, 13, 14, 15, 16, 17, 18, 19, 20, 21, 22, 23, 24, 25, 26, 27], [0, 1, 2, 3, 4, 5, 6, 7, 8, 9, 10, 11, 12, 13, 14, 15, 16, 17, 18, 19, 20, 21, 22, 23, 24, 25, 26, 27, 28], [0, 1, 2, 3, 4, 5, 6, 7, 8, 9, 10, 11, 12, 13, 14, 15, 16, 17, 18, 19, 20, 21, 22, 23, 24, 25, 26, 27, 28, 29]] (rest := ?rest15) (Es := ?Es15) (st1 := ?st115) (h := ?h15) (hf := ?hf15) (hp := ?hp15) (hd := ?hd15) (hfr := ?hfr15) (hst := ?hst15) (hT := ?hT15)
              case h15 => kernel_rfl
              case hf15 =>
                repeat (first | refine FlowT.opA (h := ?_) | refine FlowT.opX (h := ?_) | refine FlowT.opY (h := ?_) | refine FlowT.opZ (h := ?_))
                exact FlowT.done
              case hp15 => rfl
              case hd15 => rfl
              case hfr15 => rfl
              case hst15 =>
                simp only [pick_nil, pick_all, List.cons_append, List.nil_append]
                rfl
              (repeat (first | refine WL.opA hΓ (h := ?_) | refine WL.opX hΓ (h := ?_) | refine WL.opY (h := ?_) | refine WL.opZ (h := ?_)))
              with_reducible apply WL.nil
              repeat (first | with_reducible apply W.seq | with_reducible apply W.block | with_reducible apply W.skip | with_reducible apply W.exit | with_reducible apply W.ret | with_reducible apply At.seqN | with_reducible apply At.blkN | with_reducible apply At.blkE | with_reducible apply At.blkR | with_reducible apply At.thenX | with_reducible apply At.thenR | with_reducible apply At.blkX rfl | ((with_reducible apply W.ops); (repeat (first | refine WL.opA hΓ (h := ?_) | refine WL.opX hΓ (h := ?_) | refine WL.opY (h := ?_) | refine WL.opZ (h := ?_))); with_reducible apply WL.nil) | refine W.condT (h := ?_) | refine W.condF (h := ?_))
              exact At.roundA (k + 1) (by omega) (by omega)
        · have hb2 : bI due l (k + 1) = bI due l k := by unfold bI; rw [bK_no hlt (by rw [hv]; exact h1)]
          clear hv
          repeat (first | with_reducible apply W.seq | with_reducible apply W.block | with_reducible apply W.skip | with_reducible apply W.exit | with_reducible apply W.ret | with_reducible apply At.seqN | with_reducible apply At.blkN | with_reducible apply At.blkE | with_reducible apply At.blkR | with_reducible apply At.thenX | with_reducible apply At.thenR | with_reducible apply At.blkX rfl | ((with_reducible apply W.ops); (repeat (first | refine WL.opA hΓ (h := ?_) | refine WL.opX hΓ (h := ?_) | refine WL.opY (h := ?_) | refine WL.opZ (h := ?_))); with_reducible apply WL.nil) | refine W.condT (h := ?_) | refine W.condF (h := ?_))
          refine W.drawsA hΓ 31 [[], [], [0, 1], [0, 1, 2], [0, 1, 2, 3], [], [], [], [6, 7], [6, 7, 8], [6, 7, 8, 9], [5, 6, 7, 8, 9, 10], [5, 6, 7, 8, 9, 10, 11], [0, 1, 2, 3, 4, 5, 6, 7, 8, 9, 10, 11, 12], [0, 1, 2, 3, 4, 5, 6, 7, 8, 9, 10, 11, 12, 13], [0, 1, 2, 3, 4, 5, 6, 7, 8, 9, 10, 11, 12, 13, 14], [0, 1, 2, 3, 4, 5, 6, 7, 8, 9, 10, 11, 12, 13, 14, 15], [0, 1, 2, 3, 4, 5, 6, 7, 8, 9, 10, 11, 12, 13, 14, 15, 16], [0, 1, 2, 3, 4, 5, 6, 7, 8, 9, 10, 11, 12, 13, 14, 15, 16, 17], [0, 1, 2, 3, 4, 5, 6, 7, 8, 9, 10, 11, 12, 13, 14, 15, 16, 17], [0, 1, 2, 3, 4, 5, 6, 7, 8, 9, 10, 11, 12, 13, 14, 15, 16, 17, 18, 19], [0, 1, 2, 3, 4, 5, 6, 7, 8, 9, 10, 11, 12, 13, 14, 15, 16, 17, 18, 19, 20], [0, 1, 2, 3, 4, 5, 6, 7, 8, 9, 10, 11, 12, 13, 14, 15, 16, 17, 18, 19, 20, 21], [0, 1, 2, 3, 4, 5, 6, 7, 8, 9, 10, 11, 12, 13, 14, 15, 16, 17], [0, 1, 2, 3, 4, 5, 6, 7, 8, 9, 10, 11, 12, 13, 14, 15, 16, 17], [0, 1, 2, 3, 4, 5, 6, 7, 8, 9, 10, 11, 12, 13, 14, 15, 16, 17, 23, 24], [0, 1, 2, 3, 4, 5, 6, 7, 8, 9, 10, 11, 12, 13, 14, 15, 16, 17, 23, 24, 25], [0, 1, 2, 3, 4, 5, 6, 7, 8, 9, 10, 11, 12, 13, 14, 15, 16, 17, 23, 24, 25, 26], [0, 1, 2, 3, 4, 5, 6, 7, 8, 9, 10, 11, 12, 13, 14, 15, 16, 17, 18, 19, 20, 21, 22, 23, 24, 25, 26, 27], [0, 1, 2, 3, 4, 5, 6, 7, 8, 9, 10, 11, 12, 13, 14, 15, 16, 17, 18, 19, 20, 21, 22, 23, 24, 25, 26, 27, 28], [0, 1, 2, 3, 4, 5, 6, 7, 8, 9, 10, 11, 12, 13, 14, 15, 16, 17, 18, 19, 20, 21, 22, 23, 24, 25, 26, 27, 28, 29]] (rest := ?rest18) (Es := ?Es18) (st1 := ?st118) (h := ?h18) (hf := ?hf18) (hp := ?hp18) (hd := ?hd18) (hfr := ?hfr18) (hst := ?hst18) (hT := ?hT18)
          case h18 => kernel_rfl
          case hf18 =>
            repeat (first | refine FlowT.opA (h := ?_) | refine FlowT.opX (h := ?_) | refine FlowT.opY (h := ?_) | refine FlowT.opZ (h := ?_))
            exact FlowT.done
          case hp18 => rfl
          case hd18 => rfl
          case hfr18 => rfl
          case hst18 =>
            simp only [pick_nil, pick_all, List.cons_append, List.nil_append]
            rfl
          (repeat (first | refine WL.opA hΓ (h := ?_) | refine WL.opX hΓ (h := ?_) | refine WL.opY (h := ?_) | refine WL.opZ (h := ?_)))
          with_reducible apply WL.nil
          repeat (first | with_reducible apply W.seq | with_reducible apply W.block | with_reducible apply W.skip | with_reducible apply W.exit | with_reducible apply W.ret | with_reducible apply At.seqN | with_reducible apply At.blkN | with_reducible apply At.blkE | with_reducible apply At.blkR | with_reducible apply At.thenX | with_reducible apply At.thenR | with_reducible apply At.blkX rfl | ((with_reducible apply W.ops); (repeat (first | refine WL.opA hΓ (h := ?_) | refine WL.opX hΓ (h := ?_) | refine WL.opY (h := ?_) | refine WL.opZ (h := ?_))); with_reducible apply WL.nil) | refine W.condT (h := ?_) | refine W.condF (h := ?_))
          exact At.roundA (k + 1) (by omega) (by omega)
      · have hke : k = l.length := by omega
        subst hke
        cases hs : bestK due l l.length with
        | none =>
          have hb := bI_none hs
          repeat (first | with_reducible apply W.seq | with_reducible apply W.block | with_reducible apply W.skip | with_reducible apply W.exit | with_reducible apply W.ret | with_reducible apply At.seqN | with_reducible apply At.blkN | with_reducible apply At.blkE | with_reducible apply At.blkR | with_reducible apply At.thenX | with_reducible apply At.thenR | with_reducible apply At.blkX rfl | ((with_reducible apply W.ops); (repeat (first | refine WL.opA hΓ (h := ?_) | refine WL.opX hΓ (h := ?_) | refine WL.opY (h := ?_) | refine WL.opZ (h := ?_))); with_reducible apply WL.nil) | refine W.condT (h := ?_) | refine W.condF (h := ?_))
          refine At.retA (by rw [Try.results35]) (he := ?_)
          simp only [if_pos hp, ← hR, pickF_none hs]
        | some b =>
          have hb := bI_some hs
          obtain ⟨hbk, hbn⟩ := bestK_lt hs
          rw [getD_of hbk] at hbn
          have hrowb := row_at cTx l hbk
          simp only [cTx, List.map_cons, List.map_nil] at hrowb
          obtain ⟨t1, t2, t3, t4, t5, t6⟩ := tx_at hp hbk
          have hwant : (rowsF cInt (0 :: due.tail))[l[b].1.toNat]? = some [.sc (.int .i64 l[b].2.1)] := by
            unfold rowsF
            rw [List.getElem?_map, tl_get hdl (by omega), hbn, List.getD_eq_getElem?_getD, List.getElem?_eq_getElem (by omega)]
            rfl
          have hset : (rowsF cInt (0 :: due.tail)).set l[b].1.toNat [.sc (.int .i64 (l[b].2.1 + 1))] = rowsF cInt (0 :: (nextD due l[b]).tail) := by
            rw [show [Leaf.sc (.int .i64 (l[b].2.1 + 1))] = (cInt (l[b].2.1 + 1)).map Leaf.sc from rfl, rowsF_set, tl_set hdl (by omega), hbn]
            rfl
          have happ : rowsF cTx out ++ [[.sc (.int .i64 l[b].1), .sc (.int .i64 l[b].2.1), .sc (.int .i64 l[b].2.2)]] = rowsF cTx (out ++ [l[b]]) := by rw [← rowsF_app]; rfl
          have hleft2 := leftK_lt (List.getElem_mem hbk) hbn (by omega)
          obtain ⟨n', rfl⟩ : ∃ n', n = n' + 1 := ⟨n - 1, by omega⟩
          rw [pickF_next hm hbk hs] at hR
          clear hbn
          repeat (first | with_reducible apply W.seq | with_reducible apply W.block | with_reducible apply W.skip | with_reducible apply W.exit | with_reducible apply W.ret | with_reducible apply At.seqN | with_reducible apply At.blkN | with_reducible apply At.blkE | with_reducible apply At.blkR | with_reducible apply At.thenX | with_reducible apply At.thenR | with_reducible apply At.blkX rfl | ((with_reducible apply W.ops); (repeat (first | refine WL.opA hΓ (h := ?_) | refine WL.opX hΓ (h := ?_) | refine WL.opY (h := ?_) | refine WL.opZ (h := ?_))); with_reducible apply WL.nil) | refine W.condT (h := ?_) | refine W.condF (h := ?_))
          refine W.drawsA hΓ 16 [[], [], [], [1, 2], [1, 2, 3], [1, 2, 3, 4], [], [], [], [7, 8], [7, 8, 9], [7, 8, 9, 10], [6, 7, 8, 9, 10, 11], [6, 7, 8, 9, 10, 11, 12], [6, 7, 8, 9, 10, 11, 12, 13], [0, 1, 2, 3, 4, 5, 6, 7, 8, 9, 10, 11, 12, 13, 14], [0, 1, 2, 3, 4, 5, 6, 7, 8, 9, 10, 11, 12, 13, 14, 15]] (rest := ?rest23) (Es := ?Es23) (st1 := ?st123) (h := ?h23) (hf := ?hf23) (hp := ?hp23) (hd := ?hd23) (hfr := ?hfr23) (hst := ?hst23) (hT := ?hT23)
          case h23 => kernel_rfl
          case hf23 =>
            repeat (first | refine FlowT.opA (h := ?_) | refine FlowT.opX (h := ?_) | refine FlowT.opY (h := ?_) | refine FlowT.opZ (h := ?_))
            exact FlowT.done
          case hp23 => rfl
          case hd23 => rfl
          case hfr23 => rfl
          case hst23 =>
            simp only [pick_nil, pick_all, List.cons_append, List.nil_append]
            rfl
          (repeat (first | refine WL.opA hΓ (h := ?_) | refine WL.opX hΓ (h := ?_) | refine WL.opY (h := ?_) | refine WL.opZ (h := ?_)))
          with_reducible apply WL.nil
          repeat (first | with_reducible apply W.seq | with_reducible apply W.block | with_reducible apply W.skip | with_reducible apply W.exit | with_reducible apply W.ret | with_reducible apply At.seqN | with_reducible apply At.blkN | with_reducible apply At.blkE | with_reducible apply At.blkR | with_reducible apply At.thenX | with_reducible apply At.thenR | with_reducible apply At.blkX rfl | ((with_reducible apply W.ops); (repeat (first | refine WL.opA hΓ (h := ?_) | refine WL.opX hΓ (h := ?_) | refine WL.opY (h := ?_) | refine WL.opZ (h := ?_))); with_reducible apply WL.nil) | refine W.condT (h := ?_) | refine W.condF (h := ?_))
          exact At.roundA (n', nextD due l[b], out ++ [l[b]]) ⟨by simp [nextD, hdl], by dsimp only; omega, by simp only [List.length_append, List.length_cons, List.length_nil]; omega, hR⟩ (by simp)
    · repeat (first | with_reducible apply W.seq | with_reducible apply W.block | with_reducible apply W.skip | with_reducible apply W.exit | with_reducible apply W.ret | with_reducible apply At.seqN | with_reducible apply At.blkN | with_reducible apply At.blkE | with_reducible apply At.blkR | with_reducible apply At.thenX | with_reducible apply At.thenR | with_reducible apply At.blkX rfl | ((with_reducible apply W.ops); (repeat (first | refine WL.opA hΓ (h := ?_) | refine WL.opX hΓ (h := ?_) | refine WL.opY (h := ?_) | refine WL.opZ (h := ?_))); with_reducible apply WL.nil) | refine W.condT (h := ?_) | refine W.condF (h := ?_))
      refine At.retA (by rw [Try.results35]) (he := ?_)
      simp only [if_pos hp, ← hR, pickF_stop hm]
  · have hnil : rowsF cTx [] = [] := rfl
    repeat (first | with_reducible apply W.seq | with_reducible apply W.block | with_reducible apply W.skip | with_reducible apply W.exit | with_reducible apply W.ret | with_reducible apply At.seqN | with_reducible apply At.blkN | with_reducible apply At.blkE | with_reducible apply At.blkR | with_reducible apply At.thenX | with_reducible apply At.thenR | with_reducible apply At.blkX rfl | ((with_reducible apply W.ops); (repeat (first | refine WL.opA hΓ (h := ?_) | refine WL.opX hΓ (h := ?_) | refine WL.opY (h := ?_) | refine WL.opZ (h := ?_))); with_reducible apply WL.nil) | refine W.condT (h := ?_) | refine W.condF (h := ?_))
    refine W.loopA (fun _ => True) (fun _ : Nat => [.slot 7 (one (.all 12)), .slot 0 (vL cTx l), .slot 2 (vI most), .blk 12 (.arr true 44 3 [])]) (fun _ => 0) 0 trivial (h := ?_)
    rintro k -
    repeat (first | with_reducible apply W.seq | with_reducible apply W.block | with_reducible apply W.skip | with_reducible apply W.exit | with_reducible apply W.ret | with_reducible apply At.seqN | with_reducible apply At.blkN | with_reducible apply At.blkE | with_reducible apply At.blkR | with_reducible apply At.thenX | with_reducible apply At.thenR | with_reducible apply At.blkX rfl | ((with_reducible apply W.ops); (repeat (first | refine WL.opA hΓ (h := ?_) | refine WL.opX hΓ (h := ?_) | refine WL.opY (h := ?_) | refine WL.opZ (h := ?_))); with_reducible apply WL.nil) | refine W.condT (h := ?_) | refine W.condF (h := ?_))
    refine At.retA (by rw [Try.results35]) (he := ?_)
    simp only [if_neg hp]
    rfl

end Go.Proofs.Ytlchfjjoendimaa
