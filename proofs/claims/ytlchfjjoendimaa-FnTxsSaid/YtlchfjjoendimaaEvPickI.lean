/-
  PoolPick of impl.
-/
import Derived.Test.YtlchfjjoendimaaEvPick
namespace Go.Proofs.Ytlchfjjoendimaa
set_option maxRecDepth 100000
set_option linter.unusedVariables false
set_option linter.unusedSimpArgs false
open Go Go.RowKit
set_option maxHeartbeats 4000000

abbrev pI (n : Int) : PL := .sc (.int .i64 n)
theorem lsNms_pI (xs : List Int) : lsNms (xs.map pI) = [] := by
  induction xs with
  | nil => rfl
  | cons x r ih => show PL.nms (pI x) ++ lsNms (r.map pI) = []; rw [ih]; rfl
theorem kill_pI (n : Nat) (xs : List Int) : List.map (PL.kill n) (List.map pI xs) = List.map pI xs := by
  rw [List.map_map]
  rfl
theorem box_set (xs : List Int) {i : Nat} (h : i < xs.length) (v : Int) : (xs.map pI).take i ++ [pI v] ++ (xs.map pI).drop (i + 1) = (xs.set i v).map pI := by
  rw [List.map_set, List.set_eq_take_append_cons_drop, if_pos (by simpa using h), List.append_assoc]
  rfl
theorem box_get (xs : List Int) {i : Nat} (h : i < xs.length) : (xs.map pI)[i]? = some (pI (xs.getD i 0)) := by
  rw [List.getElem?_map, List.getElem?_eq_getElem h, getD_of h]
  rfl
def dI (next : List Int) (k : Nat) : List Int := (dueT next 1).take k ++ List.replicate (10 - k) 0
theorem dueT_len (next : List Int) (d : Int) : (dueT next d).length = 10 := by simp [dueT]
theorem dI_len (next : List Int) {k : Nat} (h : k ≤ 10) : (dI next k).length = 10 := by simp [dI, dueT_len]; omega
theorem dI_succ (next : List Int) {k : Nat} (h : k < 10) : dI next (k + 1) = (dI next k).set k ((dueT next 1).getD k 0) := by
  unfold dI
  have hl : ((dueT next 1).take k).length = k := by simp [dueT_len]; omega
  have hr : 10 - k = (10 - (k + 1)) + 1 := by omega
  have hlt : k < (dueT next 1).length := by rw [dueT_len]; exact h
  rw [List.set_append_right _ _ (by omega), hl, Nat.sub_self, hr, List.replicate_succ, List.set_cons_zero, List.take_succ_eq_append_getElem hlt, List.append_assoc, getD_of hlt]
  rfl
theorem dueT_get (next : List Int) {k : Nat} (h0 : 1 ≤ k) (h : k < 10) : (dueT next 1).getD k 0 = next.getD (k - 1) 1 := by
  obtain ⟨j, rfl⟩ : ∃ j, k = j + 1 := ⟨k - 1, by omega⟩
  unfold dueT
  rw [List.getD_eq_getElem?_getD, List.getElem?_cons_succ, List.getElem?_map, List.getElem?_range (by omega)]
  rfl
theorem dueT_out (next : List Int) {k : Nat} (h : k < 10) (h1 : ¬ (1 ≤ k ∧ k ≤ next.length)) : (dueT next 1).getD k 0 = 1 := by
  cases k with
  | zero => rfl
  | succ j =>
    rw [dueT_get next (by omega) h, List.getD_eq_getElem?_getD, List.getElem?_eq_none (by omega)]
    rfl
theorem dI_all (next : List Int) : dI next 10 = dueT next 1 := by
  unfold dI
  rw [List.take_of_length_le (by rw [dueT_len]; exact Nat.le_refl _)]
  simp
/-- the best itself -/
def bT (due : List Int) (l : List TTx) (k : Nat) : TTx := match bestK due l k with
  | none => (0, 0, 0)
  | some b => l.getD b (0, 0, 0)
theorem pickI_s : Sound Try.prog 34 (mdl okPick ePick fun x => if poolOk x.1 then rL 44 3 cTx (pickF x.1 x.2.2 x.1.length (dueT x.2.1 1) []) else rN) := by
  refine Sound.mdl Try.func34 rfl Try.ntmps34 ?_
  rintro ⟨l, next, most⟩ w ⟨hl, hi⟩
  refine ⟨by simp, ?_⟩
  replace hl : l.length ≤ 8796093022207 := hl
  replace hi : next.length ≤ 8796093022207 := hi
  have hΓ : GSound Try.prog (look [(94, mPool), (100, mWithin)]) := env_cons (has_of Try.func94 rfl rfl) poolI_s (env_cons (has_of Try.func100 rfl rfl) within_s env_nil)
  have c1 := mPool_eq l hl
  have c2 := mWithin_eq
  have hnm := lsNms_pI
  have hkp := kill_pI
  simp only [initS, argPV, List.map_cons, List.map_nil, toPL, Nat.zero_add]
  by_cases hp : poolOk l
  · repeat (first | with_reducible apply W.seq | with_reducible apply W.block | with_reducible apply W.skip | with_reducible apply W.exit | with_reducible apply W.ret | with_reducible apply At.seqN | with_reducible apply At.blkN | with_reducible apply At.blkE | with_reducible apply At.blkR | with_reducible apply At.thenX | with_reducible apply At.thenR | with_reducible apply At.blkX rfl | ((with_reducible apply W.ops); (repeat (first | refine WL.opA hΓ (h := ?_) | refine WL.opX hΓ (h := ?_) | refine WL.opY (h := ?_) | refine WL.opZ (h := ?_))); with_reducible apply WL.nil) | refine W.condT (h := ?_) | refine W.condF (h := ?_))
    refine W.loopA (fun k => k ≤ 10) (fun k : Nat => [.slot 17 (vI k), .slot 7 (one (.ptr 7 0)), .slot 0 (vL cTx l), .slot 1 (vL cInt next), .slot 2 (vI most), .blk 7 (.box ((dI next k).map pI))]) (fun k => 10 - k) 0 (Nat.zero_le _) (h := ?_)
    rintro k hk
    have hkl := dI_len next hk
    have hkm : ((dI next k).map pI).length = 10 := by rw [List.length_map]; exact hkl
    by_cases hlt : k < 10
    · have hs := dI_succ next hlt
      by_cases hn : 1 ≤ k ∧ k ≤ next.length
      · have e1 := box_set (dI next k) (i := k) (by omega) 1
        have hkl2 : ((dI next k).set k 1).length = 10 := by rw [List.length_set]; exact hkl
        have hkm2 : (((dI next k).set k 1).map pI).length = 10 := by rw [List.length_map]; exact hkl2
        have hrow := row_at cInt next (k := k - 1) (by omega)
        simp only [cInt, List.map_cons, List.map_nil] at hrow
        have e3 : ((k : Int) - 1).toNat = k - 1 := by omega
        have e2 : (((dI next k).set k 1).map pI).take k ++ [pI next[k - 1]] ++ (((dI next k).set k 1).map pI).drop (k + 1) = (dI next (k + 1)).map pI := by
          rw [box_set _ (by omega), List.set_set, hs, dueT_get next hn.1 hlt, getD_of (by omega)]
        have hw : (0 : Int) ≤ (k : Int) - 1 ∧ (k : Int) - 1 ≤ (next.length : Int) - 1 := by omega
        repeat (first | with_reducible apply W.seq | with_reducible apply W.block | with_reducible apply W.skip | with_reducible apply W.exit | with_reducible apply W.ret | with_reducible apply At.seqN | with_reducible apply At.blkN | with_reducible apply At.blkE | with_reducible apply At.blkR | with_reducible apply At.thenX | with_reducible apply At.thenR | with_reducible apply At.blkX rfl | ((with_reducible apply W.ops); (repeat (first | refine WL.opA hΓ (h := ?_) | refine WL.opX hΓ (h := ?_) | refine WL.opY (h := ?_) | refine WL.opZ (h := ?_))); with_reducible apply WL.nil) | refine W.condT (h := ?_) | refine W.condF (h := ?_))
        exact At.roundA (k + 1) (by omega) (by omega)
      · have e1 : ((dI next k).map pI).take k ++ [pI 1] ++ ((dI next k).map pI).drop (k + 1) = (dI next (k + 1)).map pI := by
          rw [box_set _ (by omega), hs, dueT_out next hlt hn]
        have hw : ¬ ((0 : Int) ≤ (k : Int) - 1 ∧ (k : Int) - 1 ≤ (next.length : Int) - 1) := by omega
        have hd := decide_eq_false hw
        clear hw
        repeat (first | with_reducible apply W.seq | with_reducible apply W.block | with_reducible apply W.skip | with_reducible apply W.exit | with_reducible apply W.ret | with_reducible apply At.seqN | with_reducible apply At.blkN | with_reducible apply At.blkE | with_reducible apply At.blkR | with_reducible apply At.thenX | with_reducible apply At.thenR | with_reducible apply At.blkX rfl | ((with_reducible apply W.ops); (repeat (first | refine WL.opA hΓ (h := ?_) | refine WL.opX hΓ (h := ?_) | refine WL.opY (h := ?_) | refine WL.opZ (h := ?_))); with_reducible apply WL.nil) | refine W.condT (h := ?_) | refine W.condF (h := ?_))
        exact At.roundA (k + 1) (by omega) (by omega)
    · have hk10 : k = 10 := by omega
      subst hk10
      have hda := dI_all next
      have hl14 : l.length ≤ 14 := hp.1
      have hnil : rowsF cTx [] = [] := rfl
      repeat (first | with_reducible apply W.seq | with_reducible apply W.block | with_reducible apply W.skip | with_reducible apply W.exit | with_reducible apply W.ret | with_reducible apply At.seqN | with_reducible apply At.blkN | with_reducible apply At.blkE | with_reducible apply At.blkR | with_reducible apply At.thenX | with_reducible apply At.thenR | with_reducible apply At.blkX rfl | ((with_reducible apply W.ops); (repeat (first | refine WL.opA hΓ (h := ?_) | refine WL.opX hΓ (h := ?_) | refine WL.opY (h := ?_) | refine WL.opZ (h := ?_))); with_reducible apply WL.nil) | refine W.condT (h := ?_) | refine W.condF (h := ?_))
      refine W.loopA (fun s : Nat × List Int × List TTx => s.2.1.length = 10 ∧ leftK s.2.1 l ≤ s.1 ∧ s.2.2.length + s.1 ≤ 14 ∧ pickF l most s.1 s.2.1 s.2.2 = pickF l most l.length (dueT next 1) [])
        (fun s => [.slot 9 (one (.all 36)), .slot 7 (one (.ptr 7 0)), .slot 0 (vL cTx l), .slot 2 (vI most), .blk 36 (.arr true 44 3 (rowsF cTx s.2.2)), .blk 7 (.box (s.2.1.map pI))]) (fun s => s.1) (l.length, dueT next 1, [])
        ⟨dueT_len _ _, leftK_le _ _, by simpa using hl14, rfl⟩ (h := ?_)
      rintro ⟨n, due, out⟩ ⟨hdl, hleft, hlen, hR⟩
      dsimp only at hdl hleft hlen hR ⊢
      have hdm : (due.map pI).length = 10 := by rw [List.length_map]; exact hdl
      by_cases hm : (out.length : Int) < most
      · have hbt0 : bT due l 0 = (0, 0, 0) := rfl
        have hbs0 : (bestK due l 0).isSome = false := rfl
        repeat (first | with_reducible apply W.seq | with_reducible apply W.block | with_reducible apply W.skip | with_reducible apply W.exit | with_reducible apply W.ret | with_reducible apply At.seqN | with_reducible apply At.blkN | with_reducible apply At.blkE | with_reducible apply At.blkR | with_reducible apply At.thenX | with_reducible apply At.thenR | with_reducible apply At.blkX rfl | ((with_reducible apply W.ops); (repeat (first | refine WL.opA hΓ (h := ?_) | refine WL.opX hΓ (h := ?_) | refine WL.opY (h := ?_) | refine WL.opZ (h := ?_))); with_reducible apply WL.nil) | refine W.condT (h := ?_) | refine W.condF (h := ?_))
        refine W.loopA (fun k => k ≤ l.length) (fun k : Nat => [.slot 44 (vI k), .slot 43 (vI l.length), .slot 42 (vL cTx l), .slot 10 (one (.ptr 10 0)), .slot 11 (vB (bestK due l k).isSome), .slot 9 (one (.all 36)), .slot 7 (one (.ptr 7 0)), .slot 0 (vL cTx l), .slot 2 (vI most), .blk 36 (.arr true 44 3 (rowsF cTx out)), .blk 7 (.box (due.map pI)), .blk 10 (.box [pI (bT due l k).1, pI (bT due l k).2.1, pI (bT due l k).2.2])]) (fun k => l.length - k) 0 (Nat.zero_le _) (h := ?_)
        rintro k hk
        by_cases hlt : k < l.length
        · have hrow := row_at cTx l hlt
          simp only [cTx, List.map_cons, List.map_nil] at hrow
          obtain ⟨t1, t2, t3, t4, t5, t6⟩ := tx_at hp hlt
          have hwant := box_get due (i := l[k].1.toNat) (by omega)
          generalize hv : due.getD l[k].1.toNat 0 = v at hwant
          by_cases h1 : l[k].2.1 = v
          · cases hs : bestK due l k with
            | none =>
              have hb : (bestK due l k).isSome = false := by rw [hs]; rfl
              have hx := bK_first hlt (h1.trans hv.symm) hs
              have hb2 : (bestK due l (k + 1)).isSome = true := by rw [hx]; rfl
              have hb3 : bT due l (k + 1) = l[k] := by unfold bT; rw [hx]; exact getD_of hlt _
              clear hv hx hs
              repeat (first | with_reducible apply W.seq | with_reducible apply W.block | with_reducible apply W.skip | with_reducible apply W.exit | with_reducible apply W.ret | with_reducible apply At.seqN | with_reducible apply At.blkN | with_reducible apply At.blkE | with_reducible apply At.blkR | with_reducible apply At.thenX | with_reducible apply At.thenR | with_reducible apply At.blkX rfl | ((with_reducible apply W.ops); (repeat (first | refine WL.opA hΓ (h := ?_) | refine WL.opX hΓ (h := ?_) | refine WL.opY (h := ?_) | refine WL.opZ (h := ?_))); with_reducible apply WL.nil) | refine W.condT (h := ?_) | refine W.condF (h := ?_))
              refine W.drawsA hΓ 18 [[], [0], [], [2], [2, 3], [2, 3, 4], [0, 1, 2, 3, 4, 5], [0, 1, 2, 3, 4, 5, 6], [0, 1, 2, 3, 4, 5, 6, 7], [0, 1, 2, 3, 4, 5, 6, 7, 8], [0, 1, 2, 3, 4, 5, 6, 7, 8, 9], [0, 1, 2, 3, 4, 5, 6, 7, 8, 9, 10], [0, 1, 2, 3, 4, 5, 6, 7, 8, 9, 10, 11], [0, 1, 2, 3, 4, 5, 6, 7, 8, 9, 10], [0, 1, 2, 3, 4, 5, 6, 7, 8, 9, 10, 13], [0, 1, 2, 3, 4, 5, 6, 7, 8, 9, 10, 11, 12, 13, 14], [0, 1, 2, 3, 4, 5, 6, 7, 8, 9, 10, 11, 12, 13, 14, 15], [0, 1, 2, 3, 4, 5, 6, 7, 8, 9, 10, 11, 12, 13, 14, 15, 16]] (rest := ?rest9) (Es := ?Es9) (st1 := ?st19) (h := ?h9) (hf := ?hf9) (hp := ?hp9) (hd := ?hd9) (hfr := ?hfr9) (hst := ?hst9) (hT := ?hT9)
              case h9 => kernel_rfl
              case hf9 =>
                repeat (first | refine FlowT.opA (h := ?_) | refine FlowT.opX (h := ?_) | refine FlowT.opY (h := ?_) | refine FlowT.opZ (h := ?_))
                exact FlowT.done
              case hp9 => rfl
              case hd9 => rfl
              case hfr9 => rfl
              case hst9 =>
                simp only [pick_nil, pick_all, List.cons_append, List.nil_append]
                rfl
              (repeat (first | refine WL.opA hΓ (h := ?_) | refine WL.opX hΓ (h := ?_) | refine WL.opY (h := ?_) | refine WL.opZ (h := ?_)))
              with_reducible apply WL.nil
              repeat (first | with_reducible apply W.seq | with_reducible apply W.block | with_reducible apply W.skip | with_reducible apply W.exit | with_reducible apply W.ret | with_reducible apply At.seqN | with_reducible apply At.blkN | with_reducible apply At.blkE | with_reducible apply At.blkR | with_reducible apply At.thenX | with_reducible apply At.thenR | with_reducible apply At.blkX rfl | ((with_reducible apply W.ops); (repeat (first | refine WL.opA hΓ (h := ?_) | refine WL.opX hΓ (h := ?_) | refine WL.opY (h := ?_) | refine WL.opZ (h := ?_))); with_reducible apply WL.nil) | refine W.condT (h := ?_) | refine W.condF (h := ?_))
              exact At.roundA (k + 1) (by omega) (by omega)
            | some b =>
              have hb : (bestK due l k).isSome = true := by rw [hs]; rfl
              obtain ⟨hbk, _⟩ := bestK_lt hs
              have hbt : bT due l k = l[b] := by unfold bT; rw [hs]; exact getD_of (by omega) _
              by_cases hf : l[b].2.2 < l[k].2.2
              · have hx := bK_more hlt (by omega) (h1.trans hv.symm) hs hf
                have hb2 : (bestK due l (k + 1)).isSome = true := by rw [hx]; rfl
                have hb3 : bT due l (k + 1) = l[k] := by unfold bT; rw [hx]; exact getD_of hlt _
                clear hv hx hs
                repeat (first | with_reducible apply W.seq | with_reducible apply W.block | with_reducible apply W.skip | with_reducible apply W.exit | with_reducible apply W.ret | with_reducible apply At.seqN | with_reducible apply At.blkN | with_reducible apply At.blkE | with_reducible apply At.blkR | with_reducible apply At.thenX | with_reducible apply At.thenR | with_reducible apply At.blkX rfl | ((with_reducible apply W.ops); (repeat (first | refine WL.opA hΓ (h := ?_) | refine WL.opX hΓ (h := ?_) | refine WL.opY (h := ?_) | refine WL.opZ (h := ?_))); with_reducible apply WL.nil) | refine W.condT (h := ?_) | refine W.condF (h := ?_))
                refine W.drawsA hΓ 18 [[], [0], [], [2], [2, 3], [2, 3, 4], [0, 1, 2, 3, 4, 5], [0, 1, 2, 3, 4, 5, 6], [0, 1, 2, 3, 4, 5, 6, 7], [0, 1, 2, 3, 4, 5, 6, 7, 8], [0, 1, 2, 3, 4, 5, 6, 7, 8, 9], [0, 1, 2, 3, 4, 5, 6, 7, 8, 9, 10], [0, 1, 2, 3, 4, 5, 6, 7, 8, 9, 10, 11], [0, 1, 2, 3, 4, 5, 6, 7, 8, 9, 10], [0, 1, 2, 3, 4, 5, 6, 7, 8, 9, 10, 13], [0, 1, 2, 3, 4, 5, 6, 7, 8, 9, 10, 11, 12, 13, 14], [0, 1, 2, 3, 4, 5, 6, 7, 8, 9, 10, 11, 12, 13, 14, 15], [0, 1, 2, 3, 4, 5, 6, 7, 8, 9, 10, 11, 12, 13, 14, 15, 16]] (rest := ?rest12) (Es := ?Es12) (st1 := ?st112) (h := ?h12) (hf := ?hf12) (hp := ?hp12) (hd := ?hd12) (hfr := ?hfr12) (hst := ?hst12) (hT := ?hT12)
                case h12 => kernel_rfl
                case hf12 =>
                  repeat (first | refine FlowT.opA (h := ?_) | refine FlowT.opX (h := ?_) | refine FlowT.opY (h := ?_) | refine FlowT.opZ (h := ?_))
                  exact FlowT.done
                case hp12 => rfl
                case hd12 => rfl
                case hfr12 => rfl
                case hst12 =>
                  simp only [pick_nil, pick_all, List.cons_append, List.nil_append]
                  rfl
                (repeat (first | refine WL.opA hΓ (h := ?_) | refine WL.opX hΓ (h := ?_) | refine WL.opY (h := ?_) | refine WL.opZ (h := ?_)))
                with_reducible apply WL.nil
                repeat (first | with_reducible apply W.seq | with_reducible apply W.block | with_reducible apply W.skip | with_reducible apply W.exit | with_reducible apply W.ret | with_reducible apply At.seqN | with_reducible apply At.blkN | with_reducible apply At.blkE | with_reducible apply At.blkR | with_reducible apply At.thenX | with_reducible apply At.thenR | with_reducible apply At.blkX rfl | ((with_reducible apply W.ops); (repeat (first | refine WL.opA hΓ (h := ?_) | refine WL.opX hΓ (h := ?_) | refine WL.opY (h := ?_) | refine WL.opZ (h := ?_))); with_reducible apply WL.nil) | refine W.condT (h := ?_) | refine W.condF (h := ?_))
                exact At.roundA (k + 1) (by omega) (by omega)
              · have hx := bK_less hlt (by omega) hs hf
                have hb2 : (bestK due l (k + 1)).isSome = true := by rw [hx, hs]; rfl
                have hb3 : bT due l (k + 1) = l[b] := by unfold bT; rw [hx, hs]; exact getD_of (by omega) _
                clear hv hx hs
                repeat (first | with_reducible apply W.seq | with_reducible apply W.block | with_reducible apply W.skip | with_reducible apply W.exit | with_reducible apply W.ret | with_reducible apply At.seqN | with_reducible apply At.blkN | with_reducible apply At.blkE | with_reducible apply At.blkR | with_reducible apply At.thenX | with_reducible apply At.thenR | with_reducible apply At.blkX rfl | ((with_reducible apply W.ops); (repeat (first | refine WL.opA hΓ (h := ?_) | refine WL.opX hΓ (h := ?_) | refine WL.opY (h := ?_) | refine WL.opZ (h := ?_))); with_reducible apply WL.nil) | refine W.condT (h := ?_) | refine W.condF (h := ?_))
                refine W.drawsA hΓ 18 [[], [0], [], [2], [2, 3], [2, 3, 4], [0, 1, 2, 3, 4, 5], [0, 1, 2, 3, 4, 5, 6], [0, 1, 2, 3, 4, 5, 6, 7], [0, 1, 2, 3, 4, 5, 6, 7, 8], [0, 1, 2, 3, 4, 5, 6, 7, 8, 9], [0, 1, 2, 3, 4, 5, 6, 7, 8, 9, 10], [0, 1, 2, 3, 4, 5, 6, 7, 8, 9, 10, 11], [0, 1, 2, 3, 4, 5, 6, 7, 8, 9, 10], [0, 1, 2, 3, 4, 5, 6, 7, 8, 9, 10, 13], [0, 1, 2, 3, 4, 5, 6, 7, 8, 9, 10, 11, 12, 13, 14], [0, 1, 2, 3, 4, 5, 6, 7, 8, 9, 10, 11, 12, 13, 14, 15], [0, 1, 2, 3, 4, 5, 6, 7, 8, 9, 10, 11, 12, 13, 14, 15, 16]] (rest := ?rest15) (Es := ?Es15) (st1 := ?st115) (h := ?h15) (hf := ?hf15) (hp := ?hp15) (hd := ?hd15) (hfr := ?hfr15) (hst := ?hst15) (hT := ?hT15)
                case h15 => kernel_rfl
                case hf15 =>
                  repeat (first | refine FlowT.opA (h := ?_) | refine FlowT.opX (h := ?_) | refine FlowT.opY (h := ?_) | refine FlowT.opZ (h := ?_))
                  exact FlowT.done
                case hp15 => rfl
                case hd15 => rfl
                case hfr15 => rfl
                case hst15 =>
                  simp only [pick_nil, pick_all, List.cons_append, List.nil_append]
                  rfl
                (repeat (first | refine WL.opA hΓ (h := ?_) | refine WL.opX hΓ (h := ?_) | refine WL.opY (h := ?_) | refine WL.opZ (h := ?_)))
                with_reducible apply WL.nil
                repeat (first | with_reducible apply W.seq | with_reducible apply W.block | with_reducible apply W.skip | with_reducible apply W.exit | with_reducible apply W.ret | with_reducible apply At.seqN | with_reducible apply At.blkN | with_reducible apply At.blkE | with_reducible apply At.blkR | with_reducible apply At.thenX | with_reducible apply At.thenR | with_reducible apply At.blkX rfl | ((with_reducible apply W.ops); (repeat (first | refine WL.opA hΓ (h := ?_) | refine WL.opX hΓ (h := ?_) | refine WL.opY (h := ?_) | refine WL.opZ (h := ?_))); with_reducible apply WL.nil) | refine W.condT (h := ?_) | refine W.condF (h := ?_))
                exact At.roundA (k + 1) (by omega) (by omega)
          · have hx := bK_no hlt (by rw [hv]; exact h1)
            have hb2 : (bestK due l (k + 1)).isSome = (bestK due l k).isSome := by rw [hx]
            have hb3 : bT due l (k + 1) = bT due l k := by unfold bT; rw [hx]
            clear hv hx
            repeat (first | with_reducible apply W.seq | with_reducible apply W.block | with_reducible apply W.skip | with_reducible apply W.exit | with_reducible apply W.ret | with_reducible apply At.seqN | with_reducible apply At.blkN | with_reducible apply At.blkE | with_reducible apply At.blkR | with_reducible apply At.thenX | with_reducible apply At.thenR | with_reducible apply At.blkX rfl | ((with_reducible apply W.ops); (repeat (first | refine WL.opA hΓ (h := ?_) | refine WL.opX hΓ (h := ?_) | refine WL.opY (h := ?_) | refine WL.opZ (h := ?_))); with_reducible apply WL.nil) | refine W.condT (h := ?_) | refine W.condF (h := ?_))
            refine W.drawsA hΓ 18 [[], [0], [], [2], [2, 3], [2, 3, 4], [0, 1, 2, 3, 4, 5], [0, 1, 2, 3, 4, 5, 6], [0, 1, 2, 3, 4, 5, 6, 7], [0, 1, 2, 3, 4, 5, 6, 7, 8], [0, 1, 2, 3, 4, 5, 6, 7, 8, 9], [0, 1, 2, 3, 4, 5, 6, 7, 8, 9, 10], [0, 1, 2, 3, 4, 5, 6, 7, 8, 9, 10, 11], [0, 1, 2, 3, 4, 5, 6, 7, 8, 9, 10], [0, 1, 2, 3, 4, 5, 6, 7, 8, 9, 10, 13], [0, 1, 2, 3, 4, 5, 6, 7, 8, 9, 10, 11, 12, 13, 14], [0, 1, 2, 3, 4, 5, 6, 7, 8, 9, 10, 11, 12, 13, 14, 15], [0, 1, 2, 3, 4, 5, 6, 7, 8, 9, 10, 11, 12, 13, 14, 15, 16]] (rest := ?rest18) (Es := ?Es18) (st1 := ?st118) (h := ?h18) (hf := ?hf18) (hp := ?hp18) (hd := ?hd18) (hfr := ?hfr18) (hst := ?hst18) (hT := ?hT18)
            case h18 => kernel_rfl
            case hf18 =>
              repeat (first | refine FlowT.opA (h := ?_) | refine FlowT.opX (h := ?_) | refine FlowT.opY (h := ?_) | refine FlowT.opZ (h := ?_))
              exact FlowT.done
            case hp18 => rfl
            case hd18 => rfl
            case hfr18 => rfl
            case hst18 =>
              simp only [pick_nil, pick_all, List.cons_append, List.nil_append]
              rfl
            (repeat (first | refine WL.opA hΓ (h := ?_) | refine WL.opX hΓ (h := ?_) | refine WL.opY (h := ?_) | refine WL.opZ (h := ?_)))
            with_reducible apply WL.nil
            repeat (first | with_reducible apply W.seq | with_reducible apply W.block | with_reducible apply W.skip | with_reducible apply W.exit | with_reducible apply W.ret | with_reducible apply At.seqN | with_reducible apply At.blkN | with_reducible apply At.blkE | with_reducible apply At.blkR | with_reducible apply At.thenX | with_reducible apply At.thenR | with_reducible apply At.blkX rfl | ((with_reducible apply W.ops); (repeat (first | refine WL.opA hΓ (h := ?_) | refine WL.opX hΓ (h := ?_) | refine WL.opY (h := ?_) | refine WL.opZ (h := ?_))); with_reducible apply WL.nil) | refine W.condT (h := ?_) | refine W.condF (h := ?_))
            exact At.roundA (k + 1) (by omega) (by omega)
        · have hke : k = l.length := by omega
          subst hke
          cases hs : bestK due l l.length with
          | none =>
            have hb : (bestK due l l.length).isSome = false := by rw [hs]; rfl
            repeat (first | with_reducible apply W.seq | with_reducible apply W.block | with_reducible apply W.skip | with_reducible apply W.exit | with_reducible apply W.ret | with_reducible apply At.seqN | with_reducible apply At.blkN | with_reducible apply At.blkE | with_reducible apply At.blkR | with_reducible apply At.thenX | with_reducible apply At.thenR | with_reducible apply At.blkX rfl | ((with_reducible apply W.ops); (repeat (first | refine WL.opA hΓ (h := ?_) | refine WL.opX hΓ (h := ?_) | refine WL.opY (h := ?_) | refine WL.opZ (h := ?_))); with_reducible apply WL.nil) | refine W.condT (h := ?_) | refine W.condF (h := ?_))
            refine At.retA (by rw [Try.results34]) (he := ?_)
            simp only [if_pos hp, ← hR, pickF_none hs]
          | some b =>
            have hb : (bestK due l l.length).isSome = true := by rw [hs]; rfl
            obtain ⟨hbk, hbn⟩ := bestK_lt hs
            rw [getD_of hbk] at hbn
            have hbt : bT due l l.length = l[b] := by unfold bT; rw [hs]; exact getD_of hbk _
            obtain ⟨t1, t2, t3, t4, t5, t6⟩ := tx_at hp hbk
            have hwant := box_get due (i := l[b].1.toNat) (by omega)
            rw [← hbn] at hwant
            have hset : (due.map pI).take l[b].1.toNat ++ [pI (l[b].2.1 + 1)] ++ (due.map pI).drop (l[b].1.toNat + 1) = (nextD due l[b]).map pI := by
              rw [box_set _ (by omega), hbn]
              rfl
            have happ : rowsF cTx out ++ [[.sc (.int .i64 l[b].1), .sc (.int .i64 l[b].2.1), .sc (.int .i64 l[b].2.2)]] = rowsF cTx (out ++ [l[b]]) := by rw [← rowsF_app]; rfl
            have hleft2 := leftK_lt (List.getElem_mem hbk) hbn (by omega)
            obtain ⟨n', rfl⟩ : ∃ n', n = n' + 1 := ⟨n - 1, by omega⟩
            rw [pickF_next hm hbk hs] at hR
            clear hbn hs
            repeat (first | with_reducible apply W.seq | with_reducible apply W.block | with_reducible apply W.skip | with_reducible apply W.exit | with_reducible apply W.ret | with_reducible apply At.seqN | with_reducible apply At.blkN | with_reducible apply At.blkE | with_reducible apply At.blkR | with_reducible apply At.thenX | with_reducible apply At.thenR | with_reducible apply At.blkX rfl | ((with_reducible apply W.ops); (repeat (first | refine WL.opA hΓ (h := ?_) | refine WL.opX hΓ (h := ?_) | refine WL.opY (h := ?_) | refine WL.opZ (h := ?_))); with_reducible apply WL.nil) | refine W.condT (h := ?_) | refine W.condF (h := ?_))
            exact At.roundA (n', nextD due l[b], out ++ [l[b]]) ⟨by simp [nextD, hdl], by dsimp only; omega, by simp only [List.length_append, List.length_cons, List.length_nil]; omega, hR⟩ (by simp)
      · repeat (first | with_reducible apply W.seq | with_reducible apply W.block | with_reducible apply W.skip | with_reducible apply W.exit | with_reducible apply W.ret | with_reducible apply At.seqN | with_reducible apply At.blkN | with_reducible apply At.blkE | with_reducible apply At.blkR | with_reducible apply At.thenX | with_reducible apply At.thenR | with_reducible apply At.blkX rfl | ((with_reducible apply W.ops); (repeat (first | refine WL.opA hΓ (h := ?_) | refine WL.opX hΓ (h := ?_) | refine WL.opY (h := ?_) | refine WL.opZ (h := ?_))); with_reducible apply WL.nil) | refine W.condT (h := ?_) | refine W.condF (h := ?_))
        refine At.retA (by rw [Try.results34]) (he := ?_)
        simp only [if_pos hp, ← hR, pickF_stop hm]
  · repeat (first | with_reducible apply W.seq | with_reducible apply W.block | with_reducible apply W.skip | with_reducible apply W.exit | with_reducible apply W.ret | with_reducible apply At.seqN | with_reducible apply At.blkN | with_reducible apply At.blkE | with_reducible apply At.blkR | with_reducible apply At.thenX | with_reducible apply At.thenR | with_reducible apply At.blkX rfl | ((with_reducible apply W.ops); (repeat (first | refine WL.opA hΓ (h := ?_) | refine WL.opX hΓ (h := ?_) | refine WL.opY (h := ?_) | refine WL.opZ (h := ?_))); with_reducible apply WL.nil) | refine W.condT (h := ?_) | refine W.condF (h := ?_))
    refine At.retA (by rw [Try.results34]) (he := ?_)
    simp only [if_neg hp]

def pickL (l : List TTx) (next : List Int) (most : Int) : List TTx := if poolOk l then pickF l most l.length (dueT next 1) [] else []
theorem pickL_le (l : List TTx) (next : List Int) (most : Int) : (pickL l next most).length ≤ l.length := by
  unfold pickL
  split
  · have := pickF_le (l := l) (most := most) l.length (dueT next 1) []
    simpa using this
  · simp
section
variable {l : List TTx} {next : List Int} {most : Int} {v1 v2 : Value} {w : World}
theorem pick_args (h1 : RdS w w.heap.size 3 cTx v1 l) (h2 : RdS w w.heap.size 1 cInt v2 next) : RepAs w (ePick (l, next, most)) [v1, v2, .int .i64 most] :=
  RepAs.cons (aL_rep (fun _ => rfl) cTx_one h1) (RepAs.cons (aL_rep (fun _ => rfl) cInt_one h2) (RepAs.cons (aI_rep most) RepAs.nil))
theorem pick_spec (h1 : RdS w w.heap.size 3 cTx v1 l) (h2 : RdS w w.heap.size 1 cInt v2 next) (n1 : l.length ≤ 8796093022207) (n2 : next.length ≤ 8796093022207) : Calls Try.prog 35 #[v1, v2, .int .i64 most] w (NewS w 3 cTx (pickL l next most)) :=
  calls_new (fun _ => rfl) pickS_s (mdl_eq ePick_inj (l, next, most) ⟨n1, n2⟩) (pick_args h1 h2)
theorem pick_impl (h1 : RdS w w.heap.size 3 cTx v1 l) (h2 : RdS w w.heap.size 1 cInt v2 next) (n1 : l.length ≤ 8796093022207) (n2 : next.length ≤ 8796093022207) : Calls Try.prog 34 #[v1, v2, .int .i64 most] w (NewS w 3 cTx (pickL l next most)) := by
  have h := mdl_eq (g := fun x : List TTx × List Int × Int => if poolOk x.1 then rL 44 3 cTx (pickF x.1 x.2.2 x.1.length (dueT x.2.1 1) []) else rN) ePick_inj (l, next, most) (ok := okPick) ⟨n1, n2⟩
  unfold pickL
  by_cases ha : poolOk l
  · rw [if_pos ha] at h ⊢
    exact calls_new (fun _ => rfl) pickI_s h (pick_args h1 h2)
  · rw [if_neg ha] at h ⊢
    exact calls_newN pickI_s h (pick_args h1 h2)
end

end Go.Proofs.Ytlchfjjoendimaa
