/-
  OldRoots and Grown of both programs.
-/
import Derived.Test.YteaohgacgcjkjaaDoorEvTree
namespace Go.Proofs.YteaohgacgcjkjaaDoor
set_option maxRecDepth 100000
set_option linter.unusedVariables false
set_option linter.unusedSimpArgs false
open Go Go.RowKit
set_option maxHeartbeats 4000000

/-- both roots of parts -/
def up (m n : Nat) (p : List ByteArray) : ByteArray × ByteArray × Bool :=
  if p.length = 0 then (ByteArray.empty, ByteArray.empty, false)
  else if m = n then (p.getD 0 ByteArray.empty, p.getD 0 ByteArray.empty, decide (p.length = 1))
  else if h : n < 2 ∨ 64 < n then (ByteArray.empty, ByteArray.empty, false)
  else if m ≤ spl n then
    ((up m (spl n) (p.take (p.length - 1))).1, nodeH (up m (spl n) (p.take (p.length - 1))).2.1 (p.getD (p.length - 1) ByteArray.empty), (up m (spl n) (p.take (p.length - 1))).2.2)
  else (nodeH (p.getD 0 ByteArray.empty) (up (m - spl n) (n - spl n) (p.drop 1)).1, nodeH (p.getD 0 ByteArray.empty) (up (m - spl n) (n - spl n) (p.drop 1)).2.1, (up (m - spl n) (n - spl n) (p.drop 1)).2.2)
termination_by n
decreasing_by all_goals (have := spl_lt (n := n) (by omega) (by omega); omega)
theorem up_nil {m n : Nat} {p : List ByteArray} (h : p.length = 0) : up m n p = (ByteArray.empty, ByteArray.empty, false) := by rw [up, if_pos h]
theorem up_eq {n : Nat} {p : List ByteArray} (h : ¬ p.length = 0) : up n n p = (p.getD 0 ByteArray.empty, p.getD 0 ByteArray.empty, decide (p.length = 1)) := by rw [up, if_neg h, if_pos rfl]
theorem up_lo {m n : Nat} {p : List ByteArray} (h : ¬ p.length = 0) (hm : ¬ m = n) (h2 : 2 ≤ n) (h64 : n ≤ 64) (hk : m ≤ spl n) :
    up m n p = ((up m (spl n) (p.take (p.length - 1))).1, nodeH (up m (spl n) (p.take (p.length - 1))).2.1 (p.getD (p.length - 1) ByteArray.empty), (up m (spl n) (p.take (p.length - 1))).2.2) := by
  rw [up, if_neg h, if_neg hm, dif_neg (by omega), if_pos hk]
theorem up_hi {m n : Nat} {p : List ByteArray} (h : ¬ p.length = 0) (hm : ¬ m = n) (h2 : 2 ≤ n) (h64 : n ≤ 64) (hk : ¬ m ≤ spl n) :
    up m n p = (nodeH (p.getD 0 ByteArray.empty) (up (m - spl n) (n - spl n) (p.drop 1)).1, nodeH (p.getD 0 ByteArray.empty) (up (m - spl n) (n - spl n) (p.drop 1)).2.1, (up (m - spl n) (n - spl n) (p.drop 1)).2.2) := by
  rw [up, if_neg h, if_neg hm, dif_neg (by omega), if_neg hk]
theorem up_size (n : Nat) : ∀ (m : Nat) (p : List ByteArray), (∀ x ∈ p, x.size ≤ 1048576) → (up m n p).1.size ≤ 1048576 ∧ (up m n p).2.1.size ≤ 1048576 := by
  induction n using Nat.strongRecOn with
  | _ n ih =>
    intro m p hs
    by_cases h0 : p.length = 0
    · rw [up_nil h0]; simp
    · by_cases hm : m = n
      · subst hm
        rw [up_eq h0]
        exact ⟨sz_at hs 0, sz_at hs 0⟩
      · by_cases hn : n < 2 ∨ 64 < n
        · rw [up, if_neg h0, if_neg hm, dif_pos hn]; simp
        · by_cases hk : m ≤ spl n
          · rw [up_lo h0 hm (by omega) (by omega) hk]
            have := ih (spl n) (spl_lt (by omega) (by omega)).2 m (p.take (p.length - 1)) (fun x hx => hs x (List.mem_of_mem_take hx))
            exact ⟨this.1, by dsimp only; rw [nodeH_size]; omega⟩
          · rw [up_hi h0 hm (by omega) (by omega) hk]
            exact ⟨by dsimp only; rw [nodeH_size]; omega, by dsimp only; rw [nodeH_size]; omega⟩
abbrev rT (a b : ByteArray) (t : Bool) : Res := .tup [(false, [.ro (.sc (.string a))]), (false, [.ro (.sc (.string b))]), (false, [.ro (.sc (.bool t))])]
abbrev rT3 (x : ByteArray × ByteArray × Bool) : Res := rT x.1 x.2.1 x.2.2
abbrev okP (p : List ByteArray) : Prop := p.length ≤ 8796093022207 ∧ ∀ x ∈ p, x.size ≤ 1048576
theorem okP.take {p : List ByteArray} (h : okP p) (k : Nat) : okP (p.take k) := okT.take h k
theorem okP.drop {p : List ByteArray} (h : okP p) (k : Nat) : okP (p.drop k) := okT.drop h k
abbrev encU (x : Nat × Nat × List ByteArray) : List Arg := [aI (x.1 : Int), aI (x.2.1 : Int), aL cStr x.2.2]
theorem encU_inj : ∀ x y, encU x = encU y → x = y := by
  rintro ⟨a, b, c⟩ ⟨d, e, f⟩ h
  simp [encU] at h
  obtain ⟨h1, h2, h3⟩ := h
  have e1 : a = d := by omega
  have e2 : b = e := by omega
  rw [e1, e2, h3]
abbrev okU (x : Nat × Nat × List ByteArray) : Prop := (1 ≤ x.1 ∧ x.1 ≤ x.2.1 ∧ x.2.1 ≤ 40) ∧ okP x.2.2
noncomputable def mUp := mdl okU encU (fun x => rT3 (up x.1 x.2.1 x.2.2))
noncomputable def mUpN (N : Nat) := mdl (fun x => okU x ∧ x.2.1 < N) encU (fun x => rT3 (up x.1 x.2.1 x.2.2))
theorem mUp_eq (m n : Nat) (p : List ByteArray) (h : 1 ≤ m ∧ m ≤ n ∧ n ≤ 40) (hp : okP p) : mUp (encU (m, n, p)) = some (rT3 (up m n p)) := mdl_eq encU_inj (m, n, p) ⟨h, hp⟩
theorem sub_hi (p : List ByteArray) (k : Nat) : (rowsF cStr p).take k = rowsF cStr (p.take k) := rowsF_take cStr p k
theorem up_s : Sound Tryd.prog 60 mUp := by
  refine Sound.again (fun x => x.2.1) encU_inj fun N ih => ?_
  refine Sound.mdl Tryd.func60 rfl Tryd.ntmps60 ?_
  rintro ⟨m, n, p⟩ w ⟨⟨⟨m1, m2, m3⟩, hp⟩, hN⟩
  refine ⟨by simp, ?_⟩
  dsimp only at m1 m2 m3 hp hN
  have hΓ : GSound Tryd.prog (look [(56, mNode), (55, mSpl), (60, mUpN N)]) := env_cons (has_of Tryd.func56 rfl rfl) nodeS_s (env_cons (has_of Tryd.func55 rfl rfl) splS_s (env_cons (has_of Tryd.func60 rfl rfl) ih env_nil))
  have hlen := rowsF_len cStr p
  obtain ⟨hl, hsz⟩ := id hp
  by_cases h0 : p.length = 0
  · have hv := up_nil (m := m) (n := n) h0
    clear hsz hp
    simp only [initS, argPV, List.map_cons, List.map_nil, toPL, Nat.zero_add]
    repeat (first | with_reducible apply W.seq | with_reducible apply W.block | with_reducible apply W.skip | with_reducible apply W.exit | with_reducible apply W.ret | with_reducible apply At.seqN | with_reducible apply At.blkN | with_reducible apply At.blkE | with_reducible apply At.blkR | with_reducible apply At.thenX | with_reducible apply At.thenR | with_reducible apply At.blkX rfl | ((with_reducible apply W.ops); (repeat (first | refine WL.opA hΓ (h := ?_) | refine WL.opX hΓ (h := ?_) | refine WL.opY (h := ?_) | refine WL.opZ (h := ?_))); with_reducible apply WL.nil) | refine W.condT (h := ?_) | refine W.condF (h := ?_))
    refine At.retA (by rw [Tryd.results60]) (he := ?_)
    rw [hv]
    rfl
  · have hrow := row_s (l := p) (k := 0) (by omega)
    by_cases hm : m = n
    · subst hm
      have hv := up_eq (n := m) h0
      clear hsz hp
      simp only [initS, argPV, List.map_cons, List.map_nil, toPL, Nat.zero_add]
      repeat (first | with_reducible apply W.seq | with_reducible apply W.block | with_reducible apply W.skip | with_reducible apply W.exit | with_reducible apply W.ret | with_reducible apply At.seqN | with_reducible apply At.blkN | with_reducible apply At.blkE | with_reducible apply At.blkR | with_reducible apply At.thenX | with_reducible apply At.thenR | with_reducible apply At.blkX rfl | ((with_reducible apply W.ops); (repeat (first | refine WL.opA hΓ (h := ?_) | refine WL.opX hΓ (h := ?_) | refine WL.opY (h := ?_) | refine WL.opZ (h := ?_))); with_reducible apply WL.nil) | refine W.condT (h := ?_) | refine W.condF (h := ?_))
      refine W.drawsA hΓ 12 [[], [0], [0, 1], [], [3], [3, 4], [], [6], [6, 7], [0, 1, 2], [0, 1, 2, 3, 4, 5, 9], [0, 1, 2, 3, 4, 5, 6, 7, 8, 9, 10]] (rest := ?rest7) (Es := ?Es7) (st1 := ?st17) (h := ?h7) (hf := ?hf7) (hp := ?hp7) (hd := ?hd7) (hfr := ?hfr7) (hst := ?hst7) (hT := ?hT7)
      case h7 => kernel_rfl
      case hf7 =>
        repeat (first | refine FlowT.opA (h := ?_) | refine FlowT.opX (h := ?_) | refine FlowT.opY (h := ?_) | refine FlowT.opZ (h := ?_))
        exact FlowT.done
      case hp7 => rfl
      case hd7 => rfl
      case hfr7 => rfl
      case hst7 =>
        simp only [pick_nil, pick_all, List.cons_append, List.nil_append]
        rfl
      (repeat (first | refine WL.opA hΓ (h := ?_) | refine WL.opX hΓ (h := ?_) | refine WL.opY (h := ?_) | refine WL.opZ (h := ?_)))
      with_reducible apply WL.nil
      repeat (first | with_reducible apply W.seq | with_reducible apply W.block | with_reducible apply W.skip | with_reducible apply W.exit | with_reducible apply W.ret | with_reducible apply At.seqN | with_reducible apply At.blkN | with_reducible apply At.blkE | with_reducible apply At.blkR | with_reducible apply At.thenX | with_reducible apply At.thenR | with_reducible apply At.blkX rfl | ((with_reducible apply W.ops); (repeat (first | refine WL.opA hΓ (h := ?_) | refine WL.opX hΓ (h := ?_) | refine WL.opY (h := ?_) | refine WL.opZ (h := ?_))); with_reducible apply WL.nil) | refine W.condT (h := ?_) | refine W.condF (h := ?_))
      refine At.retA (by rw [Tryd.results60]) (he := ?_)
      rw [hv]
      have e : decide ((p.length : Int) = 1) = decide (p.length = 1) := by
        by_cases h : p.length = 1
        · simp [h]
        · rw [decide_eq_false h, decide_eq_false (by omega)]
      simp [e]
    · have hs := spl_lt (n := n) (by omega) (by omega)
      have c2 := mSpl_eq n (by omega)
      by_cases hk : m ≤ spl n
      · clear hrow
        have hv := up_lo h0 hm (by omega) (by omega) hk
        have c3 : mUpN N (encU (m, spl n, p.take (p.length - 1))) = some (rT3 (up m (spl n) (p.take (p.length - 1)))) := mdl_eq encU_inj (m, spl n, p.take (p.length - 1)) ⟨⟨⟨m1, hk, by dsimp only; omega⟩, hp.take _⟩, by dsimp only; omega⟩
        have hsz2 := up_size (spl n) m (p.take (p.length - 1)) (hp.take _).2
        have hrow1 := row_s (l := p) (k := p.length - 1) (by omega)
        have hs1 := sz_at hsz (p.length - 1)
        have e1 := sub_hi p (p.length - 1)
        have el : ((p.length : Int) - 1).toNat = p.length - 1 := by omega
        have x0 := row_ex (l := p) (k := 0) (by omega)
        generalize up m (spl n) (p.take (p.length - 1)) = r at *
        obtain ⟨r1, r2, r3⟩ := r
        dsimp only at hsz2 hv
        have c4 := mNode_eq r2 (p.getD (p.length - 1) ByteArray.empty) (by omega)
        clear hsz hp ih
        dsimp only [encU, rT3] at c3
        simp only [initS, argPV, List.map_cons, List.map_nil, toPL, Nat.zero_add]
        repeat (first | with_reducible apply W.seq | with_reducible apply W.block | with_reducible apply W.skip | with_reducible apply W.exit | with_reducible apply W.ret | with_reducible apply At.seqN | with_reducible apply At.blkN | with_reducible apply At.blkE | with_reducible apply At.blkR | with_reducible apply At.thenX | with_reducible apply At.thenR | with_reducible apply At.blkX rfl | ((with_reducible apply W.ops); (repeat (first | refine WL.opA hΓ (h := ?_) | refine WL.opX hΓ (h := ?_) | refine WL.opY (h := ?_) | refine WL.opZ (h := ?_))); with_reducible apply WL.nil) | refine W.condT (h := ?_) | refine W.condF (h := ?_))
        refine At.retA (by rw [Tryd.results60]) (he := ?_)
        rw [hv]
      · have hv := up_hi h0 hm (by omega) (by omega) hk
        have c3 : mUpN N (encU (m - spl n, n - spl n, p.drop 1)) = some (rT3 (up (m - spl n) (n - spl n) (p.drop 1))) := mdl_eq encU_inj (m - spl n, n - spl n, p.drop 1) ⟨⟨⟨by dsimp only; omega, by dsimp only; omega, by dsimp only; omega⟩, hp.drop _⟩, by dsimp only; omega⟩
        have hsz2 := up_size (n - spl n) (m - spl n) (p.drop 1) (hp.drop _).2
        have hs1 := sz_at hsz 0
        have e1 := sub_lo p 1
        have d1 : (m : Int) - (spl n : Int) = ((m - spl n : Nat) : Int) := by omega
        have d2 : (n : Int) - (spl n : Int) = ((n - spl n : Nat) : Int) := by omega
        by_cases hone : p.length = 1
        · have hnil : rowsF cStr (p.drop 1) = [] := by
            have : p.drop 1 = [] := List.eq_nil_of_length_eq_zero (by rw [List.length_drop, hone])
            rw [this]; rfl
          have nx : ¬ (rowsF cStr p = [] ∨ ∃ row, (rowsF cStr p)[1]? = some row ∧ row.length = 1) := by
            rintro (h | ⟨row, h, _⟩)
            · have := congrArg List.length h; rw [rowsF_len, List.length_nil] at this; omega
            · have := (List.getElem?_eq_some_iff.1 h).1
              rw [rowsF_len] at this; omega
          generalize up (m - spl n) (n - spl n) (p.drop 1) = r at *
          obtain ⟨r1, r2, r3⟩ := r
          dsimp only at hsz2 hv
          have c4 := mNode_eq (p.getD 0 ByteArray.empty) r1 (by omega)
          have c5 := mNode_eq (p.getD 0 ByteArray.empty) r2 (by omega)
          dsimp only [encU, aL, rT3] at c3
          rw [hnil] at c3
          clear hsz hp ih e1
          simp only [initS, argPV, List.map_cons, List.map_nil, toPL, Nat.zero_add]
          repeat (first | with_reducible apply W.seq | with_reducible apply W.block | with_reducible apply W.skip | with_reducible apply W.exit | with_reducible apply W.ret | with_reducible apply At.seqN | with_reducible apply At.blkN | with_reducible apply At.blkE | with_reducible apply At.blkR | with_reducible apply At.thenX | with_reducible apply At.thenR | with_reducible apply At.blkX rfl | ((with_reducible apply W.ops); (repeat (first | refine WL.opA hΓ (h := ?_) | refine WL.opX hΓ (h := ?_) | refine WL.opY (h := ?_) | refine WL.opZ (h := ?_))); with_reducible apply WL.nil) | refine W.condT (h := ?_) | refine W.condF (h := ?_))
          refine W.drawsA hΓ 14 [[], [0], [0, 1], [], [0, 1, 2, 3], [], [5], [5, 6], [], [0, 1, 2, 3, 4, 5, 6, 7, 8], [], [0, 1, 2, 3, 4, 5, 6, 7, 8, 9], [0, 1, 2, 3, 4, 5, 6, 7, 8, 9, 11], [0, 1, 2, 3, 4, 5, 6, 7, 8, 9, 10, 11, 12]] (rest := ?rest15) (Es := ?Es15) (st1 := ?st115) (h := ?h15) (hf := ?hf15) (hp := ?hp15) (hd := ?hd15) (hfr := ?hfr15) (hst := ?hst15) (hT := ?hT15)
          case h15 => kernel_rfl
          case hf15 =>
            repeat (first | refine FlowT.opA (h := ?_) | refine FlowT.opX (h := ?_) | refine FlowT.opY (h := ?_) | refine FlowT.opZ (h := ?_))
            exact FlowT.done
          case hp15 => rfl
          case hd15 => rfl
          case hfr15 => rfl
          case hst15 =>
            simp only [pick_nil, pick_all, List.cons_append, List.nil_append]
            rfl
          (repeat (first | refine WL.opA hΓ (h := ?_) | refine WL.opX hΓ (h := ?_) | refine WL.opY (h := ?_) | refine WL.opZ (h := ?_)))
          with_reducible apply WL.nil
          repeat (first | with_reducible apply W.seq | with_reducible apply W.block | with_reducible apply W.skip | with_reducible apply W.exit | with_reducible apply W.ret | with_reducible apply At.seqN | with_reducible apply At.blkN | with_reducible apply At.blkE | with_reducible apply At.blkR | with_reducible apply At.thenX | with_reducible apply At.thenR | with_reducible apply At.blkX rfl | ((with_reducible apply W.ops); (repeat (first | refine WL.opA hΓ (h := ?_) | refine WL.opX hΓ (h := ?_) | refine WL.opY (h := ?_) | refine WL.opZ (h := ?_))); with_reducible apply WL.nil) | refine W.condT (h := ?_) | refine W.condF (h := ?_))
          refine At.retA (by rw [Tryd.results60]) (he := ?_)
          rw [hv]
        · have x1 := row_ex (l := p) (k := 1) (by omega)
          generalize up (m - spl n) (n - spl n) (p.drop 1) = r at *
          obtain ⟨r1, r2, r3⟩ := r
          dsimp only at hsz2 hv
          have c4 := mNode_eq (p.getD 0 ByteArray.empty) r1 (by omega)
          have c5 := mNode_eq (p.getD 0 ByteArray.empty) r2 (by omega)
          dsimp only [encU, rT3] at c3
          clear hsz hp ih
          simp only [initS, argPV, List.map_cons, List.map_nil, toPL, Nat.zero_add]
          repeat (first | with_reducible apply W.seq | with_reducible apply W.block | with_reducible apply W.skip | with_reducible apply W.exit | with_reducible apply W.ret | with_reducible apply At.seqN | with_reducible apply At.blkN | with_reducible apply At.blkE | with_reducible apply At.blkR | with_reducible apply At.thenX | with_reducible apply At.thenR | with_reducible apply At.blkX rfl | ((with_reducible apply W.ops); (repeat (first | refine WL.opA hΓ (h := ?_) | refine WL.opX hΓ (h := ?_) | refine WL.opY (h := ?_) | refine WL.opZ (h := ?_))); with_reducible apply WL.nil) | refine W.condT (h := ?_) | refine W.condF (h := ?_))
          refine W.drawsA hΓ 14 [[], [0], [0, 1], [], [0, 1, 2, 3], [], [5], [5, 6], [], [0, 1, 2, 3, 4, 5, 6, 7, 8], [], [0, 1, 2, 3, 4, 5, 6, 7, 8, 9], [0, 1, 2, 3, 4, 5, 6, 7, 8, 9, 11], [0, 1, 2, 3, 4, 5, 6, 7, 8, 9, 10, 11, 12]] (rest := ?rest20) (Es := ?Es20) (st1 := ?st120) (h := ?h20) (hf := ?hf20) (hp := ?hp20) (hd := ?hd20) (hfr := ?hfr20) (hst := ?hst20) (hT := ?hT20)
          case h20 => kernel_rfl
          case hf20 =>
            repeat (first | refine FlowT.opA (h := ?_) | refine FlowT.opX (h := ?_) | refine FlowT.opY (h := ?_) | refine FlowT.opZ (h := ?_))
            exact FlowT.done
          case hp20 => rfl
          case hd20 => rfl
          case hfr20 => rfl
          case hst20 =>
            simp only [pick_nil, pick_all, List.cons_append, List.nil_append]
            rfl
          (repeat (first | refine WL.opA hΓ (h := ?_) | refine WL.opX hΓ (h := ?_) | refine WL.opY (h := ?_) | refine WL.opZ (h := ?_)))
          with_reducible apply WL.nil
          repeat (first | with_reducible apply W.seq | with_reducible apply W.block | with_reducible apply W.skip | with_reducible apply W.exit | with_reducible apply W.ret | with_reducible apply At.seqN | with_reducible apply At.blkN | with_reducible apply At.blkE | with_reducible apply At.blkR | with_reducible apply At.thenX | with_reducible apply At.thenR | with_reducible apply At.blkX rfl | ((with_reducible apply W.ops); (repeat (first | refine WL.opA hΓ (h := ?_) | refine WL.opX hΓ (h := ?_) | refine WL.opY (h := ?_) | refine WL.opZ (h := ?_))); with_reducible apply WL.nil) | refine W.condT (h := ?_) | refine W.condF (h := ?_))
          refine At.retA (by rw [Tryd.results60]) (he := ?_)
          rw [hv]

def fixR (r : ByteArray × ByteArray × Bool) : ByteArray × ByteArray × Bool := if r.2.2 = true then (r.1, r.2.1, true) else (ByteArray.empty, ByteArray.empty, false)
def oldR (m n : Int) (p : List ByteArray) : ByteArray × ByteArray × Bool := if (1 ≤ m ∧ m ≤ n) ∧ n ≤ 40 then fixR (up m.toNat n.toNat p) else (ByteArray.empty, ByteArray.empty, false)
theorem oldR_no {m n : Int} {p : List ByteArray} (h : ¬ ((1 ≤ m ∧ m ≤ n) ∧ n ≤ 40)) : oldR m n p = (ByteArray.empty, ByteArray.empty, false) := if_neg h
theorem oldR_yes {m n : Nat} {p : List ByteArray} (h : (1 ≤ m ∧ m ≤ n) ∧ n ≤ 40) : oldR m n p = fixR (up m n p) := by unfold oldR; rw [if_pos (by omega)]; rfl
abbrev encO (x : Int × Int × List ByteArray) : List Arg := [aI x.1, aI x.2.1, aL cStr x.2.2]
theorem encO_inj : ∀ x y, encO x = encO y → x = y := by
  rintro ⟨a, b, c⟩ ⟨d, e, f⟩ h
  simpa [encO] using h
abbrev okO (x : Int × Int × List ByteArray) : Prop := okP x.2.2
noncomputable def mOld := mdl okO encO (fun x => rT3 (oldR x.1 x.2.1 x.2.2))
noncomputable def mOldN (N : Nat) := mdl (fun x => okO x ∧ x.2.1.toNat < N) encO (fun x => rT3 (oldR x.1 x.2.1 x.2.2))
theorem mOld_eq (m n : Int) (p : List ByteArray) (hp : okP p) : mOld [aI m, aI n, aL cStr p] = some (rT3 (oldR m n p)) := mdl_eq encO_inj (m, n, p) hp
theorem oldS_s : Sound Tryd.prog 37 mOld := by
  refine Sound.mdl Tryd.func37 rfl Tryd.ntmps37 ?_
  rintro ⟨m, n, p⟩ w hp
  refine ⟨by simp, ?_⟩
  replace hp : okP p := hp
  have hΓ : GSound Tryd.prog (look [(35, mIn), (60, mUp)]) := env_cons (has_of Tryd.func35 rfl rfl) l1In_s (env_cons (has_of Tryd.func60 rfl rfl) up_s env_nil)
  have c1 := mIn_eq m 1 n
  by_cases hv1 : 1 ≤ m ∧ m ≤ n
  · by_cases h40 : n ≤ 40
    · obtain ⟨m', rfl⟩ := Int.eq_ofNat_of_zero_le (show 0 ≤ m by omega)
      obtain ⟨n', rfl⟩ := Int.eq_ofNat_of_zero_le (show 0 ≤ n by omega)
      have hv := oldR_yes (m := m') (n := n') (p := p) (by omega)
      have c3 := mUp_eq m' n' p (by omega) hp
      generalize up m' n' p = r at *
      obtain ⟨r1, r2, r3⟩ := r
      dsimp only [encU, rT3] at c3
      clear hp
      cases r3 with
      | true =>
        simp only [initS, argPV, List.map_cons, List.map_nil, toPL, Nat.zero_add]
        repeat (first | with_reducible apply W.seq | with_reducible apply W.block | with_reducible apply W.skip | with_reducible apply W.exit | with_reducible apply W.ret | with_reducible apply At.seqN | with_reducible apply At.blkN | with_reducible apply At.blkE | with_reducible apply At.blkR | with_reducible apply At.thenX | with_reducible apply At.thenR | with_reducible apply At.blkX rfl | ((with_reducible apply W.ops); (repeat (first | refine WL.opA hΓ (h := ?_) | refine WL.opX hΓ (h := ?_) | refine WL.opY (h := ?_) | refine WL.opZ (h := ?_))); with_reducible apply WL.nil) | refine W.condT (h := ?_) | refine W.condF (h := ?_))
        refine At.retA (by rw [Tryd.results37]) (he := ?_)
        rw [hv]
        rfl
      | false =>
        simp only [initS, argPV, List.map_cons, List.map_nil, toPL, Nat.zero_add]
        repeat (first | with_reducible apply W.seq | with_reducible apply W.block | with_reducible apply W.skip | with_reducible apply W.exit | with_reducible apply W.ret | with_reducible apply At.seqN | with_reducible apply At.blkN | with_reducible apply At.blkE | with_reducible apply At.blkR | with_reducible apply At.thenX | with_reducible apply At.thenR | with_reducible apply At.blkX rfl | ((with_reducible apply W.ops); (repeat (first | refine WL.opA hΓ (h := ?_) | refine WL.opX hΓ (h := ?_) | refine WL.opY (h := ?_) | refine WL.opZ (h := ?_))); with_reducible apply WL.nil) | refine W.condT (h := ?_) | refine W.condF (h := ?_))
        refine At.retA (by rw [Tryd.results37]) (he := ?_)
        rw [hv]
        rfl
    · have hv := oldR_no (m := m) (n := n) (p := p) (fun h => h40 h.2)
      clear hp
      simp only [initS, argPV, List.map_cons, List.map_nil, toPL, Nat.zero_add]
      repeat (first | with_reducible apply W.seq | with_reducible apply W.block | with_reducible apply W.skip | with_reducible apply W.exit | with_reducible apply W.ret | with_reducible apply At.seqN | with_reducible apply At.blkN | with_reducible apply At.blkE | with_reducible apply At.blkR | with_reducible apply At.thenX | with_reducible apply At.thenR | with_reducible apply At.blkX rfl | ((with_reducible apply W.ops); (repeat (first | refine WL.opA hΓ (h := ?_) | refine WL.opX hΓ (h := ?_) | refine WL.opY (h := ?_) | refine WL.opZ (h := ?_))); with_reducible apply WL.nil) | refine W.condT (h := ?_) | refine W.condF (h := ?_))
      refine At.retA (by rw [Tryd.results37]) (he := ?_)
      rw [hv]
      rfl
  · have hv := oldR_no (m := m) (n := n) (p := p) (fun h => hv1 h.1)
    clear hp
    simp only [initS, argPV, List.map_cons, List.map_nil, toPL, Nat.zero_add]
    repeat (first | with_reducible apply W.seq | with_reducible apply W.block | with_reducible apply W.skip | with_reducible apply W.exit | with_reducible apply W.ret | with_reducible apply At.seqN | with_reducible apply At.blkN | with_reducible apply At.blkE | with_reducible apply At.blkR | with_reducible apply At.thenX | with_reducible apply At.thenR | with_reducible apply At.blkX rfl | ((with_reducible apply W.ops); (repeat (first | refine WL.opA hΓ (h := ?_) | refine WL.opX hΓ (h := ?_) | refine WL.opY (h := ?_) | refine WL.opZ (h := ?_))); with_reducible apply WL.nil) | refine W.condT (h := ?_) | refine W.condF (h := ?_))
    refine At.retA (by rw [Tryd.results37]) (he := ?_)
    rw [hv]
    rfl
theorem oldI_s : Sound Tryd.prog 34 mOld := by
  refine Sound.again (fun x => x.2.1.toNat) encO_inj fun N ih => ?_
  refine Sound.mdl Tryd.func34 rfl Tryd.ntmps34 ?_
  rintro ⟨m, n, p⟩ w ⟨hp, hN⟩
  refine ⟨by simp, ?_⟩
  replace hp : okP p := hp
  dsimp only at hN
  have hΓ : GSound Tryd.prog (look [(31, mWithin), (59, mNode), (33, mSpl), (34, mOldN N)]) := env_cons (has_of Tryd.func31 rfl rfl) within_s (env_cons (has_of Tryd.func59 rfl rfl) nodeI_s (env_cons (has_of Tryd.func33 rfl rfl) splI_s (env_cons (has_of Tryd.func34 rfl rfl) ih env_nil)))
  have c1 := mWithin_eq m 1 n
  have hlen := rowsF_len cStr p
  obtain ⟨hl, hsz⟩ := id hp
  by_cases hv1 : 1 ≤ m ∧ m ≤ n
  · by_cases h40 : n ≤ 40
    · obtain ⟨m', rfl⟩ := Int.eq_ofNat_of_zero_le (show 0 ≤ m by omega)
      obtain ⟨n', rfl⟩ := Int.eq_ofNat_of_zero_le (show 0 ≤ n by omega)
      have hv := oldR_yes (m := m') (n := n') (p := p) (by omega)
      rw [Int.toNat_natCast] at hN
      by_cases h0 : p.length = 0
      · rw [up_nil h0] at hv
        clear hp hsz
        simp only [initS, argPV, List.map_cons, List.map_nil, toPL, Nat.zero_add]
        repeat (first | with_reducible apply W.seq | with_reducible apply W.block | with_reducible apply W.skip | with_reducible apply W.exit | with_reducible apply W.ret | with_reducible apply At.seqN | with_reducible apply At.blkN | with_reducible apply At.blkE | with_reducible apply At.blkR | with_reducible apply At.thenX | with_reducible apply At.thenR | with_reducible apply At.blkX rfl | ((with_reducible apply W.ops); (repeat (first | refine WL.opA hΓ (h := ?_) | refine WL.opX hΓ (h := ?_) | refine WL.opY (h := ?_) | refine WL.opZ (h := ?_))); with_reducible apply WL.nil) | refine W.condT (h := ?_) | refine W.condF (h := ?_))
        refine At.retA (by rw [Tryd.results34]) (he := ?_)
        rw [hv]
        rfl
      · have hrow := row_s (l := p) (k := 0) (by omega)
        by_cases hm : m' = n'
        · subst hm
          rw [up_eq h0] at hv
          clear hp hsz
          by_cases hone : p.length = 1
          · rw [decide_eq_true hone] at hv
            simp only [initS, argPV, List.map_cons, List.map_nil, toPL, Nat.zero_add]
            repeat (first | with_reducible apply W.seq | with_reducible apply W.block | with_reducible apply W.skip | with_reducible apply W.exit | with_reducible apply W.ret | with_reducible apply At.seqN | with_reducible apply At.blkN | with_reducible apply At.blkE | with_reducible apply At.blkR | with_reducible apply At.thenX | with_reducible apply At.thenR | with_reducible apply At.blkX rfl | ((with_reducible apply W.ops); (repeat (first | refine WL.opA hΓ (h := ?_) | refine WL.opX hΓ (h := ?_) | refine WL.opY (h := ?_) | refine WL.opZ (h := ?_))); with_reducible apply WL.nil) | refine W.condT (h := ?_) | refine W.condF (h := ?_))
            refine W.drawsA hΓ 9 [[], [0], [0, 1], [], [3], [3, 4], [0, 1, 2], [0, 1, 2, 3, 4, 5, 6], [0, 1, 2, 3, 4, 5, 6, 7]] (rest := ?rest42) (Es := ?Es42) (st1 := ?st142) (h := ?h42) (hf := ?hf42) (hp := ?hp42) (hd := ?hd42) (hfr := ?hfr42) (hst := ?hst42) (hT := ?hT42)
            case h42 => kernel_rfl
            case hf42 =>
              repeat (first | refine FlowT.opA (h := ?_) | refine FlowT.opX (h := ?_) | refine FlowT.opY (h := ?_) | refine FlowT.opZ (h := ?_))
              exact FlowT.done
            case hp42 => rfl
            case hd42 => rfl
            case hfr42 => rfl
            case hst42 =>
              simp only [pick_nil, pick_all, List.cons_append, List.nil_append]
              rfl
            (repeat (first | refine WL.opA hΓ (h := ?_) | refine WL.opX hΓ (h := ?_) | refine WL.opY (h := ?_) | refine WL.opZ (h := ?_)))
            with_reducible apply WL.nil
            repeat (first | with_reducible apply W.seq | with_reducible apply W.block | with_reducible apply W.skip | with_reducible apply W.exit | with_reducible apply W.ret | with_reducible apply At.seqN | with_reducible apply At.blkN | with_reducible apply At.blkE | with_reducible apply At.blkR | with_reducible apply At.thenX | with_reducible apply At.thenR | with_reducible apply At.blkX rfl | ((with_reducible apply W.ops); (repeat (first | refine WL.opA hΓ (h := ?_) | refine WL.opX hΓ (h := ?_) | refine WL.opY (h := ?_) | refine WL.opZ (h := ?_))); with_reducible apply WL.nil) | refine W.condT (h := ?_) | refine W.condF (h := ?_))
            refine At.retA (by rw [Tryd.results34]) (he := ?_)
            rw [hv]
            rfl
          · rw [decide_eq_false hone] at hv
            simp only [initS, argPV, List.map_cons, List.map_nil, toPL, Nat.zero_add]
            repeat (first | with_reducible apply W.seq | with_reducible apply W.block | with_reducible apply W.skip | with_reducible apply W.exit | with_reducible apply W.ret | with_reducible apply At.seqN | with_reducible apply At.blkN | with_reducible apply At.blkE | with_reducible apply At.blkR | with_reducible apply At.thenX | with_reducible apply At.thenR | with_reducible apply At.blkX rfl | ((with_reducible apply W.ops); (repeat (first | refine WL.opA hΓ (h := ?_) | refine WL.opX hΓ (h := ?_) | refine WL.opY (h := ?_) | refine WL.opZ (h := ?_))); with_reducible apply WL.nil) | refine W.condT (h := ?_) | refine W.condF (h := ?_))
            refine At.retA (by rw [Tryd.results34]) (he := ?_)
            rw [hv]
            rfl
        · have hs := spl_lt (n := n') (by omega) (by omega)
          have c2 := mSpl_eq n' (by omega)
          by_cases hk : m' ≤ spl n'
          · clear hrow
            rw [up_lo h0 hm (by omega) (by omega) hk] at hv
            have c3 : mOldN N (encO ((m' : Int), ((spl n' : Nat) : Int), p.take (p.length - 1))) = some (rT3 (oldR (m' : Int) ((spl n' : Nat) : Int) (p.take (p.length - 1)))) := mdl_eq encO_inj ((m' : Int), ((spl n' : Nat) : Int), p.take (p.length - 1)) ⟨hp.take _, by dsimp only; rw [Int.toNat_natCast]; omega⟩
            rw [oldR_yes (by omega)] at c3
            have hsz2 := up_size (spl n') m' (p.take (p.length - 1)) (hp.take _).2
            have hrow1 := row_s (l := p) (k := p.length - 1) (by omega)
            have hs1 := sz_at hsz (p.length - 1)
            have e1 := sub_hi p (p.length - 1)
            have el : ((p.length : Int) - 1).toNat = p.length - 1 := by omega
            have x0 := row_ex (l := p) (k := 0) (by omega)
            generalize up m' (spl n') (p.take (p.length - 1)) = r at *
            obtain ⟨r1, r2, r3⟩ := r
            dsimp only at hsz2 hv
            have c4 := mNode_eq r2 (p.getD (p.length - 1) ByteArray.empty) (by omega)
            clear hsz hp ih
            dsimp only [encO] at c3
            cases r3 with
            | true =>
              have hf : fixR (r1, r2, true) = (r1, r2, true) := rfl
              rw [hf] at c3
              dsimp only [rT3] at c3
              simp only [initS, argPV, List.map_cons, List.map_nil, toPL, Nat.zero_add]
              repeat (first | with_reducible apply W.seq | with_reducible apply W.block | with_reducible apply W.skip | with_reducible apply W.exit | with_reducible apply W.ret | with_reducible apply At.seqN | with_reducible apply At.blkN | with_reducible apply At.blkE | with_reducible apply At.blkR | with_reducible apply At.thenX | with_reducible apply At.thenR | with_reducible apply At.blkX rfl | ((with_reducible apply W.ops); (repeat (first | refine WL.opA hΓ (h := ?_) | refine WL.opX hΓ (h := ?_) | refine WL.opY (h := ?_) | refine WL.opZ (h := ?_))); with_reducible apply WL.nil) | refine W.condT (h := ?_) | refine W.condF (h := ?_))
              refine At.retA (by rw [Tryd.results34]) (he := ?_)
              rw [hv]
              rfl
            | false =>
              have hf : fixR (r1, r2, false) = (ByteArray.empty, ByteArray.empty, false) := rfl
              rw [hf] at c3
              dsimp only [rT3] at c3
              simp only [initS, argPV, List.map_cons, List.map_nil, toPL, Nat.zero_add]
              repeat (first | with_reducible apply W.seq | with_reducible apply W.block | with_reducible apply W.skip | with_reducible apply W.exit | with_reducible apply W.ret | with_reducible apply At.seqN | with_reducible apply At.blkN | with_reducible apply At.blkE | with_reducible apply At.blkR | with_reducible apply At.thenX | with_reducible apply At.thenR | with_reducible apply At.blkX rfl | ((with_reducible apply W.ops); (repeat (first | refine WL.opA hΓ (h := ?_) | refine WL.opX hΓ (h := ?_) | refine WL.opY (h := ?_) | refine WL.opZ (h := ?_))); with_reducible apply WL.nil) | refine W.condT (h := ?_) | refine W.condF (h := ?_))
              refine At.retA (by rw [Tryd.results34]) (he := ?_)
              rw [hv]
              rfl
          · rw [up_hi h0 hm (by omega) (by omega) hk] at hv
            have c3 : mOldN N (encO (((m' - spl n' : Nat) : Int), ((n' - spl n' : Nat) : Int), p.drop 1)) = some (rT3 (oldR ((m' - spl n' : Nat) : Int) ((n' - spl n' : Nat) : Int) (p.drop 1))) := mdl_eq encO_inj (((m' - spl n' : Nat) : Int), ((n' - spl n' : Nat) : Int), p.drop 1) ⟨hp.drop _, by dsimp only; rw [Int.toNat_natCast]; omega⟩
            rw [oldR_yes (by omega)] at c3
            have hsz2 := up_size (n' - spl n') (m' - spl n') (p.drop 1) (hp.drop _).2
            have hs1 := sz_at hsz 0
            have e1 := sub_lo p 1
            have d1 : (m' : Int) - (spl n' : Int) = ((m' - spl n' : Nat) : Int) := by omega
            have d2 : (n' : Int) - (spl n' : Int) = ((n' - spl n' : Nat) : Int) := by omega
            have hnl : p.length = 1 → up (m' - spl n') (n' - spl n') (p.drop 1) = (ByteArray.empty, ByteArray.empty, false) := fun h => up_nil (by rw [List.length_drop]; omega)
            generalize up (m' - spl n') (n' - spl n') (p.drop 1) = r at *
            obtain ⟨r1, r2, r3⟩ := r
            dsimp only at hsz2 hv
            have c4 := mNode_eq (p.getD 0 ByteArray.empty) r1 (by omega)
            have c5 := mNode_eq (p.getD 0 ByteArray.empty) r2 (by omega)
            by_cases hone : p.length = 1
            · have hnil : rowsF cStr (p.drop 1) = [] := by
                have : p.drop 1 = [] := List.eq_nil_of_length_eq_zero (by rw [List.length_drop, hone])
                rw [this]; rfl
              have nx : ¬ (rowsF cStr p = [] ∨ ∃ row, (rowsF cStr p)[1]? = some row ∧ row.length = 1) := by
                rintro (h | ⟨row, h, _⟩)
                · have := congrArg List.length h; rw [rowsF_len, List.length_nil] at this; omega
                · have := (List.getElem?_eq_some_iff.1 h).1
                  rw [rowsF_len] at this; omega
              have hr := hnl hone
              injection hr with hr1 hr2
              injection hr2 with hr2 hr3
              subst hr1; subst hr2; subst hr3
              dsimp only [encO, aL] at c3
              rw [hnil] at c3
              have hf : fixR (ByteArray.empty, ByteArray.empty, false) = (ByteArray.empty, ByteArray.empty, false) := rfl
              rw [hf] at c3
              dsimp only [rT3] at c3
              clear hsz hp ih e1
              simp only [initS, argPV, List.map_cons, List.map_nil, toPL, Nat.zero_add]
              repeat (first | with_reducible apply W.seq | with_reducible apply W.block | with_reducible apply W.skip | with_reducible apply W.exit | with_reducible apply W.ret | with_reducible apply At.seqN | with_reducible apply At.blkN | with_reducible apply At.blkE | with_reducible apply At.blkR | with_reducible apply At.thenX | with_reducible apply At.thenR | with_reducible apply At.blkX rfl | ((with_reducible apply W.ops); (repeat (first | refine WL.opA hΓ (h := ?_) | refine WL.opX hΓ (h := ?_) | refine WL.opY (h := ?_) | refine WL.opZ (h := ?_))); with_reducible apply WL.nil) | refine W.condT (h := ?_) | refine W.condF (h := ?_))
              refine At.retA (by rw [Tryd.results34]) (he := ?_)
              rw [hv]
              rfl
            · have x1 := row_ex (l := p) (k := 1) (by omega)
              dsimp only [encO] at c3
              clear hsz hp ih hnl
              cases r3 with
              | true =>
                have hf : fixR (r1, r2, true) = (r1, r2, true) := rfl
                rw [hf] at c3
                dsimp only [rT3] at c3
                simp only [initS, argPV, List.map_cons, List.map_nil, toPL, Nat.zero_add]
                repeat (first | with_reducible apply W.seq | with_reducible apply W.block | with_reducible apply W.skip | with_reducible apply W.exit | with_reducible apply W.ret | with_reducible apply At.seqN | with_reducible apply At.blkN | with_reducible apply At.blkE | with_reducible apply At.blkR | with_reducible apply At.thenX | with_reducible apply At.thenR | with_reducible apply At.blkX rfl | ((with_reducible apply W.ops); (repeat (first | refine WL.opA hΓ (h := ?_) | refine WL.opX hΓ (h := ?_) | refine WL.opY (h := ?_) | refine WL.opZ (h := ?_))); with_reducible apply WL.nil) | refine W.condT (h := ?_) | refine W.condF (h := ?_))
                refine W.drawsA hΓ 13 [[], [0], [0, 1], [], [0, 1, 2, 3], [], [5], [5, 6], [], [0, 1, 2, 3, 4, 5, 6, 7, 8], [0, 1, 2, 3, 4, 5, 6, 7, 8, 9], [0, 1, 2, 3, 4, 5, 6, 7, 8, 9, 10], [0, 1, 2, 3, 4, 5, 6, 7, 8, 9, 10, 11]] (rest := ?rest59) (Es := ?Es59) (st1 := ?st159) (h := ?h59) (hf := ?hf59) (hp := ?hp59) (hd := ?hd59) (hfr := ?hfr59) (hst := ?hst59) (hT := ?hT59)
                case h59 => kernel_rfl
                case hf59 =>
                  repeat (first | refine FlowT.opA (h := ?_) | refine FlowT.opX (h := ?_) | refine FlowT.opY (h := ?_) | refine FlowT.opZ (h := ?_))
                  exact FlowT.done
                case hp59 => rfl
                case hd59 => rfl
                case hfr59 => rfl
                case hst59 =>
                  simp only [pick_nil, pick_all, List.cons_append, List.nil_append]
                  rfl
                (repeat (first | refine WL.opA hΓ (h := ?_) | refine WL.opX hΓ (h := ?_) | refine WL.opY (h := ?_) | refine WL.opZ (h := ?_)))
                with_reducible apply WL.nil
                repeat (first | with_reducible apply W.seq | with_reducible apply W.block | with_reducible apply W.skip | with_reducible apply W.exit | with_reducible apply W.ret | with_reducible apply At.seqN | with_reducible apply At.blkN | with_reducible apply At.blkE | with_reducible apply At.blkR | with_reducible apply At.thenX | with_reducible apply At.thenR | with_reducible apply At.blkX rfl | ((with_reducible apply W.ops); (repeat (first | refine WL.opA hΓ (h := ?_) | refine WL.opX hΓ (h := ?_) | refine WL.opY (h := ?_) | refine WL.opZ (h := ?_))); with_reducible apply WL.nil) | refine W.condT (h := ?_) | refine W.condF (h := ?_))
                refine At.retA (by rw [Tryd.results34]) (he := ?_)
                rw [hv]
                rfl
              | false =>
                have hf : fixR (r1, r2, false) = (ByteArray.empty, ByteArray.empty, false) := rfl
                rw [hf] at c3
                dsimp only [rT3] at c3
                simp only [initS, argPV, List.map_cons, List.map_nil, toPL, Nat.zero_add]
                repeat (first | with_reducible apply W.seq | with_reducible apply W.block | with_reducible apply W.skip | with_reducible apply W.exit | with_reducible apply W.ret | with_reducible apply At.seqN | with_reducible apply At.blkN | with_reducible apply At.blkE | with_reducible apply At.blkR | with_reducible apply At.thenX | with_reducible apply At.thenR | with_reducible apply At.blkX rfl | ((with_reducible apply W.ops); (repeat (first | refine WL.opA hΓ (h := ?_) | refine WL.opX hΓ (h := ?_) | refine WL.opY (h := ?_) | refine WL.opZ (h := ?_))); with_reducible apply WL.nil) | refine W.condT (h := ?_) | refine W.condF (h := ?_))
                refine At.retA (by rw [Tryd.results34]) (he := ?_)
                rw [hv]
                rfl
    · have hv := oldR_no (m := m) (n := n) (p := p) (fun h => h40 h.2)
      clear hp hsz
      simp only [initS, argPV, List.map_cons, List.map_nil, toPL, Nat.zero_add]
      repeat (first | with_reducible apply W.seq | with_reducible apply W.block | with_reducible apply W.skip | with_reducible apply W.exit | with_reducible apply W.ret | with_reducible apply At.seqN | with_reducible apply At.blkN | with_reducible apply At.blkE | with_reducible apply At.blkR | with_reducible apply At.thenX | with_reducible apply At.thenR | with_reducible apply At.blkX rfl | ((with_reducible apply W.ops); (repeat (first | refine WL.opA hΓ (h := ?_) | refine WL.opX hΓ (h := ?_) | refine WL.opY (h := ?_) | refine WL.opZ (h := ?_))); with_reducible apply WL.nil) | refine W.condT (h := ?_) | refine W.condF (h := ?_))
      refine At.retA (by rw [Tryd.results34]) (he := ?_)
      rw [hv]
      rfl
  · have hv := oldR_no (m := m) (n := n) (p := p) (fun h => hv1 h.1)
    clear hp hsz
    simp only [initS, argPV, List.map_cons, List.map_nil, toPL, Nat.zero_add]
    repeat (first | with_reducible apply W.seq | with_reducible apply W.block | with_reducible apply W.skip | with_reducible apply W.exit | with_reducible apply W.ret | with_reducible apply At.seqN | with_reducible apply At.blkN | with_reducible apply At.blkE | with_reducible apply At.blkR | with_reducible apply At.thenX | with_reducible apply At.thenR | with_reducible apply At.blkX rfl | ((with_reducible apply W.ops); (repeat (first | refine WL.opA hΓ (h := ?_) | refine WL.opX hΓ (h := ?_) | refine WL.opY (h := ?_) | refine WL.opZ (h := ?_))); with_reducible apply WL.nil) | refine W.condT (h := ?_) | refine W.condF (h := ?_))
    refine At.retA (by rw [Tryd.results34]) (he := ?_)
    rw [hv]
    rfl

end Go.Proofs.YteaohgacgcjkjaaDoor
