/-
  Cost of both programs, and its law.
-/
import Derived.Test.YtjofodicecjeaaaEvPFn
import Derived.Test.YtjofodicecjeaaaEvPMsgS
import Derived.Test.YtjofodicecjeaaaEvPMsgI
namespace Go.Proofs.Ytjofodicecjeaaa
set_option maxRecDepth 100000
set_option linter.unusedVariables false
set_option linter.unusedSimpArgs false
open Go Go.RowKit
set_option maxHeartbeats 4000000

open Classical in
noncomputable def costN (m : TPMsg) : Int := if msgOk m then (if m.1 = 2 then (if m.2.2.1.1 = 2 then (if 5 < m.2.2.1.2.2 then 7 else 2 + m.2.2.1.2.2) else 2) else if m.1 = 3 then 3 else if m.1 = 4 then 1 + (m.2.2.2.2.length : Int) else 1) else 0
theorem costN_no {m : TPMsg} (h : ¬ msgOk m) : costN m = 0 := if_neg h
theorem costN_yes {m : TPMsg} (h : msgOk m) : costN m = (if m.1 = 2 then (if m.2.2.1.1 = 2 then (if 5 < m.2.2.1.2.2 then 7 else 2 + m.2.2.1.2.2) else 2) else if m.1 = 3 then 3 else if m.1 = 4 then 1 + (m.2.2.2.2.length : Int) else 1) := if_pos h
noncomputable def mCost := mdl okPM (fun m => [aPM m]) (fun m => rI (costN m))
theorem mCost_eq (m : TPMsg) (h : okPM m) : mCost [aPM m] = some (rI (costN m)) := mdl_eq aPM_inj m h
theorem CostS_s : Sound Try.prog 42 mCost := by
  refine Sound.mdl Try.func42 rfl Try.ntmps42 ?_
  rintro ⟨k, f, ⟨r1, r2, r3⟩, ⟨h1, h2, la, va, ne, da⟩, l⟩ w hl
  refine ⟨by simp, ?_⟩
  replace hl : l.length ≤ 8796093022207 := hl
  have hΓ : GSound Try.prog (look [(38, mMsg)]) := env_cons (has_of Try.func38 rfl rfl) msgS_s env_nil
  have c1 := mMsg_eq (k, f, (r1, r2, r3), (h1, h2, la, va, ne, da), l) hl
  dsimp only [aPM] at c1
  have hlen := rowsF_len cAddr l
  simp only [initS, argPV, List.map_cons, List.map_nil, toPL, Nat.zero_add]
  by_cases ho : msgOk (k, f, (r1, r2, r3), (h1, h2, la, va, ne, da), l)
  · rw [msgB_yes ho] at c1
    have hc := costN_yes ho
    have a1 : 1 ≤ k ∧ k ≤ 4 := ho.1
    by_cases k2 : k = 2
    · subst k2
      have hq : 0 ≤ r3 ∧ r3 ≤ 100 := by
        have h3 := ho.2.2.1
        rw [if_pos rfl] at h3
        exact h3.2.2.1
      clear ho
      by_cases q2 : r1 = 2
      · subst q2
        by_cases q5 : 5 < r3
        · have hv : costN (2, f, (2, r2, r3), (h1, h2, la, va, ne, da), l) = 7 := by rw [hc]; simp [q5]
          clear hc
          repeat (first | with_reducible apply W.seq | with_reducible apply W.block | with_reducible apply W.skip | with_reducible apply W.exit | with_reducible apply W.ret | with_reducible apply At.seqN | with_reducible apply At.blkN | with_reducible apply At.blkE | with_reducible apply At.blkR | with_reducible apply At.thenX | with_reducible apply At.thenR | with_reducible apply At.blkX rfl | ((with_reducible apply W.ops); (repeat (first | refine WL.opA hΓ (h := ?_) | refine WL.opX hΓ (h := ?_) | refine WL.opY (h := ?_) | refine WL.opZ (h := ?_))); with_reducible apply WL.nil) | refine W.condT (h := ?_) | refine W.condF (h := ?_))
          refine At.retA (by rw [Try.results42]) (he := ?_)
          rw [hv]
          try rfl
        · have hv : costN (2, f, (2, r2, r3), (h1, h2, la, va, ne, da), l) = 2 + r3 := by rw [hc]; simp [q5]
          clear hc
          repeat (first | with_reducible apply W.seq | with_reducible apply W.block | with_reducible apply W.skip | with_reducible apply W.exit | with_reducible apply W.ret | with_reducible apply At.seqN | with_reducible apply At.blkN | with_reducible apply At.blkE | with_reducible apply At.blkR | with_reducible apply At.thenX | with_reducible apply At.thenR | with_reducible apply At.blkX rfl | ((with_reducible apply W.ops); (repeat (first | refine WL.opA hΓ (h := ?_) | refine WL.opX hΓ (h := ?_) | refine WL.opY (h := ?_) | refine WL.opZ (h := ?_))); with_reducible apply WL.nil) | refine W.condT (h := ?_) | refine W.condF (h := ?_))
          refine At.retA (by rw [Try.results42]) (he := ?_)
          rw [hv]
          try rfl
      · have hv : costN (2, f, (r1, r2, r3), (h1, h2, la, va, ne, da), l) = 2 := by rw [hc]; simp [q2]
        clear hc
        repeat (first | with_reducible apply W.seq | with_reducible apply W.block | with_reducible apply W.skip | with_reducible apply W.exit | with_reducible apply W.ret | with_reducible apply At.seqN | with_reducible apply At.blkN | with_reducible apply At.blkE | with_reducible apply At.blkR | with_reducible apply At.thenX | with_reducible apply At.thenR | with_reducible apply At.blkX rfl | ((with_reducible apply W.ops); (repeat (first | refine WL.opA hΓ (h := ?_) | refine WL.opX hΓ (h := ?_) | refine WL.opY (h := ?_) | refine WL.opZ (h := ?_))); with_reducible apply WL.nil) | refine W.condT (h := ?_) | refine W.condF (h := ?_))
        refine At.retA (by rw [Try.results42]) (he := ?_)
        rw [hv]
    · clear ho
      by_cases k3 : k = 3
      · subst k3
        have hv : costN (3, f, (r1, r2, r3), (h1, h2, la, va, ne, da), l) = 3 := by rw [hc]; simp
        clear hc
        repeat (first | with_reducible apply W.seq | with_reducible apply W.block | with_reducible apply W.skip | with_reducible apply W.exit | with_reducible apply W.ret | with_reducible apply At.seqN | with_reducible apply At.blkN | with_reducible apply At.blkE | with_reducible apply At.blkR | with_reducible apply At.thenX | with_reducible apply At.thenR | with_reducible apply At.blkX rfl | ((with_reducible apply W.ops); (repeat (first | refine WL.opA hΓ (h := ?_) | refine WL.opX hΓ (h := ?_) | refine WL.opY (h := ?_) | refine WL.opZ (h := ?_))); with_reducible apply WL.nil) | refine W.condT (h := ?_) | refine W.condF (h := ?_))
        refine At.retA (by rw [Try.results42]) (he := ?_)
        rw [hv]
      · by_cases k4 : k = 4
        · subst k4
          have hv : costN (4, f, (r1, r2, r3), (h1, h2, la, va, ne, da), l) = 1 + l.length := by rw [hc]; simp
          clear hc
          repeat (first | with_reducible apply W.seq | with_reducible apply W.block | with_reducible apply W.skip | with_reducible apply W.exit | with_reducible apply W.ret | with_reducible apply At.seqN | with_reducible apply At.blkN | with_reducible apply At.blkE | with_reducible apply At.blkR | with_reducible apply At.thenX | with_reducible apply At.thenR | with_reducible apply At.blkX rfl | ((with_reducible apply W.ops); (repeat (first | refine WL.opA hΓ (h := ?_) | refine WL.opX hΓ (h := ?_) | refine WL.opY (h := ?_) | refine WL.opZ (h := ?_))); with_reducible apply WL.nil) | refine W.condT (h := ?_) | refine W.condF (h := ?_))
          refine At.retA (by rw [Try.results42]) (he := ?_)
          rw [hv]
        · obtain rfl : k = 1 := by omega
          have hv : costN (1, f, (r1, r2, r3), (h1, h2, la, va, ne, da), l) = 1 := by rw [hc]; simp
          clear hc
          repeat (first | with_reducible apply W.seq | with_reducible apply W.block | with_reducible apply W.skip | with_reducible apply W.exit | with_reducible apply W.ret | with_reducible apply At.seqN | with_reducible apply At.blkN | with_reducible apply At.blkE | with_reducible apply At.blkR | with_reducible apply At.thenX | with_reducible apply At.thenR | with_reducible apply At.blkX rfl | ((with_reducible apply W.ops); (repeat (first | refine WL.opA hΓ (h := ?_) | refine WL.opX hΓ (h := ?_) | refine WL.opY (h := ?_) | refine WL.opZ (h := ?_))); with_reducible apply WL.nil) | refine W.condT (h := ?_) | refine W.condF (h := ?_))
          refine At.retA (by rw [Try.results42]) (he := ?_)
          rw [hv]
  · rw [msgB_no ho] at c1
    have hv := costN_no ho
    clear ho
    repeat (first | with_reducible apply W.seq | with_reducible apply W.block | with_reducible apply W.skip | with_reducible apply W.exit | with_reducible apply W.ret | with_reducible apply At.seqN | with_reducible apply At.blkN | with_reducible apply At.blkE | with_reducible apply At.blkR | with_reducible apply At.thenX | with_reducible apply At.thenR | with_reducible apply At.blkX rfl | ((with_reducible apply W.ops); (repeat (first | refine WL.opA hΓ (h := ?_) | refine WL.opX hΓ (h := ?_) | refine WL.opY (h := ?_) | refine WL.opZ (h := ?_))); with_reducible apply WL.nil) | refine W.condT (h := ?_) | refine W.condF (h := ?_))
    refine At.retA (by rw [Try.results42]) (he := ?_)
    rw [hv]
theorem CostI_s : Sound Try.prog 43 mCost := by
  refine Sound.mdl Try.func43 rfl Try.ntmps43 ?_
  rintro ⟨k, f, ⟨r1, r2, r3⟩, ⟨h1, h2, la, va, ne, da⟩, l⟩ w hl
  refine ⟨by simp, ?_⟩
  replace hl : l.length ≤ 8796093022207 := hl
  have hΓ : GSound Try.prog (look [(40, mMsg)]) := env_cons (has_of Try.func40 rfl rfl) msgI_s env_nil
  have c1 := mMsg_eq (k, f, (r1, r2, r3), (h1, h2, la, va, ne, da), l) hl
  dsimp only [aPM] at c1
  have hlen := rowsF_len cAddr l
  simp only [initS, argPV, List.map_cons, List.map_nil, toPL, Nat.zero_add]
  by_cases ho : msgOk (k, f, (r1, r2, r3), (h1, h2, la, va, ne, da), l)
  · rw [msgB_yes ho] at c1
    have hc := costN_yes ho
    have a1 : 1 ≤ k ∧ k ≤ 4 := ho.1
    by_cases k2 : k = 2
    · subst k2
      have hq : 0 ≤ r3 ∧ r3 ≤ 100 := by
        have h3 := ho.2.2.1
        rw [if_pos rfl] at h3
        exact h3.2.2.1
      clear ho
      by_cases q2 : r1 = 2
      · subst q2
        by_cases q5 : 5 < r3
        · have hv : costN (2, f, (2, r2, r3), (h1, h2, la, va, ne, da), l) = 7 := by rw [hc]; simp [q5]
          clear hc
          repeat (first | with_reducible apply W.seq | with_reducible apply W.block | with_reducible apply W.skip | with_reducible apply W.exit | with_reducible apply W.ret | with_reducible apply At.seqN | with_reducible apply At.blkN | with_reducible apply At.blkE | with_reducible apply At.blkR | with_reducible apply At.thenX | with_reducible apply At.thenR | with_reducible apply At.blkX rfl | ((with_reducible apply W.ops); (repeat (first | refine WL.opA hΓ (h := ?_) | refine WL.opX hΓ (h := ?_) | refine WL.opY (h := ?_) | refine WL.opZ (h := ?_))); with_reducible apply WL.nil) | refine W.condT (h := ?_) | refine W.condF (h := ?_))
          refine At.retA (by rw [Try.results43]) (he := ?_)
          rw [hv]
          try rfl
        · have hv : costN (2, f, (2, r2, r3), (h1, h2, la, va, ne, da), l) = 2 + r3 := by rw [hc]; simp [q5]
          clear hc
          repeat (first | with_reducible apply W.seq | with_reducible apply W.block | with_reducible apply W.skip | with_reducible apply W.exit | with_reducible apply W.ret | with_reducible apply At.seqN | with_reducible apply At.blkN | with_reducible apply At.blkE | with_reducible apply At.blkR | with_reducible apply At.thenX | with_reducible apply At.thenR | with_reducible apply At.blkX rfl | ((with_reducible apply W.ops); (repeat (first | refine WL.opA hΓ (h := ?_) | refine WL.opX hΓ (h := ?_) | refine WL.opY (h := ?_) | refine WL.opZ (h := ?_))); with_reducible apply WL.nil) | refine W.condT (h := ?_) | refine W.condF (h := ?_))
          refine At.retA (by rw [Try.results43]) (he := ?_)
          rw [hv]
          try rfl
      · have hv : costN (2, f, (r1, r2, r3), (h1, h2, la, va, ne, da), l) = 2 := by rw [hc]; simp [q2]
        clear hc
        repeat (first | with_reducible apply W.seq | with_reducible apply W.block | with_reducible apply W.skip | with_reducible apply W.exit | with_reducible apply W.ret | with_reducible apply At.seqN | with_reducible apply At.blkN | with_reducible apply At.blkE | with_reducible apply At.blkR | with_reducible apply At.thenX | with_reducible apply At.thenR | with_reducible apply At.blkX rfl | ((with_reducible apply W.ops); (repeat (first | refine WL.opA hΓ (h := ?_) | refine WL.opX hΓ (h := ?_) | refine WL.opY (h := ?_) | refine WL.opZ (h := ?_))); with_reducible apply WL.nil) | refine W.condT (h := ?_) | refine W.condF (h := ?_))
        refine At.retA (by rw [Try.results43]) (he := ?_)
        rw [hv]
    · clear ho
      by_cases k3 : k = 3
      · subst k3
        have hv : costN (3, f, (r1, r2, r3), (h1, h2, la, va, ne, da), l) = 3 := by rw [hc]; simp
        clear hc
        repeat (first | with_reducible apply W.seq | with_reducible apply W.block | with_reducible apply W.skip | with_reducible apply W.exit | with_reducible apply W.ret | with_reducible apply At.seqN | with_reducible apply At.blkN | with_reducible apply At.blkE | with_reducible apply At.blkR | with_reducible apply At.thenX | with_reducible apply At.thenR | with_reducible apply At.blkX rfl | ((with_reducible apply W.ops); (repeat (first | refine WL.opA hΓ (h := ?_) | refine WL.opX hΓ (h := ?_) | refine WL.opY (h := ?_) | refine WL.opZ (h := ?_))); with_reducible apply WL.nil) | refine W.condT (h := ?_) | refine W.condF (h := ?_))
        refine At.retA (by rw [Try.results43]) (he := ?_)
        rw [hv]
      · by_cases k4 : k = 4
        · subst k4
          have hv : costN (4, f, (r1, r2, r3), (h1, h2, la, va, ne, da), l) = 1 + l.length := by rw [hc]; simp
          clear hc
          repeat (first | with_reducible apply W.seq | with_reducible apply W.block | with_reducible apply W.skip | with_reducible apply W.exit | with_reducible apply W.ret | with_reducible apply At.seqN | with_reducible apply At.blkN | with_reducible apply At.blkE | with_reducible apply At.blkR | with_reducible apply At.thenX | with_reducible apply At.thenR | with_reducible apply At.blkX rfl | ((with_reducible apply W.ops); (repeat (first | refine WL.opA hΓ (h := ?_) | refine WL.opX hΓ (h := ?_) | refine WL.opY (h := ?_) | refine WL.opZ (h := ?_))); with_reducible apply WL.nil) | refine W.condT (h := ?_) | refine W.condF (h := ?_))
          refine At.retA (by rw [Try.results43]) (he := ?_)
          rw [hv]
        · obtain rfl : k = 1 := by omega
          have hv : costN (1, f, (r1, r2, r3), (h1, h2, la, va, ne, da), l) = 1 := by rw [hc]; simp
          clear hc
          repeat (first | with_reducible apply W.seq | with_reducible apply W.block | with_reducible apply W.skip | with_reducible apply W.exit | with_reducible apply W.ret | with_reducible apply At.seqN | with_reducible apply At.blkN | with_reducible apply At.blkE | with_reducible apply At.blkR | with_reducible apply At.thenX | with_reducible apply At.thenR | with_reducible apply At.blkX rfl | ((with_reducible apply W.ops); (repeat (first | refine WL.opA hΓ (h := ?_) | refine WL.opX hΓ (h := ?_) | refine WL.opY (h := ?_) | refine WL.opZ (h := ?_))); with_reducible apply WL.nil) | refine W.condT (h := ?_) | refine W.condF (h := ?_))
          refine At.retA (by rw [Try.results43]) (he := ?_)
          rw [hv]
  · rw [msgB_no ho] at c1
    have hv := costN_no ho
    clear ho
    repeat (first | with_reducible apply W.seq | with_reducible apply W.block | with_reducible apply W.skip | with_reducible apply W.exit | with_reducible apply W.ret | with_reducible apply At.seqN | with_reducible apply At.blkN | with_reducible apply At.blkE | with_reducible apply At.blkR | with_reducible apply At.thenX | with_reducible apply At.thenR | with_reducible apply At.blkX rfl | ((with_reducible apply W.ops); (repeat (first | refine WL.opA hΓ (h := ?_) | refine WL.opX hΓ (h := ?_) | refine WL.opY (h := ?_) | refine WL.opZ (h := ?_))); with_reducible apply WL.nil) | refine W.condT (h := ?_) | refine W.condF (h := ?_))
    refine At.retA (by rw [Try.results43]) (he := ?_)
    rw [hv]
theorem lawCost_s : Sound Try.prog 9 (mdl okPZ (fun m => [aPM m]) fun _ => rB true) := by
  refine Sound.mdl Try.func9 rfl Try.ntmps9 ?_
  rintro m w ⟨hl, hs⟩
  refine ⟨by simp, ?_⟩
  have hΓ : GSound Try.prog (look [(37, mSzPM), (39, mToPM), (41, mEqPM), (42, mCost), (43, mCost)]) := env_cons (has_of Try.func37 rfl rfl) szPM_s (env_cons (has_of Try.func39 rfl rfl) toPM_s (env_cons (has_of Try.func41 rfl rfl) eqPM_s (env_cons (has_of Try.func42 rfl rfl) CostS_s (env_cons (has_of Try.func43 rfl rfl) CostI_s env_nil))))
  have c1 := mSzPM_eq m 1048576 ⟨hl, hs⟩ ⟨by omega, by omega⟩
  by_cases hb : (totPM m : Int) ≤ 1048576
  · have hr := szR_yes hb
    have hle : m.2.2.2.2.length ≤ 1048576 := by unfold totPM at hb; omega
    have c3 := mToPM_eq m hle
    have c2 := mCost_eq m (by unfold okPM; omega)
    have c4 := mEqPM_eq m m (by unfold okPM; omega) (by unfold okPM; omega)
    rw [eqPB_self] at c4
    clear hl hs hle
    generalize totPM m = T at hb hr c1
    generalize costN m = b at c2
    obtain ⟨k, f, ⟨r1, r2, r3⟩, ⟨h1, h2, la, va, ne, da⟩, l⟩ := m
    dsimp only [aPM, rPM] at c1 c2 c3 c4
    simp only [initS, argPV, List.map_cons, List.map_nil, toPL, Nat.zero_add]
    repeat (first | with_reducible apply W.seq | with_reducible apply W.block | with_reducible apply W.skip | with_reducible apply W.exit | with_reducible apply W.ret | with_reducible apply At.seqN | with_reducible apply At.blkN | with_reducible apply At.blkE | with_reducible apply At.blkR | with_reducible apply At.thenX | with_reducible apply At.thenR | with_reducible apply At.blkX rfl | ((with_reducible apply W.ops); (repeat (first | refine WL.opA hΓ (h := ?_) | refine WL.opX hΓ (h := ?_) | refine WL.opY (h := ?_) | refine WL.opZ (h := ?_))); with_reducible apply WL.nil) | refine W.condT (h := ?_) | refine W.condF (h := ?_))
    refine W.drawsA hΓ 5 [[], [], [1], [0, 1, 2], [0, 1, 2, 3]] (rest := ?rest36) (Es := ?Es36) (st1 := ?st136) (h := ?h36) (hf := ?hf36) (hp := ?hp36) (hd := ?hd36) (hfr := ?hfr36) (hst := ?hst36) (hT := ?hT36)
    case h36 => kernel_rfl
    case hf36 =>
      repeat (first | refine FlowT.opA (h := ?_) | refine FlowT.opX (h := ?_) | refine FlowT.opY (h := ?_) | refine FlowT.opZ (h := ?_))
      exact FlowT.done
    case hp36 => rfl
    case hd36 => rfl
    case hfr36 => rfl
    case hst36 =>
      simp only [pick_nil, pick_all, List.cons_append, List.nil_append]
      rfl
    (repeat (first | refine WL.opA hΓ (h := ?_) | refine WL.opX hΓ (h := ?_) | refine WL.opY (h := ?_) | refine WL.opZ (h := ?_)))
    with_reducible apply WL.nil
    repeat (first | with_reducible apply W.seq | with_reducible apply W.block | with_reducible apply W.skip | with_reducible apply W.exit | with_reducible apply W.ret | with_reducible apply At.seqN | with_reducible apply At.blkN | with_reducible apply At.blkE | with_reducible apply At.blkR | with_reducible apply At.thenX | with_reducible apply At.thenR | with_reducible apply At.blkX rfl | ((with_reducible apply W.ops); (repeat (first | refine WL.opA hΓ (h := ?_) | refine WL.opX hΓ (h := ?_) | refine WL.opY (h := ?_) | refine WL.opZ (h := ?_))); with_reducible apply WL.nil) | refine W.condT (h := ?_) | refine W.condF (h := ?_))
    refine At.retA (by rw [Try.results9]) (he := rfl)
  · have hr := szR_no hb
    clear hl hs
    generalize totPM m = T at hb hr c1
    obtain ⟨k, f, ⟨r1, r2, r3⟩, ⟨h1, h2, la, va, ne, da⟩, l⟩ := m
    dsimp only [aPM] at c1
    simp only [initS, argPV, List.map_cons, List.map_nil, toPL, Nat.zero_add]
    repeat (first | with_reducible apply W.seq | with_reducible apply W.block | with_reducible apply W.skip | with_reducible apply W.exit | with_reducible apply W.ret | with_reducible apply At.seqN | with_reducible apply At.blkN | with_reducible apply At.blkE | with_reducible apply At.blkR | with_reducible apply At.thenX | with_reducible apply At.thenR | with_reducible apply At.blkX rfl | ((with_reducible apply W.ops); (repeat (first | refine WL.opA hΓ (h := ?_) | refine WL.opX hΓ (h := ?_) | refine WL.opY (h := ?_) | refine WL.opZ (h := ?_))); with_reducible apply WL.nil) | refine W.condT (h := ?_) | refine W.condF (h := ?_))
    refine At.retA (by rw [Try.results9]) (he := rfl)

end Go.Proofs.Ytjofodicecjeaaa
