/-
  HeaderOk of spec and impl.
-/
import Derived.Test.YteaohgacgcjkjaaEvHead
namespace Go.Proofs.Yteaohgacgcjkjaa
set_option maxRecDepth 100000
set_option linter.unusedVariables false
set_option linter.unusedSimpArgs false
open Go Go.RowKit
set_option maxHeartbeats 4000000

theorem headS_s : Sound Try.prog 73 mHead := by
  refine Sound.mdl Try.func73 rfl Try.ntmps73 ?_
  rintro ⟨h, t, la, va, ne, da⟩ w -
  refine ⟨by simp, ?_⟩
  have hΓ : GSound Try.prog (look [(34, mIn)]) := env_cons (has_of Try.func34 rfl rfl) l1In_s env_nil
  have c1 := mIn_eq h 1 1000000
  have c2 := mIn_eq t 0 1000000
  simp only [initS, argPV, List.map_cons, List.map_nil, toPL, Nat.zero_add]
  by_cases e1 : h = 1
  · subst e1
    rcases cases5 ((0 : Int) ≤ t ∧ t ≤ 1000000) ((va.size : Int) = 8) ((ne.size : Int) = 8) ((la.size : Int) = 0) ((da.size : Int) ≤ 20) with h | h | h | h | h | h
    all_goals
      repeat (first | with_reducible apply W.seq | with_reducible apply W.block | with_reducible apply W.skip | with_reducible apply W.exit | with_reducible apply W.ret | with_reducible apply At.seqN | with_reducible apply At.blkN | with_reducible apply At.blkE | with_reducible apply At.blkR | with_reducible apply At.thenX | with_reducible apply At.thenR | with_reducible apply At.blkX rfl | ((with_reducible apply W.ops); (repeat (first | refine WL.opA hΓ (h := ?_) | refine WL.opX hΓ (h := ?_) | refine WL.opY (h := ?_) | refine WL.opZ (h := ?_))); with_reducible apply WL.nil) | refine W.condT (h := ?_) | refine W.condF (h := ?_))
      refine At.retA (by rw [Try.results73]) (he := ?_)
      first
        | (simp [headOk, lastN, h]; done)
        | (simp [headOk, lastN, h]; intro e; subst e; simp at h)
  · rcases cases6 ((1 : Int) ≤ h ∧ h ≤ 1000000) ((0 : Int) ≤ t ∧ t ≤ 1000000) ((va.size : Int) = 8) ((ne.size : Int) = 8) ((la.size : Int) = 8) ((da.size : Int) ≤ 20) with h | h | h | h | h | h | h
    all_goals
      repeat (first | with_reducible apply W.seq | with_reducible apply W.block | with_reducible apply W.skip | with_reducible apply W.exit | with_reducible apply W.ret | with_reducible apply At.seqN | with_reducible apply At.blkN | with_reducible apply At.blkE | with_reducible apply At.blkR | with_reducible apply At.thenX | with_reducible apply At.thenR | with_reducible apply At.blkX rfl | ((with_reducible apply W.ops); (repeat (first | refine WL.opA hΓ (h := ?_) | refine WL.opX hΓ (h := ?_) | refine WL.opY (h := ?_) | refine WL.opZ (h := ?_))); with_reducible apply WL.nil) | refine W.condT (h := ?_) | refine W.condF (h := ?_))
      refine At.retA (by rw [Try.results73]) (he := ?_)
      simp [headOk, lastN, h, e1]
theorem headI_s : Sound Try.prog 89 mHead := by
  refine Sound.mdl Try.func89 rfl Try.ntmps89 ?_
  rintro ⟨h, t, la, va, ne, da⟩ w -
  refine ⟨by simp, ?_⟩
  have hΓ : GSound Try.prog (look [(38, mHeight), (100, mTime)]) := env_cons (has_of Try.func38 rfl rfl) isHeight_s (env_cons (has_of Try.func100 rfl rfl) isTime_s env_nil)
  have c1 := mHeight_eq h
  have c2 := mTime_eq t
  simp only [initS, argPV, List.map_cons, List.map_nil, toPL, Nat.zero_add]
  by_cases e1 : h = 1
  · subst e1
    rcases cases5 ((0 : Int) ≤ t ∧ t ≤ 1000000) ((va.size : Int) = 8) ((ne.size : Int) = 8) ((la.size : Int) = 0) ((da.size : Int) ≤ 20) with h | h | h | h | h | h
    all_goals
      repeat (first | with_reducible apply W.seq | with_reducible apply W.block | with_reducible apply W.skip | with_reducible apply W.exit | with_reducible apply W.ret | with_reducible apply At.seqN | with_reducible apply At.blkN | with_reducible apply At.blkE | with_reducible apply At.blkR | with_reducible apply At.thenX | with_reducible apply At.thenR | with_reducible apply At.blkX rfl | ((with_reducible apply W.ops); (repeat (first | refine WL.opA hΓ (h := ?_) | refine WL.opX hΓ (h := ?_) | refine WL.opY (h := ?_) | refine WL.opZ (h := ?_))); with_reducible apply WL.nil) | refine W.condT (h := ?_) | refine W.condF (h := ?_))
      refine At.retA (by rw [Try.results89]) (he := ?_)
      first
        | (simp [headOk, lastN, h]; done)
        | (simp [headOk, lastN, h]; intro e; subst e; simp at h)
  · rcases cases6 ((1 : Int) ≤ h ∧ h ≤ 1000000) ((0 : Int) ≤ t ∧ t ≤ 1000000) ((va.size : Int) = 8) ((ne.size : Int) = 8) ((la.size : Int) = 8) ((da.size : Int) ≤ 20) with h | h | h | h | h | h | h
    all_goals
      repeat (first | with_reducible apply W.seq | with_reducible apply W.block | with_reducible apply W.skip | with_reducible apply W.exit | with_reducible apply W.ret | with_reducible apply At.seqN | with_reducible apply At.blkN | with_reducible apply At.blkE | with_reducible apply At.blkR | with_reducible apply At.thenX | with_reducible apply At.thenR | with_reducible apply At.blkX rfl | ((with_reducible apply W.ops); (repeat (first | refine WL.opA hΓ (h := ?_) | refine WL.opX hΓ (h := ?_) | refine WL.opY (h := ?_) | refine WL.opZ (h := ?_))); with_reducible apply WL.nil) | refine W.condT (h := ?_) | refine W.condF (h := ?_))
      refine At.retA (by rw [Try.results89]) (he := ?_)
      simp [headOk, lastN, h, e1]


end Go.Proofs.Yteaohgacgcjkjaa
