/-
  The law of PMsgOk, out of the contracts.
-/
import Derived.Test.YtjofodicecjeaaaEvPFn
import Derived.Test.YtjofodicecjeaaaEvPMsgS
import Derived.Test.YtjofodicecjeaaaEvPMsgI
namespace Go.Proofs.Ytjofodicecjeaaa
set_option maxRecDepth 100000
set_option linter.unusedVariables false
set_option linter.unusedSimpArgs false
open Go Go.RowKit
set_option maxHeartbeats 4000000

theorem lawMsg_s : Sound Try.prog 8 (mdl okPZ (fun m => [aPM m]) fun _ => rB true) := by
  refine Sound.mdl Try.func8 rfl Try.ntmps8 ?_
  rintro m w ⟨hl, hs⟩
  refine ⟨by simp, ?_⟩
  have hΓ : GSound Try.prog (look [(37, mSzPM), (39, mToPM), (41, mEqPM), (38, mMsg), (40, mMsg)]) := env_cons (has_of Try.func37 rfl rfl) szPM_s (env_cons (has_of Try.func39 rfl rfl) toPM_s (env_cons (has_of Try.func41 rfl rfl) eqPM_s (env_cons (has_of Try.func38 rfl rfl) msgS_s (env_cons (has_of Try.func40 rfl rfl) msgI_s env_nil))))
  have c1 := mSzPM_eq m 1048576 ⟨hl, hs⟩ ⟨by omega, by omega⟩
  by_cases hb : (totPM m : Int) ≤ 1048576
  · have hr := szR_yes hb
    have hle : m.2.2.2.2.length ≤ 1048576 := by unfold totPM at hb; omega
    have c3 := mToPM_eq m hle
    have c2 := mMsg_eq m (by unfold okPM; omega)
    have c4 := mEqPM_eq m m (by unfold okPM; omega) (by unfold okPM; omega)
    rw [eqPB_self] at c4
    clear hl hs hle
    generalize totPM m = T at hb hr c1
    generalize msgB m = b at c2
    have eb : (b == b) = true := by simp
    obtain ⟨k, f, ⟨r1, r2, r3⟩, ⟨h1, h2, la, va, ne, da⟩, l⟩ := m
    dsimp only [aPM, rPM] at c1 c2 c3 c4
    simp only [initS, argPV, List.map_cons, List.map_nil, toPL, Nat.zero_add]
    repeat (first | with_reducible apply W.seq | with_reducible apply W.block | with_reducible apply W.skip | with_reducible apply W.exit | with_reducible apply W.ret | with_reducible apply At.seqN | with_reducible apply At.blkN | with_reducible apply At.blkE | with_reducible apply At.blkR | with_reducible apply At.thenX | with_reducible apply At.thenR | with_reducible apply At.blkX rfl | ((with_reducible apply W.ops); (repeat (first | refine WL.opA hΓ (h := ?_) | refine WL.opX hΓ (h := ?_) | refine WL.opY (h := ?_) | refine WL.opZ (h := ?_))); with_reducible apply WL.nil) | refine W.condT (h := ?_) | refine W.condF (h := ?_))
    refine W.drawsA hΓ 5 [[], [], [1], [0, 1, 2], [0, 1, 2, 3]] (rest := ?rest4) (Es := ?Es4) (st1 := ?st14) (h := ?h4) (hf := ?hf4) (hp := ?hp4) (hd := ?hd4) (hfr := ?hfr4) (hst := ?hst4) (hT := ?hT4)
    case h4 => kernel_rfl
    case hf4 =>
      repeat (first | refine FlowT.opA (h := ?_) | refine FlowT.opX (h := ?_) | refine FlowT.opY (h := ?_) | refine FlowT.opZ (h := ?_))
      exact FlowT.done
    case hp4 => rfl
    case hd4 => rfl
    case hfr4 => rfl
    case hst4 =>
      simp only [pick_nil, pick_all, List.cons_append, List.nil_append]
      rfl
    (repeat (first | refine WL.opA hΓ (h := ?_) | refine WL.opX hΓ (h := ?_) | refine WL.opY (h := ?_) | refine WL.opZ (h := ?_)))
    with_reducible apply WL.nil
    repeat (first | with_reducible apply W.seq | with_reducible apply W.block | with_reducible apply W.skip | with_reducible apply W.exit | with_reducible apply W.ret | with_reducible apply At.seqN | with_reducible apply At.blkN | with_reducible apply At.blkE | with_reducible apply At.blkR | with_reducible apply At.thenX | with_reducible apply At.thenR | with_reducible apply At.blkX rfl | ((with_reducible apply W.ops); (repeat (first | refine WL.opA hΓ (h := ?_) | refine WL.opX hΓ (h := ?_) | refine WL.opY (h := ?_) | refine WL.opZ (h := ?_))); with_reducible apply WL.nil) | refine W.condT (h := ?_) | refine W.condF (h := ?_))
    refine At.retA (by rw [Try.results8]) (he := rfl)
  · have hr := szR_no hb
    clear hl hs
    generalize totPM m = T at hb hr c1
    obtain ⟨k, f, ⟨r1, r2, r3⟩, ⟨h1, h2, la, va, ne, da⟩, l⟩ := m
    dsimp only [aPM] at c1
    simp only [initS, argPV, List.map_cons, List.map_nil, toPL, Nat.zero_add]
    repeat (first | with_reducible apply W.seq | with_reducible apply W.block | with_reducible apply W.skip | with_reducible apply W.exit | with_reducible apply W.ret | with_reducible apply At.seqN | with_reducible apply At.blkN | with_reducible apply At.blkE | with_reducible apply At.blkR | with_reducible apply At.thenX | with_reducible apply At.thenR | with_reducible apply At.blkX rfl | ((with_reducible apply W.ops); (repeat (first | refine WL.opA hΓ (h := ?_) | refine WL.opX hΓ (h := ?_) | refine WL.opY (h := ?_) | refine WL.opZ (h := ?_))); with_reducible apply WL.nil) | refine W.condT (h := ?_) | refine W.condF (h := ?_))
    refine At.retA (by rw [Try.results8]) (he := rfl)

end Go.Proofs.Ytjofodicecjeaaa
