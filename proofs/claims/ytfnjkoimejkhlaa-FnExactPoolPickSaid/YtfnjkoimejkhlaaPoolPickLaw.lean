/-
  The law FnExactPoolPick: its walk, out of the contracts.
-/
import Derived.Test.YtfnjkoimejkhlaaEvPickI
import Derived.Test.YtfnjkoimejkhlaaMarkTx
import Derived.Test.YtfnjkoimejkhlaaMarkInt
import Derived.Test.YtfnjkoimejkhlaaOneInt
import Derived.Test.YtfnjkoimejkhlaaIval
namespace Go.Proofs.Ytfnjkoimejkhlaa
set_option maxRecDepth 100000
set_option linter.unusedVariables false
set_option linter.unusedSimpArgs false
open Go.RowKit

set_option maxHeartbeats 4000000 in
theorem law_PoolPick (v_aL : Value) (l_aL : List TTx) (v_aNext : Value) (l_aNext : List Int) (a_aMost : Int) (w : World) (h_aL : RdS w w.heap.size 3 cTx v_aL l_aL) (ok_aL : ∀ x ∈ l_aL, okTx x) (n_aL : l_aL.length ≤ 8796093022207) (h_aNext : RdS w w.heap.size 1 cInt v_aNext l_aNext) (ok_aNext : ∀ x ∈ l_aNext, okInt x) (n_aNext : l_aNext.length ≤ 17592186044416) (wf_aMost : okInt a_aMost) :
    Calls Try.prog 10 #[v_aL, v_aNext, .int .i64 a_aMost] w (SaysB true w) := by
  obtain ⟨As_aNext, cs_aNext, rfl⟩ := h_aNext.shape
  go_enter Try.func10, Try.ntmps10
  by_cases big_aNext : 1048576 < l_aNext.length
  · go_wp2_with fail
    go_ret
    exact ⟨rfl, (Below.refl _ _)⟩
  go_wp2_with fail
  refine (szTxS_any v_aL l_aL _ _ h_aL ok_aL (by omega) (by omega) (by omega)).mono ?_
  rintro e w1 ⟨r1, rfl, k1, ra1, rb1, rc1⟩
  have k1 : Keeps w w1 := k1
  by_cases neg1 : r1 < 0
  · go_wp2_with fail
    go_ret
    exact ⟨rfl, k1⟩
  have L_aL : l_aL.length ≤ 1048576 := by have h1 := rc1 (by omega); omega
  have T_aL := Lib.hid rc1
  clear rc1
  go_wp2_with fail
  refine (toTxS_any v_aL l_aL _ (RdS.more (RdS.kp h_aL k1 (Nat.le_refl _)) (Below.size k1)) (by omega)).mono ?_
  rintro e w2 ⟨x2, rfl, n2, k2⟩
  have k2 : Keeps w1 w2 := k2
  have o2 := OwnI.of_new n2
  clear n2
  go_wp2_with fail
  refine (toIntS_any (.slice As_aNext l_aNext.length cs_aNext) l_aNext _ (RdS.more (RdS.kp h_aNext (Keeps.tr k1 k2) (Nat.le_refl _)) (Nat.le_trans (Below.size k1) (Below.size k2))) (by omega)).mono ?_
  rintro e w3 ⟨x3, rfl, n3, k3⟩
  have k3 : Keeps w2 w3 := k3
  have o3 := OwnI.of_new n3
  clear n3
  go_wp2_with fail
  refine (pick_spec (most := a_aMost) (OwnI.rd (OwnI.kp o2 k3)) (OwnI.rd o3) (by omega) (by omega)).mono ?_
  rintro e w4 ⟨x4, rfl, n4, k4⟩
  have k4 : Keeps w3 w4 := k4
  have o4 := OwnI.of_new n4
  clear n4
  have hB10 := pickL_le l_aL l_aNext a_aMost
  go_wp2_with fail
  refine (toTxS_any v_aL l_aL _ (RdS.more (RdS.kp h_aL (Keeps.tr (Keeps.tr (Keeps.tr k1 k2) k3) k4) (Nat.le_refl _)) (Nat.le_trans (Nat.le_trans (Nat.le_trans (Below.size k1) (Below.size k2)) (Below.size k3)) (Below.size k4))) (by omega)).mono ?_
  rintro e w5 ⟨x5, rfl, n5, k5⟩
  have k5 : Keeps w4 w5 := k5
  have o5 := OwnI.of_new n5
  clear n5
  go_wp2_with fail
  refine (toIntS_any (.slice As_aNext l_aNext.length cs_aNext) l_aNext _ (RdS.more (RdS.kp h_aNext (Keeps.tr (Keeps.tr (Keeps.tr (Keeps.tr k1 k2) k3) k4) k5) (Nat.le_refl _)) (Nat.le_trans (Nat.le_trans (Nat.le_trans (Nat.le_trans (Below.size k1) (Below.size k2)) (Below.size k3)) (Below.size k4)) (Below.size k5))) (by omega)).mono ?_
  rintro e w6 ⟨x6, rfl, n6, k6⟩
  have k6 : Keeps w5 w6 := k6
  have o6 := OwnI.of_new n6
  clear n6
  go_wp2_with fail
  refine (pick_impl (most := a_aMost) (OwnI.rd (OwnI.kp o5 k6)) (OwnI.rd o6) (by omega) (by omega)).mono ?_
  rintro e w7 ⟨x7, rfl, n7, k7⟩
  have k7 : Keeps w6 w7 := k7
  have o7 := OwnI.of_new n7
  clear n7
  have hB20 := pickL_le l_aL l_aNext a_aMost
  go_wp2_with fail
  refine (eqTxS_any x7 x4 (pickL l_aL l_aNext a_aMost) (pickL l_aL l_aNext a_aMost) _ (OwnI.rd o7) (OwnI.rd (OwnI.kp o4 (Keeps.tr (Keeps.tr k5 k6) k7))) (by omega) (by omega)).mono ?_
  rintro e w8 ⟨rfl, k8⟩
  have k8 : Keeps w7 w8 := k8
  go_wp2_with fail
  refine (toTxS_any v_aL l_aL _ (RdS.more (RdS.kp h_aL (Keeps.tr (Keeps.tr (Keeps.tr (Keeps.tr (Keeps.tr (Keeps.tr (Keeps.tr k1 k2) k3) k4) k5) k6) k7) k8) (Nat.le_refl _)) (Nat.le_trans (Nat.le_trans (Nat.le_trans (Nat.le_trans (Nat.le_trans (Nat.le_trans (Nat.le_trans (Below.size k1) (Below.size k2)) (Below.size k3)) (Below.size k4)) (Below.size k5)) (Below.size k6)) (Below.size k7)) (Below.size k8))) (by omega)).mono ?_
  rintro e w9 ⟨x9, rfl, n9, k9⟩
  have k9 : Keeps w8 w9 := k9
  have o9 := OwnI.of_new n9
  clear n9
  go_wp2_with fail
  refine (eqTxS_any x5 x9 l_aL l_aL _ (OwnI.rd (OwnI.kp o5 (Keeps.tr (Keeps.tr (Keeps.tr k6 k7) k8) k9))) (OwnI.rd o9) (by omega) (by omega)).mono ?_
  rintro e w10 ⟨rfl, k10⟩
  have k10 : Keeps w9 w10 := k10
  go_wp2_with fail
  refine (toIntS_any (.slice As_aNext l_aNext.length cs_aNext) l_aNext _ (RdS.more (RdS.kp h_aNext (Keeps.tr (Keeps.tr (Keeps.tr (Keeps.tr (Keeps.tr (Keeps.tr (Keeps.tr (Keeps.tr (Keeps.tr k1 k2) k3) k4) k5) k6) k7) k8) k9) k10) (Nat.le_refl _)) (Nat.le_trans (Nat.le_trans (Nat.le_trans (Nat.le_trans (Nat.le_trans (Nat.le_trans (Nat.le_trans (Nat.le_trans (Nat.le_trans (Below.size k1) (Below.size k2)) (Below.size k3)) (Below.size k4)) (Below.size k5)) (Below.size k6)) (Below.size k7)) (Below.size k8)) (Below.size k9)) (Below.size k10))) (by omega)).mono ?_
  rintro e w11 ⟨x11, rfl, n11, k11⟩
  have k11 : Keeps w10 w11 := k11
  have o11 := OwnI.of_new n11
  clear n11
  go_wp2_with fail
  refine (eqIntS_any x6 x11 l_aNext l_aNext _ (OwnI.rd (OwnI.kp o6 (Keeps.tr (Keeps.tr (Keeps.tr (Keeps.tr k7 k8) k9) k10) k11))) (OwnI.rd o11) (by omega) (by omega)).mono ?_
  rintro e w12 ⟨rfl, k12⟩
  have k12 : Keeps w11 w12 := k12
  obtain ⟨m1, em1⟩ : ∃ m : Nat, m = 1 + 3 * (l_aL).length := ⟨_, rfl⟩
  have EM1 := Lib.hid em1
  have bm1 : 0 < m1 ∧ m1 ≤ 3145729 := by omega
  clear em1
  go_wp2_with fail
  refine (markTxS_at x5 l_aL 1 _ m1 _ _ _ (OwnI.kp o5 (Keeps.tr (Keeps.tr (Keeps.tr (Keeps.tr (Keeps.tr (Keeps.tr k6 k7) k8) k9) k10) k11) k12)) EM1.out (by omega) (by omega)).mono ?_
  rintro e w13 ⟨rfl, o13, y13⟩
  obtain ⟨m2, em2⟩ : ∃ m : Nat, m = m1 + 1 * (l_aNext).length := ⟨_, rfl⟩
  have EM2 := Lib.hid em2
  have bm2 : 0 < m2 ∧ m2 ≤ 4194305 := by omega
  clear em2
  go_wp2_with fail
  refine (markIntS_at x6 l_aNext m1 _ m2 _ _ _ (OwnI.on (OwnI.kp o6 (Keeps.tr (Keeps.tr (Keeps.tr (Keeps.tr (Keeps.tr k7 k8) k9) k10) k11) k12)) y13 (.inr (Nat.le_refl _))) EM2.out (by omega) (by omega)).mono ?_
  rintro e w14 ⟨rfl, o14, y14⟩
  go_wp2_with fail
  refine (eqTxS_any x7 x4 (pickL l_aL l_aNext a_aMost) (pickL l_aL l_aNext a_aMost) _ (OwnI.rd (OwnI.on (OwnI.on (OwnI.kp o7 (Keeps.tr (Keeps.tr (Keeps.tr (Keeps.tr k8 k9) k10) k11) k12)) y13 (.inr (Below.size k6))) y14 (.inr (Nat.le_refl _)))) (OwnI.rd (OwnI.on (OwnI.on (OwnI.kp o4 (Keeps.tr (Keeps.tr (Keeps.tr (Keeps.tr (Keeps.tr (Keeps.tr (Keeps.tr k5 k6) k7) k8) k9) k10) k11) k12)) y13 (.inl (Nat.le_refl _))) y14 (.inl (Below.size k5)))) (by omega) (by omega)).mono ?_
  rintro e w15 ⟨rfl, k15⟩
  have k15 : Keeps w14 w15 := k15
  obtain ⟨m3, em3⟩ : ∃ m : Nat, m = 1 + 3 * ((pickL l_aL l_aNext a_aMost)).length := ⟨_, rfl⟩
  have EM3 := Lib.hid em3
  have bm3 : 0 < m3 ∧ m3 ≤ 3145729 := by omega
  clear em3
  go_wp2_with fail
  refine (markTxS_at x7 (pickL l_aL l_aNext a_aMost) 1 _ m3 _ _ _ (OwnI.kp (OwnI.on (OwnI.on (OwnI.kp o7 (Keeps.tr (Keeps.tr (Keeps.tr (Keeps.tr k8 k9) k10) k11) k12)) y13 (.inr (Below.size k6))) y14 (.inr (Nat.le_refl _))) k15) EM3.out (by omega) (by omega)).mono ?_
  rintro e w16 ⟨rfl, o16, y16⟩
  go_wp2_with fail
  refine (heldTxS_at x7 ((pickL l_aL l_aNext a_aMost)).length 1 _ m3 _ (OwnI.rd o16) EM3.out (by omega) (by omega)).mono ?_
  rintro e w17 ⟨rfl, k17⟩
  have k17 : Keeps w16 w17 := k17
  go_wp2_with fail
  refine (toTxS_any v_aL l_aL _ (RdS.more (RdS.kp (RdS.on (RdS.kp (RdS.on (RdS.on (RdS.kp h_aL (Keeps.tr (Keeps.tr (Keeps.tr (Keeps.tr (Keeps.tr (Keeps.tr (Keeps.tr (Keeps.tr (Keeps.tr (Keeps.tr (Keeps.tr k1 k2) k3) k4) k5) k6) k7) k8) k9) k10) k11) k12) (Nat.le_refl _)) y13 (Nat.le_trans (Nat.le_trans (Nat.le_trans (Below.size k1) (Below.size k2)) (Below.size k3)) (Below.size k4)) (Nat.le_trans (Nat.le_trans (Nat.le_trans (Nat.le_trans (Nat.le_trans (Nat.le_trans (Nat.le_trans (Nat.le_trans (Nat.le_trans (Nat.le_trans (Nat.le_trans (Below.size k1) (Below.size k2)) (Below.size k3)) (Below.size k4)) (Below.size k5)) (Below.size k6)) (Below.size k7)) (Below.size k8)) (Below.size k9)) (Below.size k10)) (Below.size k11)) (Below.size k12))) y14 (Nat.le_trans (Nat.le_trans (Nat.le_trans (Nat.le_trans (Below.size k1) (Below.size k2)) (Below.size k3)) (Below.size k4)) (Below.size k5)) (Nat.le_trans (Nat.le_trans (Nat.le_trans (Nat.le_trans (Nat.le_trans (Nat.le_trans (Nat.le_trans (Nat.le_trans (Nat.le_trans (Nat.le_trans (Nat.le_trans (Nat.le_trans (Below.size k1) (Below.size k2)) (Below.size k3)) (Below.size k4)) (Below.size k5)) (Below.size k6)) (Below.size k7)) (Below.size k8)) (Below.size k9)) (Below.size k10)) (Below.size k11)) (Below.size k12)) (Only.size y13))) k15 (Nat.le_trans (Nat.le_trans (Nat.le_trans (Nat.le_trans (Nat.le_trans (Nat.le_trans (Nat.le_trans (Nat.le_trans (Nat.le_trans (Nat.le_trans (Nat.le_trans (Nat.le_trans (Nat.le_trans (Below.size k1) (Below.size k2)) (Below.size k3)) (Below.size k4)) (Below.size k5)) (Below.size k6)) (Below.size k7)) (Below.size k8)) (Below.size k9)) (Below.size k10)) (Below.size k11)) (Below.size k12)) (Only.size y13)) (Only.size y14))) y16 (Nat.le_trans (Nat.le_trans (Nat.le_trans (Nat.le_trans (Nat.le_trans (Below.size k1) (Below.size k2)) (Below.size k3)) (Below.size k4)) (Below.size k5)) (Below.size k6)) (Nat.le_trans (Nat.le_trans (Nat.le_trans (Nat.le_trans (Nat.le_trans (Nat.le_trans (Nat.le_trans (Nat.le_trans (Nat.le_trans (Nat.le_trans (Nat.le_trans (Nat.le_trans (Nat.le_trans (Nat.le_trans (Below.size k1) (Below.size k2)) (Below.size k3)) (Below.size k4)) (Below.size k5)) (Below.size k6)) (Below.size k7)) (Below.size k8)) (Below.size k9)) (Below.size k10)) (Below.size k11)) (Below.size k12)) (Only.size y13)) (Only.size y14)) (Below.size k15))) k17 (Nat.le_trans (Nat.le_trans (Nat.le_trans (Nat.le_trans (Nat.le_trans (Nat.le_trans (Nat.le_trans (Nat.le_trans (Nat.le_trans (Nat.le_trans (Nat.le_trans (Nat.le_trans (Nat.le_trans (Nat.le_trans (Nat.le_trans (Below.size k1) (Below.size k2)) (Below.size k3)) (Below.size k4)) (Below.size k5)) (Below.size k6)) (Below.size k7)) (Below.size k8)) (Below.size k9)) (Below.size k10)) (Below.size k11)) (Below.size k12)) (Only.size y13)) (Only.size y14)) (Below.size k15)) (Only.size y16))) (Nat.le_trans (Nat.le_trans (Nat.le_trans (Nat.le_trans (Nat.le_trans (Nat.le_trans (Nat.le_trans (Nat.le_trans (Nat.le_trans (Nat.le_trans (Nat.le_trans (Nat.le_trans (Nat.le_trans (Nat.le_trans (Nat.le_trans (Nat.le_trans (Below.size k1) (Below.size k2)) (Below.size k3)) (Below.size k4)) (Below.size k5)) (Below.size k6)) (Below.size k7)) (Below.size k8)) (Below.size k9)) (Below.size k10)) (Below.size k11)) (Below.size k12)) (Only.size y13)) (Only.size y14)) (Below.size k15)) (Only.size y16)) (Below.size k17))) (by omega)).mono ?_
  rintro e w18 ⟨x18, rfl, n18, k18⟩
  have k18 : Keeps w17 w18 := k18
  have o18 := OwnI.of_new n18
  clear n18
  go_wp2_with fail
  refine (toIntS_any (.slice As_aNext l_aNext.length cs_aNext) l_aNext _ (RdS.more (RdS.kp (RdS.on (RdS.kp (RdS.on (RdS.on (RdS.kp h_aNext (Keeps.tr (Keeps.tr (Keeps.tr (Keeps.tr (Keeps.tr (Keeps.tr (Keeps.tr (Keeps.tr (Keeps.tr (Keeps.tr (Keeps.tr k1 k2) k3) k4) k5) k6) k7) k8) k9) k10) k11) k12) (Nat.le_refl _)) y13 (Nat.le_trans (Nat.le_trans (Nat.le_trans (Below.size k1) (Below.size k2)) (Below.size k3)) (Below.size k4)) (Nat.le_trans (Nat.le_trans (Nat.le_trans (Nat.le_trans (Nat.le_trans (Nat.le_trans (Nat.le_trans (Nat.le_trans (Nat.le_trans (Nat.le_trans (Nat.le_trans (Below.size k1) (Below.size k2)) (Below.size k3)) (Below.size k4)) (Below.size k5)) (Below.size k6)) (Below.size k7)) (Below.size k8)) (Below.size k9)) (Below.size k10)) (Below.size k11)) (Below.size k12))) y14 (Nat.le_trans (Nat.le_trans (Nat.le_trans (Nat.le_trans (Below.size k1) (Below.size k2)) (Below.size k3)) (Below.size k4)) (Below.size k5)) (Nat.le_trans (Nat.le_trans (Nat.le_trans (Nat.le_trans (Nat.le_trans (Nat.le_trans (Nat.le_trans (Nat.le_trans (Nat.le_trans (Nat.le_trans (Nat.le_trans (Nat.le_trans (Below.size k1) (Below.size k2)) (Below.size k3)) (Below.size k4)) (Below.size k5)) (Below.size k6)) (Below.size k7)) (Below.size k8)) (Below.size k9)) (Below.size k10)) (Below.size k11)) (Below.size k12)) (Only.size y13))) k15 (Nat.le_trans (Nat.le_trans (Nat.le_trans (Nat.le_trans (Nat.le_trans (Nat.le_trans (Nat.le_trans (Nat.le_trans (Nat.le_trans (Nat.le_trans (Nat.le_trans (Nat.le_trans (Nat.le_trans (Below.size k1) (Below.size k2)) (Below.size k3)) (Below.size k4)) (Below.size k5)) (Below.size k6)) (Below.size k7)) (Below.size k8)) (Below.size k9)) (Below.size k10)) (Below.size k11)) (Below.size k12)) (Only.size y13)) (Only.size y14))) y16 (Nat.le_trans (Nat.le_trans (Nat.le_trans (Nat.le_trans (Nat.le_trans (Below.size k1) (Below.size k2)) (Below.size k3)) (Below.size k4)) (Below.size k5)) (Below.size k6)) (Nat.le_trans (Nat.le_trans (Nat.le_trans (Nat.le_trans (Nat.le_trans (Nat.le_trans (Nat.le_trans (Nat.le_trans (Nat.le_trans (Nat.le_trans (Nat.le_trans (Nat.le_trans (Nat.le_trans (Nat.le_trans (Below.size k1) (Below.size k2)) (Below.size k3)) (Below.size k4)) (Below.size k5)) (Below.size k6)) (Below.size k7)) (Below.size k8)) (Below.size k9)) (Below.size k10)) (Below.size k11)) (Below.size k12)) (Only.size y13)) (Only.size y14)) (Below.size k15))) (Keeps.tr k17 k18) (Nat.le_trans (Nat.le_trans (Nat.le_trans (Nat.le_trans (Nat.le_trans (Nat.le_trans (Nat.le_trans (Nat.le_trans (Nat.le_trans (Nat.le_trans (Nat.le_trans (Nat.le_trans (Nat.le_trans (Nat.le_trans (Nat.le_trans (Below.size k1) (Below.size k2)) (Below.size k3)) (Below.size k4)) (Below.size k5)) (Below.size k6)) (Below.size k7)) (Below.size k8)) (Below.size k9)) (Below.size k10)) (Below.size k11)) (Below.size k12)) (Only.size y13)) (Only.size y14)) (Below.size k15)) (Only.size y16))) (Nat.le_trans (Nat.le_trans (Nat.le_trans (Nat.le_trans (Nat.le_trans (Nat.le_trans (Nat.le_trans (Nat.le_trans (Nat.le_trans (Nat.le_trans (Nat.le_trans (Nat.le_trans (Nat.le_trans (Nat.le_trans (Nat.le_trans (Nat.le_trans (Nat.le_trans (Below.size k1) (Below.size k2)) (Below.size k3)) (Below.size k4)) (Below.size k5)) (Below.size k6)) (Below.size k7)) (Below.size k8)) (Below.size k9)) (Below.size k10)) (Below.size k11)) (Below.size k12)) (Only.size y13)) (Only.size y14)) (Below.size k15)) (Only.size y16)) (Below.size k17)) (Below.size k18))) (by omega)).mono ?_
  rintro e w19 ⟨x19, rfl, n19, k19⟩
  have k19 : Keeps w18 w19 := k19
  have o19 := OwnI.of_new n19
  clear n19
  go_wp2_with fail
  refine (pick_impl (most := a_aMost) (OwnI.rd (OwnI.kp o18 k19)) (OwnI.rd o19) (by omega) (by omega)).mono ?_
  rintro e w20 ⟨x20, rfl, n20, k20⟩
  have k20 : Keeps w19 w20 := k20
  have o20 := OwnI.of_new n20
  clear n20
  go_wp2_with fail
  refine (eqTxS_any x20 x4 (pickL l_aL l_aNext a_aMost) (pickL l_aL l_aNext a_aMost) _ (OwnI.rd o20) (OwnI.rd (OwnI.kp (OwnI.on (OwnI.kp (OwnI.on (OwnI.on (OwnI.kp o4 (Keeps.tr (Keeps.tr (Keeps.tr (Keeps.tr (Keeps.tr (Keeps.tr (Keeps.tr k5 k6) k7) k8) k9) k10) k11) k12)) y13 (.inl (Nat.le_refl _))) y14 (.inl (Below.size k5))) k15) y16 (.inl (Nat.le_trans (Below.size k5) (Below.size k6)))) (Keeps.tr (Keeps.tr (Keeps.tr k17 k18) k19) k20))) (by omega) (by omega)).mono ?_
  rintro e w21 ⟨rfl, k21⟩
  have k21 : Keeps w20 w21 := k21
  go_wp2_with fail
  refine (heldTxS_at x7 ((pickL l_aL l_aNext a_aMost)).length 1 _ m3 _ (OwnI.rd (OwnI.kp o16 (Keeps.tr (Keeps.tr (Keeps.tr (Keeps.tr k17 k18) k19) k20) k21))) EM3.out (by omega) (by omega)).mono ?_
  rintro e w22 ⟨rfl, k22⟩
  have k22 : Keeps w21 w22 := k22
  go_wp2_with fail
  go_ret
  exact ⟨rfl, (Below.trans (Below.trans (Below.trans (Below.trans (Below.trans (Keeps.tr (Keeps.tr (Keeps.tr (Keeps.tr (Keeps.tr (Keeps.tr (Keeps.tr (Keeps.tr (Keeps.tr (Keeps.tr (Keeps.tr k1 k2) k3) k4) k5) k6) k7) k8) k9) k10) k11) k12) (Only.below y13 (Nat.le_trans (Nat.le_trans (Nat.le_trans (Below.size k1) (Below.size k2)) (Below.size k3)) (Below.size k4)) (Nat.le_trans (Nat.le_trans (Nat.le_trans (Nat.le_trans (Nat.le_trans (Nat.le_trans (Nat.le_trans (Nat.le_trans (Nat.le_trans (Nat.le_trans (Nat.le_trans (Below.size k1) (Below.size k2)) (Below.size k3)) (Below.size k4)) (Below.size k5)) (Below.size k6)) (Below.size k7)) (Below.size k8)) (Below.size k9)) (Below.size k10)) (Below.size k11)) (Below.size k12)))) (Only.below y14 (Nat.le_trans (Nat.le_trans (Nat.le_trans (Nat.le_trans (Below.size k1) (Below.size k2)) (Below.size k3)) (Below.size k4)) (Below.size k5)) (Nat.le_trans (Nat.le_trans (Nat.le_trans (Nat.le_trans (Nat.le_trans (Nat.le_trans (Nat.le_trans (Nat.le_trans (Nat.le_trans (Nat.le_trans (Nat.le_trans (Nat.le_trans (Below.size k1) (Below.size k2)) (Below.size k3)) (Below.size k4)) (Below.size k5)) (Below.size k6)) (Below.size k7)) (Below.size k8)) (Below.size k9)) (Below.size k10)) (Below.size k11)) (Below.size k12)) (Only.size y13)))) (Below.mono k15 (Nat.le_trans (Nat.le_trans (Nat.le_trans (Nat.le_trans (Nat.le_trans (Nat.le_trans (Nat.le_trans (Nat.le_trans (Nat.le_trans (Nat.le_trans (Nat.le_trans (Nat.le_trans (Nat.le_trans (Below.size k1) (Below.size k2)) (Below.size k3)) (Below.size k4)) (Below.size k5)) (Below.size k6)) (Below.size k7)) (Below.size k8)) (Below.size k9)) (Below.size k10)) (Below.size k11)) (Below.size k12)) (Only.size y13)) (Only.size y14)))) (Only.below y16 (Nat.le_trans (Nat.le_trans (Nat.le_trans (Nat.le_trans (Nat.le_trans (Below.size k1) (Below.size k2)) (Below.size k3)) (Below.size k4)) (Below.size k5)) (Below.size k6)) (Nat.le_trans (Nat.le_trans (Nat.le_trans (Nat.le_trans (Nat.le_trans (Nat.le_trans (Nat.le_trans (Nat.le_trans (Nat.le_trans (Nat.le_trans (Nat.le_trans (Nat.le_trans (Nat.le_trans (Nat.le_trans (Below.size k1) (Below.size k2)) (Below.size k3)) (Below.size k4)) (Below.size k5)) (Below.size k6)) (Below.size k7)) (Below.size k8)) (Below.size k9)) (Below.size k10)) (Below.size k11)) (Below.size k12)) (Only.size y13)) (Only.size y14)) (Below.size k15)))) (Below.mono (Keeps.tr (Keeps.tr (Keeps.tr (Keeps.tr (Keeps.tr k17 k18) k19) k20) k21) k22) (Nat.le_trans (Nat.le_trans (Nat.le_trans (Nat.le_trans (Nat.le_trans (Nat.le_trans (Nat.le_trans (Nat.le_trans (Nat.le_trans (Nat.le_trans (Nat.le_trans (Nat.le_trans (Nat.le_trans (Nat.le_trans (Nat.le_trans (Below.size k1) (Below.size k2)) (Below.size k3)) (Below.size k4)) (Below.size k5)) (Below.size k6)) (Below.size k7)) (Below.size k8)) (Below.size k9)) (Below.size k10)) (Below.size k11)) (Below.size k12)) (Only.size y13)) (Only.size y14)) (Below.size k15)) (Only.size y16))))⟩

end Go.Proofs.Ytfnjkoimejkhlaa
