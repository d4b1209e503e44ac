/-
  The law FnExactReward: its walk, out of the contracts.
-/
import Derived.Test.YtjofodicecjeaaaEvRewC
import Derived.Test.YtjofodicecjeaaaMarkAcct
import Derived.Test.YtjofodicecjeaaaMarkVal
import Derived.Test.YtjofodicecjeaaaIval
namespace Go.Proofs.Ytjofodicecjeaaa
set_option maxRecDepth 100000
set_option linter.unusedVariables false
set_option linter.unusedSimpArgs false
open Go.RowKit

set_option maxHeartbeats 4000000 in
theorem law_Reward (v_aL : Value) (l_aL : List TAcct) (v_aVals : Value) (l_aVals : List TVal) (a_aCoins : Int) (w : World) (h_aL : RdS w w.heap.size 2 cAcct v_aL l_aL) (ok_aL : ∀ x ∈ l_aL, okAcct x) (n_aL : l_aL.length ≤ 8796093022207) (h_aVals : RdS w w.heap.size 2 cVal v_aVals l_aVals) (ok_aVals : ∀ x ∈ l_aVals, okVal x) (n_aVals : l_aVals.length ≤ 8796093022207) (wf_aCoins : okInt a_aCoins) :
    Calls Try.prog 14 #[v_aL, v_aVals, .int .i64 a_aCoins] w (SaysB true w) := by
  go_enter Try.func14, Try.ntmps14
  go_wp2_with fail
  refine (szAcctS_any v_aL l_aL _ _ h_aL ok_aL (by omega) (by omega) (by omega)).mono ?_
  rintro e w1 ⟨r1, rfl, k1, ra1, rb1, rc1⟩
  have k1 : Keeps w w1 := k1
  by_cases neg1 : r1 < 0
  · go_wp2_with fail
    go_ret
    exact ⟨rfl, k1⟩
  have L_aL : l_aL.length ≤ 1048576 := by have h1 := rc1 (by omega); omega
  have T_aL := Lib.hid rc1
  clear rc1
  go_wp2_with fail
  refine (szValS_any v_aVals l_aVals _ _ (RdS.more (RdS.kp h_aVals k1 (Nat.le_refl _)) (Below.size k1)) ok_aVals (by omega) (by omega) (by omega)).mono ?_
  rintro e w2 ⟨r2, rfl, k2, ra2, rb2, rc2⟩
  have k2 : Keeps w1 w2 := k2
  by_cases neg2 : r2 < 0
  · go_wp2_with fail
    go_ret
    exact ⟨rfl, (Keeps.tr k1 k2)⟩
  have L_aVals : l_aVals.length ≤ 1048576 := by have h1 := rc2 (by omega); omega
  have T_aVals := Lib.hid rc2
  clear rc2
  go_wp2_with fail
  refine (toAcctS_any v_aL l_aL _ (RdS.more (RdS.kp h_aL (Keeps.tr k1 k2) (Nat.le_refl _)) (Nat.le_trans (Below.size k1) (Below.size k2))) (by omega)).mono ?_
  rintro e w3 ⟨x3, rfl, n3, k3⟩
  have k3 : Keeps w2 w3 := k3
  have o3 := OwnI.of_new n3
  clear n3
  go_wp2_with fail
  refine (toValS_any v_aVals l_aVals _ (RdS.more (RdS.kp h_aVals (Keeps.tr (Keeps.tr k1 k2) k3) (Nat.le_refl _)) (Nat.le_trans (Nat.le_trans (Below.size k1) (Below.size k2)) (Below.size k3))) (by omega)).mono ?_
  rintro e w4 ⟨x4, rfl, n4, k4⟩
  have k4 : Keeps w3 w4 := k4
  have o4 := OwnI.of_new n4
  clear n4
  go_wp2_with fail
  refine (rew_spec (coins := a_aCoins) (OwnI.rd (OwnI.kp o3 k4)) (OwnI.rd o4) (by omega) (by omega)).mono ?_
  rintro e w5 ⟨x5, rfl, n5, k5⟩
  have k5 : Keeps w4 w5 := k5
  have o5 := OwnI.of_new n5
  clear n5
  have hB10 := rewL_le l_aL l_aVals a_aCoins
  go_wp2_with fail
  refine (toAcctS_any v_aL l_aL _ (RdS.more (RdS.kp h_aL (Keeps.tr (Keeps.tr (Keeps.tr (Keeps.tr k1 k2) k3) k4) k5) (Nat.le_refl _)) (Nat.le_trans (Nat.le_trans (Nat.le_trans (Nat.le_trans (Below.size k1) (Below.size k2)) (Below.size k3)) (Below.size k4)) (Below.size k5))) (by omega)).mono ?_
  rintro e w6 ⟨x6, rfl, n6, k6⟩
  have k6 : Keeps w5 w6 := k6
  have o6 := OwnI.of_new n6
  clear n6
  go_wp2_with fail
  refine (toValS_any v_aVals l_aVals _ (RdS.more (RdS.kp h_aVals (Keeps.tr (Keeps.tr (Keeps.tr (Keeps.tr (Keeps.tr k1 k2) k3) k4) k5) k6) (Nat.le_refl _)) (Nat.le_trans (Nat.le_trans (Nat.le_trans (Nat.le_trans (Nat.le_trans (Below.size k1) (Below.size k2)) (Below.size k3)) (Below.size k4)) (Below.size k5)) (Below.size k6))) (by omega)).mono ?_
  rintro e w7 ⟨x7, rfl, n7, k7⟩
  have k7 : Keeps w6 w7 := k7
  have o7 := OwnI.of_new n7
  clear n7
  go_wp2_with fail
  refine (rew_impl (coins := a_aCoins) (OwnI.rd (OwnI.kp o6 k7)) (OwnI.rd o7) (by omega) (by omega)).mono ?_
  rintro e w8 ⟨x8, rfl, n8, k8⟩
  have k8 : Keeps w7 w8 := k8
  have o8 := OwnI.of_new n8
  clear n8
  have hB20 := rewL_le l_aL l_aVals a_aCoins
  go_wp2_with fail
  refine (eqAcctS_any x8 x5 (rewL l_aL l_aVals a_aCoins) (rewL l_aL l_aVals a_aCoins) _ (OwnI.rd o8) (OwnI.rd (OwnI.kp o5 (Keeps.tr (Keeps.tr k6 k7) k8))) (by omega) (by omega)).mono ?_
  rintro e w9 ⟨rfl, k9⟩
  have k9 : Keeps w8 w9 := k9
  go_wp2_with fail
  refine (toAcctS_any v_aL l_aL _ (RdS.more (RdS.kp h_aL (Keeps.tr (Keeps.tr (Keeps.tr (Keeps.tr (Keeps.tr (Keeps.tr (Keeps.tr (Keeps.tr k1 k2) k3) k4) k5) k6) k7) k8) k9) (Nat.le_refl _)) (Nat.le_trans (Nat.le_trans (Nat.le_trans (Nat.le_trans (Nat.le_trans (Nat.le_trans (Nat.le_trans (Nat.le_trans (Below.size k1) (Below.size k2)) (Below.size k3)) (Below.size k4)) (Below.size k5)) (Below.size k6)) (Below.size k7)) (Below.size k8)) (Below.size k9))) (by omega)).mono ?_
  rintro e w10 ⟨x10, rfl, n10, k10⟩
  have k10 : Keeps w9 w10 := k10
  have o10 := OwnI.of_new n10
  clear n10
  go_wp2_with fail
  refine (eqAcctS_any x6 x10 l_aL l_aL _ (OwnI.rd (OwnI.kp o6 (Keeps.tr (Keeps.tr (Keeps.tr k7 k8) k9) k10))) (OwnI.rd o10) (by omega) (by omega)).mono ?_
  rintro e w11 ⟨rfl, k11⟩
  have k11 : Keeps w10 w11 := k11
  go_wp2_with fail
  refine (toValS_any v_aVals l_aVals _ (RdS.more (RdS.kp h_aVals (Keeps.tr (Keeps.tr (Keeps.tr (Keeps.tr (Keeps.tr (Keeps.tr (Keeps.tr (Keeps.tr (Keeps.tr (Keeps.tr k1 k2) k3) k4) k5) k6) k7) k8) k9) k10) k11) (Nat.le_refl _)) (Nat.le_trans (Nat.le_trans (Nat.le_trans (Nat.le_trans (Nat.le_trans (Nat.le_trans (Nat.le_trans (Nat.le_trans (Nat.le_trans (Nat.le_trans (Below.size k1) (Below.size k2)) (Below.size k3)) (Below.size k4)) (Below.size k5)) (Below.size k6)) (Below.size k7)) (Below.size k8)) (Below.size k9)) (Below.size k10)) (Below.size k11))) (by omega)).mono ?_
  rintro e w12 ⟨x12, rfl, n12, k12⟩
  have k12 : Keeps w11 w12 := k12
  have o12 := OwnI.of_new n12
  clear n12
  go_wp2_with fail
  refine (eqValS_any x7 x12 l_aVals l_aVals _ (OwnI.rd (OwnI.kp o7 (Keeps.tr (Keeps.tr (Keeps.tr (Keeps.tr k8 k9) k10) k11) k12))) (OwnI.rd o12) (by omega) (by omega)).mono ?_
  rintro e w13 ⟨rfl, k13⟩
  have k13 : Keeps w12 w13 := k13
  obtain ⟨m1, em1⟩ : ∃ m : Nat, m = 1 + 2 * (l_aL).length := ⟨_, rfl⟩
  have EM1 := Lib.hid em1
  have bm1 : 0 < m1 ∧ m1 ≤ 2097153 := by omega
  clear em1
  go_wp2_with fail
  refine (markAcctS_at x6 l_aL 1 _ m1 _ _ _ (OwnI.kp o6 (Keeps.tr (Keeps.tr (Keeps.tr (Keeps.tr (Keeps.tr (Keeps.tr k7 k8) k9) k10) k11) k12) k13)) EM1.out (by omega) (by omega)).mono ?_
  rintro e w14 ⟨rfl, o14, y14⟩
  obtain ⟨m2, em2⟩ : ∃ m : Nat, m = m1 + 2 * (l_aVals).length := ⟨_, rfl⟩
  have EM2 := Lib.hid em2
  have bm2 : 0 < m2 ∧ m2 ≤ 4194305 := by omega
  clear em2
  go_wp2_with fail
  refine (markValS_at x7 l_aVals m1 _ m2 _ _ _ (OwnI.on (OwnI.kp o7 (Keeps.tr (Keeps.tr (Keeps.tr (Keeps.tr (Keeps.tr k8 k9) k10) k11) k12) k13)) y14 (.inr (Nat.le_refl _))) EM2.out (by omega) (by omega)).mono ?_
  rintro e w15 ⟨rfl, o15, y15⟩
  go_wp2_with fail
  refine (eqAcctS_any x8 x5 (rewL l_aL l_aVals a_aCoins) (rewL l_aL l_aVals a_aCoins) _ (OwnI.rd (OwnI.on (OwnI.on (OwnI.kp o8 (Keeps.tr (Keeps.tr (Keeps.tr (Keeps.tr k9 k10) k11) k12) k13)) y14 (.inr (Below.size k7))) y15 (.inr (Nat.le_refl _)))) (OwnI.rd (OwnI.on (OwnI.on (OwnI.kp o5 (Keeps.tr (Keeps.tr (Keeps.tr (Keeps.tr (Keeps.tr (Keeps.tr (Keeps.tr k6 k7) k8) k9) k10) k11) k12) k13)) y14 (.inl (Nat.le_refl _))) y15 (.inl (Below.size k6)))) (by omega) (by omega)).mono ?_
  rintro e w16 ⟨rfl, k16⟩
  have k16 : Keeps w15 w16 := k16
  obtain ⟨m3, em3⟩ : ∃ m : Nat, m = 1 + 2 * ((rewL l_aL l_aVals a_aCoins)).length := ⟨_, rfl⟩
  have EM3 := Lib.hid em3
  have bm3 : 0 < m3 ∧ m3 ≤ 2097153 := by omega
  clear em3
  go_wp2_with fail
  refine (markAcctS_at x8 (rewL l_aL l_aVals a_aCoins) 1 _ m3 _ _ _ (OwnI.kp (OwnI.on (OwnI.on (OwnI.kp o8 (Keeps.tr (Keeps.tr (Keeps.tr (Keeps.tr k9 k10) k11) k12) k13)) y14 (.inr (Below.size k7))) y15 (.inr (Nat.le_refl _))) k16) EM3.out (by omega) (by omega)).mono ?_
  rintro e w17 ⟨rfl, o17, y17⟩
  go_wp2_with fail
  refine (heldAcctS_at x8 ((rewL l_aL l_aVals a_aCoins)).length 1 _ m3 _ (OwnI.rd o17) EM3.out (by omega) (by omega)).mono ?_
  rintro e w18 ⟨rfl, k18⟩
  have k18 : Keeps w17 w18 := k18
  go_wp2_with fail
  refine (toAcctS_any v_aL l_aL _ (RdS.more (RdS.kp (RdS.on (RdS.kp (RdS.on (RdS.on (RdS.kp h_aL (Keeps.tr (Keeps.tr (Keeps.tr (Keeps.tr (Keeps.tr (Keeps.tr (Keeps.tr (Keeps.tr (Keeps.tr (Keeps.tr (Keeps.tr (Keeps.tr k1 k2) k3) k4) k5) k6) k7) k8) k9) k10) k11) k12) k13) (Nat.le_refl _)) y14 (Nat.le_trans (Nat.le_trans (Nat.le_trans (Nat.le_trans (Below.size k1) (Below.size k2)) (Below.size k3)) (Below.size k4)) (Below.size k5)) (Nat.le_trans (Nat.le_trans (Nat.le_trans (Nat.le_trans (Nat.le_trans (Nat.le_trans (Nat.le_trans (Nat.le_trans (Nat.le_trans (Nat.le_trans (Nat.le_trans (Nat.le_trans (Below.size k1) (Below.size k2)) (Below.size k3)) (Below.size k4)) (Below.size k5)) (Below.size k6)) (Below.size k7)) (Below.size k8)) (Below.size k9)) (Below.size k10)) (Below.size k11)) (Below.size k12)) (Below.size k13))) y15 (Nat.le_trans (Nat.le_trans (Nat.le_trans (Nat.le_trans (Nat.le_trans (Below.size k1) (Below.size k2)) (Below.size k3)) (Below.size k4)) (Below.size k5)) (Below.size k6)) (Nat.le_trans (Nat.le_trans (Nat.le_trans (Nat.le_trans (Nat.le_trans (Nat.le_trans (Nat.le_trans (Nat.le_trans (Nat.le_trans (Nat.le_trans (Nat.le_trans (Nat.le_trans (Nat.le_trans (Below.size k1) (Below.size k2)) (Below.size k3)) (Below.size k4)) (Below.size k5)) (Below.size k6)) (Below.size k7)) (Below.size k8)) (Below.size k9)) (Below.size k10)) (Below.size k11)) (Below.size k12)) (Below.size k13)) (Only.size y14))) k16 (Nat.le_trans (Nat.le_trans (Nat.le_trans (Nat.le_trans (Nat.le_trans (Nat.le_trans (Nat.le_trans (Nat.le_trans (Nat.le_trans (Nat.le_trans (Nat.le_trans (Nat.le_trans (Nat.le_trans (Nat.le_trans (Below.size k1) (Below.size k2)) (Below.size k3)) (Below.size k4)) (Below.size k5)) (Below.size k6)) (Below.size k7)) (Below.size k8)) (Below.size k9)) (Below.size k10)) (Below.size k11)) (Below.size k12)) (Below.size k13)) (Only.size y14)) (Only.size y15))) y17 (Nat.le_trans (Nat.le_trans (Nat.le_trans (Nat.le_trans (Nat.le_trans (Nat.le_trans (Below.size k1) (Below.size k2)) (Below.size k3)) (Below.size k4)) (Below.size k5)) (Below.size k6)) (Below.size k7)) (Nat.le_trans (Nat.le_trans (Nat.le_trans (Nat.le_trans (Nat.le_trans (Nat.le_trans (Nat.le_trans (Nat.le_trans (Nat.le_trans (Nat.le_trans (Nat.le_trans (Nat.le_trans (Nat.le_trans (Nat.le_trans (Nat.le_trans (Below.size k1) (Below.size k2)) (Below.size k3)) (Below.size k4)) (Below.size k5)) (Below.size k6)) (Below.size k7)) (Below.size k8)) (Below.size k9)) (Below.size k10)) (Below.size k11)) (Below.size k12)) (Below.size k13)) (Only.size y14)) (Only.size y15)) (Below.size k16))) k18 (Nat.le_trans (Nat.le_trans (Nat.le_trans (Nat.le_trans (Nat.le_trans (Nat.le_trans (Nat.le_trans (Nat.le_trans (Nat.le_trans (Nat.le_trans (Nat.le_trans (Nat.le_trans (Nat.le_trans (Nat.le_trans (Nat.le_trans (Nat.le_trans (Below.size k1) (Below.size k2)) (Below.size k3)) (Below.size k4)) (Below.size k5)) (Below.size k6)) (Below.size k7)) (Below.size k8)) (Below.size k9)) (Below.size k10)) (Below.size k11)) (Below.size k12)) (Below.size k13)) (Only.size y14)) (Only.size y15)) (Below.size k16)) (Only.size y17))) (Nat.le_trans (Nat.le_trans (Nat.le_trans (Nat.le_trans (Nat.le_trans (Nat.le_trans (Nat.le_trans (Nat.le_trans (Nat.le_trans (Nat.le_trans (Nat.le_trans (Nat.le_trans (Nat.le_trans (Nat.le_trans (Nat.le_trans (Nat.le_trans (Nat.le_trans (Below.size k1) (Below.size k2)) (Below.size k3)) (Below.size k4)) (Below.size k5)) (Below.size k6)) (Below.size k7)) (Below.size k8)) (Below.size k9)) (Below.size k10)) (Below.size k11)) (Below.size k12)) (Below.size k13)) (Only.size y14)) (Only.size y15)) (Below.size k16)) (Only.size y17)) (Below.size k18))) (by omega)).mono ?_
  rintro e w19 ⟨x19, rfl, n19, k19⟩
  have k19 : Keeps w18 w19 := k19
  have o19 := OwnI.of_new n19
  clear n19
  go_wp2_with fail
  refine (toValS_any v_aVals l_aVals _ (RdS.more (RdS.kp (RdS.on (RdS.kp (RdS.on (RdS.on (RdS.kp h_aVals (Keeps.tr (Keeps.tr (Keeps.tr (Keeps.tr (Keeps.tr (Keeps.tr (Keeps.tr (Keeps.tr (Keeps.tr (Keeps.tr (Keeps.tr (Keeps.tr k1 k2) k3) k4) k5) k6) k7) k8) k9) k10) k11) k12) k13) (Nat.le_refl _)) y14 (Nat.le_trans (Nat.le_trans (Nat.le_trans (Nat.le_trans (Below.size k1) (Below.size k2)) (Below.size k3)) (Below.size k4)) (Below.size k5)) (Nat.le_trans (Nat.le_trans (Nat.le_trans (Nat.le_trans (Nat.le_trans (Nat.le_trans (Nat.le_trans (Nat.le_trans (Nat.le_trans (Nat.le_trans (Nat.le_trans (Nat.le_trans (Below.size k1) (Below.size k2)) (Below.size k3)) (Below.size k4)) (Below.size k5)) (Below.size k6)) (Below.size k7)) (Below.size k8)) (Below.size k9)) (Below.size k10)) (Below.size k11)) (Below.size k12)) (Below.size k13))) y15 (Nat.le_trans (Nat.le_trans (Nat.le_trans (Nat.le_trans (Nat.le_trans (Below.size k1) (Below.size k2)) (Below.size k3)) (Below.size k4)) (Below.size k5)) (Below.size k6)) (Nat.le_trans (Nat.le_trans (Nat.le_trans (Nat.le_trans (Nat.le_trans (Nat.le_trans (Nat.le_trans (Nat.le_trans (Nat.le_trans (Nat.le_trans (Nat.le_trans (Nat.le_trans (Nat.le_trans (Below.size k1) (Below.size k2)) (Below.size k3)) (Below.size k4)) (Below.size k5)) (Below.size k6)) (Below.size k7)) (Below.size k8)) (Below.size k9)) (Below.size k10)) (Below.size k11)) (Below.size k12)) (Below.size k13)) (Only.size y14))) k16 (Nat.le_trans (Nat.le_trans (Nat.le_trans (Nat.le_trans (Nat.le_trans (Nat.le_trans (Nat.le_trans (Nat.le_trans (Nat.le_trans (Nat.le_trans (Nat.le_trans (Nat.le_trans (Nat.le_trans (Nat.le_trans (Below.size k1) (Below.size k2)) (Below.size k3)) (Below.size k4)) (Below.size k5)) (Below.size k6)) (Below.size k7)) (Below.size k8)) (Below.size k9)) (Below.size k10)) (Below.size k11)) (Below.size k12)) (Below.size k13)) (Only.size y14)) (Only.size y15))) y17 (Nat.le_trans (Nat.le_trans (Nat.le_trans (Nat.le_trans (Nat.le_trans (Nat.le_trans (Below.size k1) (Below.size k2)) (Below.size k3)) (Below.size k4)) (Below.size k5)) (Below.size k6)) (Below.size k7)) (Nat.le_trans (Nat.le_trans (Nat.le_trans (Nat.le_trans (Nat.le_trans (Nat.le_trans (Nat.le_trans (Nat.le_trans (Nat.le_trans (Nat.le_trans (Nat.le_trans (Nat.le_trans (Nat.le_trans (Nat.le_trans (Nat.le_trans (Below.size k1) (Below.size k2)) (Below.size k3)) (Below.size k4)) (Below.size k5)) (Below.size k6)) (Below.size k7)) (Below.size k8)) (Below.size k9)) (Below.size k10)) (Below.size k11)) (Below.size k12)) (Below.size k13)) (Only.size y14)) (Only.size y15)) (Below.size k16))) (Keeps.tr k18 k19) (Nat.le_trans (Nat.le_trans (Nat.le_trans (Nat.le_trans (Nat.le_trans (Nat.le_trans (Nat.le_trans (Nat.le_trans (Nat.le_trans (Nat.le_trans (Nat.le_trans (Nat.le_trans (Nat.le_trans (Nat.le_trans (Nat.le_trans (Nat.le_trans (Below.size k1) (Below.size k2)) (Below.size k3)) (Below.size k4)) (Below.size k5)) (Below.size k6)) (Below.size k7)) (Below.size k8)) (Below.size k9)) (Below.size k10)) (Below.size k11)) (Below.size k12)) (Below.size k13)) (Only.size y14)) (Only.size y15)) (Below.size k16)) (Only.size y17))) (Nat.le_trans (Nat.le_trans (Nat.le_trans (Nat.le_trans (Nat.le_trans (Nat.le_trans (Nat.le_trans (Nat.le_trans (Nat.le_trans (Nat.le_trans (Nat.le_trans (Nat.le_trans (Nat.le_trans (Nat.le_trans (Nat.le_trans (Nat.le_trans (Nat.le_trans (Nat.le_trans (Below.size k1) (Below.size k2)) (Below.size k3)) (Below.size k4)) (Below.size k5)) (Below.size k6)) (Below.size k7)) (Below.size k8)) (Below.size k9)) (Below.size k10)) (Below.size k11)) (Below.size k12)) (Below.size k13)) (Only.size y14)) (Only.size y15)) (Below.size k16)) (Only.size y17)) (Below.size k18)) (Below.size k19))) (by omega)).mono ?_
  rintro e w20 ⟨x20, rfl, n20, k20⟩
  have k20 : Keeps w19 w20 := k20
  have o20 := OwnI.of_new n20
  clear n20
  go_wp2_with fail
  refine (rew_impl (coins := a_aCoins) (OwnI.rd (OwnI.kp o19 k20)) (OwnI.rd o20) (by omega) (by omega)).mono ?_
  rintro e w21 ⟨x21, rfl, n21, k21⟩
  have k21 : Keeps w20 w21 := k21
  have o21 := OwnI.of_new n21
  clear n21
  go_wp2_with fail
  refine (eqAcctS_any x21 x5 (rewL l_aL l_aVals a_aCoins) (rewL l_aL l_aVals a_aCoins) _ (OwnI.rd o21) (OwnI.rd (OwnI.kp (OwnI.on (OwnI.kp (OwnI.on (OwnI.on (OwnI.kp o5 (Keeps.tr (Keeps.tr (Keeps.tr (Keeps.tr (Keeps.tr (Keeps.tr (Keeps.tr k6 k7) k8) k9) k10) k11) k12) k13)) y14 (.inl (Nat.le_refl _))) y15 (.inl (Below.size k6))) k16) y17 (.inl (Nat.le_trans (Below.size k6) (Below.size k7)))) (Keeps.tr (Keeps.tr (Keeps.tr k18 k19) k20) k21))) (by omega) (by omega)).mono ?_
  rintro e w22 ⟨rfl, k22⟩
  have k22 : Keeps w21 w22 := k22
  go_wp2_with fail
  refine (heldAcctS_at x8 ((rewL l_aL l_aVals a_aCoins)).length 1 _ m3 _ (OwnI.rd (OwnI.kp o17 (Keeps.tr (Keeps.tr (Keeps.tr (Keeps.tr k18 k19) k20) k21) k22))) EM3.out (by omega) (by omega)).mono ?_
  rintro e w23 ⟨rfl, k23⟩
  have k23 : Keeps w22 w23 := k23
  go_wp2_with fail
  go_ret
  exact ⟨rfl, (Below.trans (Below.trans (Below.trans (Below.trans (Below.trans (Keeps.tr (Keeps.tr (Keeps.tr (Keeps.tr (Keeps.tr (Keeps.tr (Keeps.tr (Keeps.tr (Keeps.tr (Keeps.tr (Keeps.tr (Keeps.tr k1 k2) k3) k4) k5) k6) k7) k8) k9) k10) k11) k12) k13) (Only.below y14 (Nat.le_trans (Nat.le_trans (Nat.le_trans (Nat.le_trans (Below.size k1) (Below.size k2)) (Below.size k3)) (Below.size k4)) (Below.size k5)) (Nat.le_trans (Nat.le_trans (Nat.le_trans (Nat.le_trans (Nat.le_trans (Nat.le_trans (Nat.le_trans (Nat.le_trans (Nat.le_trans (Nat.le_trans (Nat.le_trans (Nat.le_trans (Below.size k1) (Below.size k2)) (Below.size k3)) (Below.size k4)) (Below.size k5)) (Below.size k6)) (Below.size k7)) (Below.size k8)) (Below.size k9)) (Below.size k10)) (Below.size k11)) (Below.size k12)) (Below.size k13)))) (Only.below y15 (Nat.le_trans (Nat.le_trans (Nat.le_trans (Nat.le_trans (Nat.le_trans (Below.size k1) (Below.size k2)) (Below.size k3)) (Below.size k4)) (Below.size k5)) (Below.size k6)) (Nat.le_trans (Nat.le_trans (Nat.le_trans (Nat.le_trans (Nat.le_trans (Nat.le_trans (Nat.le_trans (Nat.le_trans (Nat.le_trans (Nat.le_trans (Nat.le_trans (Nat.le_trans (Nat.le_trans (Below.size k1) (Below.size k2)) (Below.size k3)) (Below.size k4)) (Below.size k5)) (Below.size k6)) (Below.size k7)) (Below.size k8)) (Below.size k9)) (Below.size k10)) (Below.size k11)) (Below.size k12)) (Below.size k13)) (Only.size y14)))) (Below.mono k16 (Nat.le_trans (Nat.le_trans (Nat.le_trans (Nat.le_trans (Nat.le_trans (Nat.le_trans (Nat.le_trans (Nat.le_trans (Nat.le_trans (Nat.le_trans (Nat.le_trans (Nat.le_trans (Nat.le_trans (Nat.le_trans (Below.size k1) (Below.size k2)) (Below.size k3)) (Below.size k4)) (Below.size k5)) (Below.size k6)) (Below.size k7)) (Below.size k8)) (Below.size k9)) (Below.size k10)) (Below.size k11)) (Below.size k12)) (Below.size k13)) (Only.size y14)) (Only.size y15)))) (Only.below y17 (Nat.le_trans (Nat.le_trans (Nat.le_trans (Nat.le_trans (Nat.le_trans (Nat.le_trans (Below.size k1) (Below.size k2)) (Below.size k3)) (Below.size k4)) (Below.size k5)) (Below.size k6)) (Below.size k7)) (Nat.le_trans (Nat.le_trans (Nat.le_trans (Nat.le_trans (Nat.le_trans (Nat.le_trans (Nat.le_trans (Nat.le_trans (Nat.le_trans (Nat.le_trans (Nat.le_trans (Nat.le_trans (Nat.le_trans (Nat.le_trans (Nat.le_trans (Below.size k1) (Below.size k2)) (Below.size k3)) (Below.size k4)) (Below.size k5)) (Below.size k6)) (Below.size k7)) (Below.size k8)) (Below.size k9)) (Below.size k10)) (Below.size k11)) (Below.size k12)) (Below.size k13)) (Only.size y14)) (Only.size y15)) (Below.size k16)))) (Below.mono (Keeps.tr (Keeps.tr (Keeps.tr (Keeps.tr (Keeps.tr k18 k19) k20) k21) k22) k23) (Nat.le_trans (Nat.le_trans (Nat.le_trans (Nat.le_trans (Nat.le_trans (Nat.le_trans (Nat.le_trans (Nat.le_trans (Nat.le_trans (Nat.le_trans (Nat.le_trans (Nat.le_trans (Nat.le_trans (Nat.le_trans (Nat.le_trans (Nat.le_trans (Below.size k1) (Below.size k2)) (Below.size k3)) (Below.size k4)) (Below.size k5)) (Below.size k6)) (Below.size k7)) (Below.size k8)) (Below.size k9)) (Below.size k10)) (Below.size k11)) (Below.size k12)) (Below.size k13)) (Only.size y14)) (Only.size y15)) (Below.size k16)) (Only.size y17))))⟩

end Go.Proofs.Ytjofodicecjeaaa
