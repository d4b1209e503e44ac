/-
  The law FnExactThird: its walk, out of the contracts.
-/
import Derived.Test.YtfnjkoimejkhlaaEvThird
import Derived.Test.YtfnjkoimejkhlaaMarkVal
import Derived.Test.YtfnjkoimejkhlaaMarkInt
import Derived.Test.YtfnjkoimejkhlaaOneInt
import Derived.Test.YtfnjkoimejkhlaaIval
namespace Go.Proofs.Ytfnjkoimejkhlaa
set_option maxRecDepth 100000
open Go.RowKit

set_option maxHeartbeats 4000000 in
theorem law_Third (v_aL : Value) (l_aL : List TVal) (v_aIds : Value) (l_aIds : List Int) (w : World) (h_aL : RdS w w.heap.size 2 cVal v_aL l_aL) (ok_aL : ∀ x ∈ l_aL, okVal x) (n_aL : l_aL.length ≤ 8796093022207) (h_aIds : RdS w w.heap.size 1 cInt v_aIds l_aIds) (ok_aIds : ∀ x ∈ l_aIds, okInt x) (n_aIds : l_aIds.length ≤ 17592186044416) :
    Calls Try.prog 5 #[v_aL, v_aIds] w (SaysB true w) := by
  obtain ⟨As_aIds, cs_aIds, rfl⟩ := h_aIds.shape
  go_enter Try.func5, Try.ntmps5
  by_cases big_aIds : 1048576 < l_aIds.length
  · go_wp2_with fail
    go_ret
    exact ⟨rfl, (Below.refl _ _)⟩
  go_wp2_with fail
  refine (szValS_any v_aL l_aL _ _ h_aL ok_aL (by omega) (by omega) (by omega)).mono ?_
  rintro e w1 ⟨r1, rfl, k1, ra1, rb1, rc1⟩
  have k1 : Keeps w w1 := k1
  by_cases neg1 : r1 < 0
  · go_wp2_with fail
    go_ret
    exact ⟨rfl, k1⟩
  have L_aL : l_aL.length ≤ 1048576 := by have h1 := rc1 (by omega); omega
  have T_aL := Lib.hid rc1
  clear rc1
  go_wp2_with fail
  refine (toValS_any v_aL l_aL _ (RdS.more (RdS.kp h_aL k1 (Nat.le_refl _)) (Below.size k1)) (by omega)).mono ?_
  rintro e w2 ⟨x2, rfl, n2, k2⟩
  have k2 : Keeps w1 w2 := k2
  have o2 := OwnI.of_new n2
  clear n2
  go_wp2_with fail
  refine (toIntS_any (.slice As_aIds l_aIds.length cs_aIds) l_aIds _ (RdS.more (RdS.kp h_aIds (Keeps.tr k1 k2) (Nat.le_refl _)) (Nat.le_trans (Below.size k1) (Below.size k2))) (by omega)).mono ?_
  rintro e w3 ⟨x3, rfl, n3, k3⟩
  have k3 : Keeps w2 w3 := k3
  have o3 := OwnI.of_new n3
  clear n3
  go_wp2_with fail
  refine (third_spec (OwnI.rd (OwnI.kp o2 k3)) (OwnI.rd o3) (by omega) (by omega)).mono ?_
  rintro e w4 ⟨rfl, k4⟩
  have k4 : Keeps w3 w4 := k4
  go_wp2_with fail
  refine (toValS_any v_aL l_aL _ (RdS.more (RdS.kp h_aL (Keeps.tr (Keeps.tr (Keeps.tr k1 k2) k3) k4) (Nat.le_refl _)) (Nat.le_trans (Nat.le_trans (Nat.le_trans (Below.size k1) (Below.size k2)) (Below.size k3)) (Below.size k4))) (by omega)).mono ?_
  rintro e w5 ⟨x5, rfl, n5, k5⟩
  have k5 : Keeps w4 w5 := k5
  have o5 := OwnI.of_new n5
  clear n5
  go_wp2_with fail
  refine (toIntS_any (.slice As_aIds l_aIds.length cs_aIds) l_aIds _ (RdS.more (RdS.kp h_aIds (Keeps.tr (Keeps.tr (Keeps.tr (Keeps.tr k1 k2) k3) k4) k5) (Nat.le_refl _)) (Nat.le_trans (Nat.le_trans (Nat.le_trans (Nat.le_trans (Below.size k1) (Below.size k2)) (Below.size k3)) (Below.size k4)) (Below.size k5))) (by omega)).mono ?_
  rintro e w6 ⟨x6, rfl, n6, k6⟩
  have k6 : Keeps w5 w6 := k6
  have o6 := OwnI.of_new n6
  clear n6
  go_wp2_with fail
  refine (third_impl (OwnI.rd (OwnI.kp o5 k6)) (OwnI.rd o6) (by omega) (by omega)).mono ?_
  rintro e w7 ⟨rfl, k7⟩
  have k7 : Keeps w6 w7 := k7
  go_wp2_with fail
  refine (toValS_any v_aL l_aL _ (RdS.more (RdS.kp h_aL (Keeps.tr (Keeps.tr (Keeps.tr (Keeps.tr (Keeps.tr (Keeps.tr k1 k2) k3) k4) k5) k6) k7) (Nat.le_refl _)) (Nat.le_trans (Nat.le_trans (Nat.le_trans (Nat.le_trans (Nat.le_trans (Nat.le_trans (Below.size k1) (Below.size k2)) (Below.size k3)) (Below.size k4)) (Below.size k5)) (Below.size k6)) (Below.size k7))) (by omega)).mono ?_
  rintro e w8 ⟨x8, rfl, n8, k8⟩
  have k8 : Keeps w7 w8 := k8
  have o8 := OwnI.of_new n8
  clear n8
  go_wp2_with fail
  refine (eqValS_any x5 x8 l_aL l_aL _ (OwnI.rd (OwnI.kp o5 (Keeps.tr (Keeps.tr k6 k7) k8))) (OwnI.rd o8) (by omega) (by omega)).mono ?_
  rintro e w9 ⟨rfl, k9⟩
  have k9 : Keeps w8 w9 := k9
  go_wp2_with fail
  refine (toIntS_any (.slice As_aIds l_aIds.length cs_aIds) l_aIds _ (RdS.more (RdS.kp h_aIds (Keeps.tr (Keeps.tr (Keeps.tr (Keeps.tr (Keeps.tr (Keeps.tr (Keeps.tr (Keeps.tr k1 k2) k3) k4) k5) k6) k7) k8) k9) (Nat.le_refl _)) (Nat.le_trans (Nat.le_trans (Nat.le_trans (Nat.le_trans (Nat.le_trans (Nat.le_trans (Nat.le_trans (Nat.le_trans (Below.size k1) (Below.size k2)) (Below.size k3)) (Below.size k4)) (Below.size k5)) (Below.size k6)) (Below.size k7)) (Below.size k8)) (Below.size k9))) (by omega)).mono ?_
  rintro e w10 ⟨x10, rfl, n10, k10⟩
  have k10 : Keeps w9 w10 := k10
  have o10 := OwnI.of_new n10
  clear n10
  go_wp2_with fail
  refine (eqIntS_any x6 x10 l_aIds l_aIds _ (OwnI.rd (OwnI.kp o6 (Keeps.tr (Keeps.tr (Keeps.tr k7 k8) k9) k10))) (OwnI.rd o10) (by omega) (by omega)).mono ?_
  rintro e w11 ⟨rfl, k11⟩
  have k11 : Keeps w10 w11 := k11
  go_wp2_with fail
  go_ret
  exact ⟨rfl, (Keeps.tr (Keeps.tr (Keeps.tr (Keeps.tr (Keeps.tr (Keeps.tr (Keeps.tr (Keeps.tr (Keeps.tr (Keeps.tr k1 k2) k3) k4) k5) k6) k7) k8) k9) k10) k11)⟩

end Go.Proofs.Ytfnjkoimejkhlaa
