/-
  The law FnExactSnapCut: its walk, out of the contracts.
-/
import Derived.Test.YtbmiedlagiickaaSnapCut
import Derived.Test.YtbmiedlagiickaaMark
import Derived.Test.YtbmiedlagiickaaIval
namespace Go.Proofs.Ytbmiedlagiickaa
open Go.RowKit

set_option maxRecDepth 100000 in
set_option maxHeartbeats 4000000 in
theorem law_SnapCut (a_aS : ByteArray) (w : World) (n_aS : a_aS.size ≤ 140737488351232) :
    Calls Try.prog 5 #[.string a_aS] w (SaysB true w) := by
  go_enter Try.func5, Try.ntmps5
  by_cases big_aS : 1048576 < a_aS.size
  · go_wp2_with fail
    go_ret
    exact ⟨rfl, (Below.refl _ _)⟩
  go_wp2_with fail
  refine (snapCut_spec a_aS _ n_aS).mono ?_
  rintro e w1 ⟨x1, rfl, n1, k1⟩
  have k1 : Keeps w w1 := k1
  have o1 := OwnI.of_new n1
  clear n1
  have hB10 := cut_le a_aS
  go_wp2_with fail
  refine (snapCut_impl a_aS _ n_aS).mono ?_
  rintro e w2 ⟨x2, rfl, n2, k2⟩
  have k2 : Keeps w1 w2 := k2
  have o2 := OwnI.of_new n2
  clear n2
  have hB20 := cut_le a_aS
  go_wp2_with fail
  refine (eqStringS_any x2 x1 (cut a_aS) (cut a_aS) _ (OwnI.rd o2) (OwnI.rd (OwnI.kp o1 k2)) (by omega) (by omega)).mono ?_
  rintro e w3 ⟨rfl, k3⟩
  have k3 : Keeps w2 w3 := k3
  obtain ⟨m1, em1⟩ : ∃ m : Nat, m = 1 + 1 * ((cut a_aS)).length := ⟨_, rfl⟩
  have EM1 := Lib.hid em1
  have bm1 : m1 ≤ 1000000000 := by omega
  clear em1
  go_wp2_with fail
  refine (markStringS_at x2 (cut a_aS) 1 _ m1 _ _ _ (OwnI.kp o2 k3) EM1.out (by omega) (by omega)).mono ?_
  rintro e w4 ⟨rfl, o4, y4⟩
  go_wp2_with fail
  refine (heldStringS_at x2 ((cut a_aS)).length 1 _ m1 _ (OwnI.rd o4) EM1.out (by omega) (by omega)).mono ?_
  rintro e w5 ⟨rfl, k5⟩
  have k5 : Keeps w4 w5 := k5
  go_wp2_with fail
  refine (snapCut_impl a_aS _ n_aS).mono ?_
  rintro e w6 ⟨x6, rfl, n6, k6⟩
  have k6 : Keeps w5 w6 := k6
  have o6 := OwnI.of_new n6
  clear n6
  go_wp2_with fail
  refine (eqStringS_any x6 x1 (cut a_aS) (cut a_aS) _ (OwnI.rd o6) (OwnI.rd (OwnI.kp (OwnI.on (OwnI.kp o1 (Keeps.tr k2 k3)) y4 (.inl (Nat.le_refl _))) (Keeps.tr k5 k6))) (by omega) (by omega)).mono ?_
  rintro e w7 ⟨rfl, k7⟩
  have k7 : Keeps w6 w7 := k7
  go_wp2_with fail
  refine (heldStringS_at x2 ((cut a_aS)).length 1 _ m1 _ (OwnI.rd (OwnI.kp o4 (Keeps.tr (Keeps.tr k5 k6) k7))) EM1.out (by omega) (by omega)).mono ?_
  rintro e w8 ⟨rfl, k8⟩
  have k8 : Keeps w7 w8 := k8
  go_wp2_with fail
  go_ret
  exact ⟨rfl, (Below.trans (Below.trans (Keeps.tr (Keeps.tr k1 k2) k3) (Only.below y4 (Below.size k1) (Nat.le_trans (Nat.le_trans (Below.size k1) (Below.size k2)) (Below.size k3)))) (Below.mono (Keeps.tr (Keeps.tr (Keeps.tr k5 k6) k7) k8) (Nat.le_trans (Nat.le_trans (Nat.le_trans (Below.size k1) (Below.size k2)) (Below.size k3)) (Only.size y4))))⟩

end Go.Proofs.Ytbmiedlagiickaa
