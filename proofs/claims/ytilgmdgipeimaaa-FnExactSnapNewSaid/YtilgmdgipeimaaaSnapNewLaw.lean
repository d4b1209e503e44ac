/-
  The law FnExactSnapNew: its walk, out of the contracts.
-/
import Derived.Test.YtilgmdgipeimaaaSnapNew
import Derived.Test.YtilgmdgipeimaaaSnap
import Derived.Test.YtilgmdgipeimaaaIval
namespace Go.Proofs.Ytilgmdgipeimaaa
set_option maxRecDepth 100000
open Go.RowKit

set_option maxHeartbeats 4000000 in
theorem law_SnapNew (a_aRoot : ByteArray) (a_aN : Int) (w : World) (n_aRoot : a_aRoot.size ≤ 140737488351232) (wf_aN : okInt a_aN) :
    Calls Try.prog 3 #[.string a_aRoot, .int .i64 a_aN] w (SaysB true w) := by
  go_enter Try.func3, Try.ntmps3
  by_cases big_aRoot : 1048576 < a_aRoot.size
  · go_wp2_with fail
    go_ret
    exact ⟨rfl, (Below.refl _ _)⟩
  go_wp2_with fail
  refine (snapNew_spec a_aRoot a_aN _ n_aRoot).mono ?_
  rintro e w1 ⟨vh1, vg1, rfl, o1, k1⟩
  have k1 : Keeps w w1 := k1
  obtain ⟨Aa1, ca1, rfl⟩ := TwoI.shape1 o1
  obtain ⟨Ab1, cb1, rfl⟩ := TwoI.shape2 o1
  have hB10 := snH_le a_aRoot a_aN
  have hB11 := snG_le a_aRoot a_aN
  go_wp2_with fail
  have k2 : Keeps w1 (w1.alloc (.cells #[.string (snR a_aRoot a_aN), .int .i64 (snC a_aRoot a_aN), (.slice Aa1 (snH a_aRoot a_aN).length ca1), (.slice Ab1 (snG a_aRoot a_aN).length cb1)] 25)) := Below.alloc (Below.refl _ _) (Nat.le_refl _) _
  have bx2 : BoxAt (w1.alloc (.cells #[.string (snR a_aRoot a_aN), .int .i64 (snC a_aRoot a_aN), (.slice Aa1 (snH a_aRoot a_aN).length ca1), (.slice Ab1 (snG a_aRoot a_aN).length cb1)] 25)) w1.heap.size [.string (snR a_aRoot a_aN), .int .i64 (snC a_aRoot a_aN), (.slice Aa1 (snH a_aRoot a_aN).length ca1), (.slice Ab1 (snG a_aRoot a_aN).length cb1)] := BoxAt.new _ _ _
  have bl2 : w1.heap.size < (w1.alloc (.cells #[.string (snR a_aRoot a_aN), .int .i64 (snC a_aRoot a_aN), (.slice Aa1 (snH a_aRoot a_aN).length ca1), (.slice Ab1 (snG a_aRoot a_aN).length cb1)] 25)).heap.size := by simp
  generalize w1.alloc (.cells #[.string (snR a_aRoot a_aN), .int .i64 (snC a_aRoot a_aN), (.slice Aa1 (snH a_aRoot a_aN).length ca1), (.slice Ab1 (snG a_aRoot a_aN).length cb1)] 25) = w2 at *
  refine (snapNew_impl a_aRoot a_aN _ n_aRoot).mono ?_
  rintro e w3 ⟨vh3, vg3, rfl, o3, k3⟩
  have k3 : Keeps w2 w3 := k3
  obtain ⟨Aa3, ca3, rfl⟩ := TwoI.shape1 o3
  obtain ⟨Ab3, cb3, rfl⟩ := TwoI.shape2 o3
  have hB20 := snH_le a_aRoot a_aN
  have hB21 := snG_le a_aRoot a_aN
  have cb1 := (BoxAt.kp bx2 k3)
  have cb1_0 := cb1.2 0 _ rfl
  have cb1_1 := cb1.2 1 _ rfl
  have cb1_2 := cb1.2 2 _ rfl
  have cb1_3 := cb1.2 3 _ rfl
  have cb1_s := cb1.1
  clear cb1
  go_wp2_with fail
  clear cb1_0 cb1_1 cb1_2 cb1_3 cb1_s
  have k4 : Keeps w3 (w3.alloc (.cells #[.string (snR a_aRoot a_aN), .int .i64 (snC a_aRoot a_aN), (.slice Aa3 (snH a_aRoot a_aN).length ca3), (.slice Ab3 (snG a_aRoot a_aN).length cb3)] 25)) := Below.alloc (Below.refl _ _) (Nat.le_refl _) _
  have bx4 : BoxAt (w3.alloc (.cells #[.string (snR a_aRoot a_aN), .int .i64 (snC a_aRoot a_aN), (.slice Aa3 (snH a_aRoot a_aN).length ca3), (.slice Ab3 (snG a_aRoot a_aN).length cb3)] 25)) w3.heap.size [.string (snR a_aRoot a_aN), .int .i64 (snC a_aRoot a_aN), (.slice Aa3 (snH a_aRoot a_aN).length ca3), (.slice Ab3 (snG a_aRoot a_aN).length cb3)] := BoxAt.new _ _ _
  have bl4 : w3.heap.size < (w3.alloc (.cells #[.string (snR a_aRoot a_aN), .int .i64 (snC a_aRoot a_aN), (.slice Aa3 (snH a_aRoot a_aN).length ca3), (.slice Ab3 (snG a_aRoot a_aN).length cb3)] 25)).heap.size := by simp
  generalize w3.alloc (.cells #[.string (snR a_aRoot a_aN), .int .i64 (snC a_aRoot a_aN), (.slice Aa3 (snH a_aRoot a_aN).length ca3), (.slice Ab3 (snG a_aRoot a_aN).length cb3)] 25) = w4 at *
  refine (eqSnap_same (snR a_aRoot a_aN) (snC a_aRoot a_aN) (.slice Aa3 (snH a_aRoot a_aN).length ca3) (.slice Ab3 (snG a_aRoot a_aN).length cb3) (.slice Aa1 (snH a_aRoot a_aN).length ca1) (.slice Ab1 (snG a_aRoot a_aN).length cb1) (snH a_aRoot a_aN) (snG a_aRoot a_aN) _ (TwoI.rd1 (TwoI.kp o3 k4)) (TwoI.rd2 (TwoI.kp o3 k4)) (TwoI.rd1 (TwoI.kp o1 (Keeps.tr (Keeps.tr k2 k3) k4))) (TwoI.rd2 (TwoI.kp o1 (Keeps.tr (Keeps.tr k2 k3) k4))) (by omega) (by omega)).mono ?_
  rintro e w5 ⟨rfl, k5⟩
  have k5 : Keeps w4 w5 := k5
  obtain ⟨m1, em1⟩ : ∃ m : Nat, m = 1 + 1 * (snH a_aRoot a_aN).length := ⟨_, rfl⟩
  have EM1 := Lib.hid em1
  have bm1 : m1 ≤ 1048577 := by omega
  clear em1
  obtain ⟨m2, em2⟩ : ∃ m : Nat, m = m1 + 1 * (snG a_aRoot a_aN).length := ⟨_, rfl⟩
  have EM2 := Lib.hid em2
  have bm2 : m2 ≤ 2097153 := by omega
  clear em2
  have cb2 := (BoxAt.kp bx4 k5)
  have cb2_0 := cb2.2 0 _ rfl
  have cb2_1 := cb2.2 1 _ rfl
  have cb2_2 := cb2.2 2 _ rfl
  have cb2_3 := cb2.2 3 _ rfl
  have cb2_s := cb2.1
  clear cb2
  go_wp2_with fail
  clear cb2_0 cb2_1 cb2_2 cb2_3 cb2_s
  refine (markSnap_at (snR a_aRoot a_aN) (snC a_aRoot a_aN) (.slice Aa3 (snH a_aRoot a_aN).length ca3) (.slice Ab3 (snG a_aRoot a_aN).length cb3) (snH a_aRoot a_aN) (snG a_aRoot a_aN) 1 _ m1 m2 _ _ _ (TwoI.kp o3 (Keeps.tr k4 k5)) (Nat.le_trans (Below.size k4) (Below.size k5)) EM1.out EM2.out (by omega) (by omega)).mono ?_
  rintro e w6 ⟨rfl, o6, y6⟩
  have cb3 := (BoxAt.on (BoxAt.kp bx4 k5) y6 (.inr (Nat.le_refl _)))
  have cb3_0 := cb3.2 0 _ rfl
  have cb3_1 := cb3.2 1 _ rfl
  have cb3_2 := cb3.2 2 _ rfl
  have cb3_3 := cb3.2 3 _ rfl
  have cb3_s := cb3.1
  clear cb3
  go_wp2_with fail
  clear cb3_0 cb3_1 cb3_2 cb3_3 cb3_s
  refine (heldSnap_at (snR a_aRoot a_aN) (snC a_aRoot a_aN) (.slice Aa3 (snH a_aRoot a_aN).length ca3) (.slice Ab3 (snG a_aRoot a_aN).length cb3) (snH a_aRoot a_aN).length (snG a_aRoot a_aN).length 1 _ m1 m2 _ (TwoI.rd1 o6) (TwoI.rd2 o6) EM1.out EM2.out (by omega) (by omega)).mono ?_
  rintro e w7 ⟨rfl, k7⟩
  have k7 : Keeps w6 w7 := k7
  go_wp2_with fail
  refine (snapNew_impl a_aRoot a_aN _ n_aRoot).mono ?_
  rintro e w8 ⟨vh8, vg8, rfl, o8, k8⟩
  have k8 : Keeps w7 w8 := k8
  obtain ⟨Aa8, ca8, rfl⟩ := TwoI.shape1 o8
  obtain ⟨Ab8, cb8, rfl⟩ := TwoI.shape2 o8
  have cb4 := (BoxAt.kp (BoxAt.on (BoxAt.kp bx2 (Keeps.tr (Keeps.tr k3 k4) k5)) y6 (.inl (Nat.lt_of_lt_of_le bl2 (Nat.le_refl _)))) (Keeps.tr k7 k8))
  have cb4_0 := cb4.2 0 _ rfl
  have cb4_1 := cb4.2 1 _ rfl
  have cb4_2 := cb4.2 2 _ rfl
  have cb4_3 := cb4.2 3 _ rfl
  have cb4_s := cb4.1
  clear cb4
  go_wp2_with fail
  clear cb4_0 cb4_1 cb4_2 cb4_3 cb4_s
  have k9 : Keeps w8 (w8.alloc (.cells #[.string (snR a_aRoot a_aN), .int .i64 (snC a_aRoot a_aN), (.slice Aa8 (snH a_aRoot a_aN).length ca8), (.slice Ab8 (snG a_aRoot a_aN).length cb8)] 25)) := Below.alloc (Below.refl _ _) (Nat.le_refl _) _
  have bx9 : BoxAt (w8.alloc (.cells #[.string (snR a_aRoot a_aN), .int .i64 (snC a_aRoot a_aN), (.slice Aa8 (snH a_aRoot a_aN).length ca8), (.slice Ab8 (snG a_aRoot a_aN).length cb8)] 25)) w8.heap.size [.string (snR a_aRoot a_aN), .int .i64 (snC a_aRoot a_aN), (.slice Aa8 (snH a_aRoot a_aN).length ca8), (.slice Ab8 (snG a_aRoot a_aN).length cb8)] := BoxAt.new _ _ _
  have bl9 : w8.heap.size < (w8.alloc (.cells #[.string (snR a_aRoot a_aN), .int .i64 (snC a_aRoot a_aN), (.slice Aa8 (snH a_aRoot a_aN).length ca8), (.slice Ab8 (snG a_aRoot a_aN).length cb8)] 25)).heap.size := by simp
  generalize w8.alloc (.cells #[.string (snR a_aRoot a_aN), .int .i64 (snC a_aRoot a_aN), (.slice Aa8 (snH a_aRoot a_aN).length ca8), (.slice Ab8 (snG a_aRoot a_aN).length cb8)] 25) = w9 at *
  refine (eqSnap_same (snR a_aRoot a_aN) (snC a_aRoot a_aN) (.slice Aa8 (snH a_aRoot a_aN).length ca8) (.slice Ab8 (snG a_aRoot a_aN).length cb8) (.slice Aa1 (snH a_aRoot a_aN).length ca1) (.slice Ab1 (snG a_aRoot a_aN).length cb1) (snH a_aRoot a_aN) (snG a_aRoot a_aN) _ (TwoI.rd1 (TwoI.kp o8 k9)) (TwoI.rd2 (TwoI.kp o8 k9)) (TwoI.rd1 (TwoI.kp (TwoI.on (TwoI.kp o1 (Keeps.tr (Keeps.tr (Keeps.tr k2 k3) k4) k5)) y6 (.inl (Below.size k2))) (Keeps.tr (Keeps.tr k7 k8) k9))) (TwoI.rd2 (TwoI.kp (TwoI.on (TwoI.kp o1 (Keeps.tr (Keeps.tr (Keeps.tr k2 k3) k4) k5)) y6 (.inl (Below.size k2))) (Keeps.tr (Keeps.tr k7 k8) k9))) (by omega) (by omega)).mono ?_
  rintro e w10 ⟨rfl, k10⟩
  have k10 : Keeps w9 w10 := k10
  have cb5 := (BoxAt.kp (BoxAt.on (BoxAt.kp bx4 k5) y6 (.inr (Nat.le_refl _))) (Keeps.tr (Keeps.tr (Keeps.tr k7 k8) k9) k10))
  have cb5_0 := cb5.2 0 _ rfl
  have cb5_1 := cb5.2 1 _ rfl
  have cb5_2 := cb5.2 2 _ rfl
  have cb5_3 := cb5.2 3 _ rfl
  have cb5_s := cb5.1
  clear cb5
  go_wp2_with fail
  clear cb5_0 cb5_1 cb5_2 cb5_3 cb5_s
  refine (heldSnap_at (snR a_aRoot a_aN) (snC a_aRoot a_aN) (.slice Aa3 (snH a_aRoot a_aN).length ca3) (.slice Ab3 (snG a_aRoot a_aN).length cb3) (snH a_aRoot a_aN).length (snG a_aRoot a_aN).length 1 _ m1 m2 _ (TwoI.rd1 (TwoI.kp o6 (Keeps.tr (Keeps.tr (Keeps.tr k7 k8) k9) k10))) (TwoI.rd2 (TwoI.kp o6 (Keeps.tr (Keeps.tr (Keeps.tr k7 k8) k9) k10))) EM1.out EM2.out (by omega) (by omega)).mono ?_
  rintro e w11 ⟨rfl, k11⟩
  have k11 : Keeps w10 w11 := k11
  go_wp2_with fail
  go_ret
  exact ⟨rfl, (Below.trans (Below.trans (Keeps.tr (Keeps.tr (Keeps.tr (Keeps.tr k1 k2) k3) k4) k5) (Only.below y6 (Nat.le_trans (Below.size k1) (Below.size k2)) (Nat.le_trans (Nat.le_trans (Nat.le_trans (Nat.le_trans (Below.size k1) (Below.size k2)) (Below.size k3)) (Below.size k4)) (Below.size k5)))) (Below.mono (Keeps.tr (Keeps.tr (Keeps.tr (Keeps.tr k7 k8) k9) k10) k11) (Nat.le_trans (Nat.le_trans (Nat.le_trans (Nat.le_trans (Nat.le_trans (Below.size k1) (Below.size k2)) (Below.size k3)) (Below.size k4)) (Below.size k5)) (Only.size y6))))⟩

end Go.Proofs.Ytilgmdgipeimaaa
