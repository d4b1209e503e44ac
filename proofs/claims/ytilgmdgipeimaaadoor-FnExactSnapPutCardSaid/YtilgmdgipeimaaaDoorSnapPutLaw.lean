/-
  The law FnExactSnapPut: its walk, out of the contracts.
-/
import Derived.Test.YtilgmdgipeimaaaDoorEvSnapPut
import Derived.Test.YtilgmdgipeimaaaDoorSnap
import Derived.Test.YtilgmdgipeimaaaDoorMark
import Derived.Test.YtilgmdgipeimaaaDoorStr
import Derived.Test.YtilgmdgipeimaaaDoorIval
namespace Go.Proofs.YtilgmdgipeimaaaDoor
set_option maxRecDepth 100000
set_option linter.unusedVariables false
set_option linter.unusedSimpArgs false
open Go.RowKit

set_option maxHeartbeats 4000000 in
theorem law_SnapPut (r_aS : ByteArray) (c_aS : Int) (vh_aS vg_aS : Value) (lh_aS : List ByteArray) (lg_aS : List Bool) (a_aI : Int) (a_aPiece : ByteArray) (v_aPath : Value) (l_aPath : List ByteArray) (w : World) (ha_aS : RdS w w.heap.size 1 cStr vh_aS lh_aS) (hb_aS : RdS w w.heap.size 1 cBool vg_aS lg_aS) (oka_aS : ∀ x ∈ lh_aS, okString x) (okb_aS : ∀ x ∈ lg_aS, okBool x) (nr_aS : r_aS.size ≤ 9223372036854775807) (na_aS : lh_aS.length ≤ 9223372036854775807) (nb_aS : lg_aS.length ≤ 9223372036854775807) (wf_aI : okInt a_aI) (n_aPiece : a_aPiece.size ≤ 140737488351232) (h_aPath : RdS w w.heap.size 1 cStr v_aPath l_aPath) (ok_aPath : ∀ x ∈ l_aPath, okString x) (n_aPath : l_aPath.length ≤ 8796093022207) (gl : GlobOk none0 w) :
    Calls Tryd.prog 9 #[.agg #[.string r_aS, .int .i64 c_aS, vh_aS, vg_aS], .int .i64 a_aI, .string a_aPiece, v_aPath] w (SaysB true w) := by
  obtain ⟨Aa_aS, ca_aS, rfl⟩ := ha_aS.shape
  obtain ⟨Ab_aS, cb_aS, rfl⟩ := hb_aS.shape
  go_enter Tryd.func9, Tryd.ntmps9
  by_cases big_aPiece : 1048576 < a_aPiece.size
  · go_wp2_with fail
    go_ret
    exact ⟨rfl, (Below.alloc (Below.refl _ _) (Nat.le_refl _) _)⟩
  go_wp2_with fail
  have k1 : Keeps w (w.alloc (.cells #[.string r_aS, .int .i64 c_aS, (.slice Aa_aS lh_aS.length ca_aS), (.slice Ab_aS lg_aS.length cb_aS)] 54)) := Below.alloc (Below.refl _ _) (Nat.le_refl _) _
  have bx1 : BoxAt (w.alloc (.cells #[.string r_aS, .int .i64 c_aS, (.slice Aa_aS lh_aS.length ca_aS), (.slice Ab_aS lg_aS.length cb_aS)] 54)) w.heap.size [.string r_aS, .int .i64 c_aS, (.slice Aa_aS lh_aS.length ca_aS), (.slice Ab_aS lg_aS.length cb_aS)] := BoxAt.new _ _ _
  have bl1 : w.heap.size < (w.alloc (.cells #[.string r_aS, .int .i64 c_aS, (.slice Aa_aS lh_aS.length ca_aS), (.slice Ab_aS lg_aS.length cb_aS)] 54)).heap.size := by simp
  generalize w.alloc (.cells #[.string r_aS, .int .i64 c_aS, (.slice Aa_aS lh_aS.length ca_aS), (.slice Ab_aS lg_aS.length cb_aS)] 54) = w1 at *
  refine (szSnap_any r_aS c_aS (.slice Aa_aS lh_aS.length ca_aS) (.slice Ab_aS lg_aS.length cb_aS) lh_aS lg_aS _ _ (RdS.more (RdS.kp ha_aS k1 (Nat.le_refl _)) (Below.size k1)) (RdS.more (RdS.kp hb_aS k1 (Nat.le_refl _)) (Below.size k1)) oka_aS okb_aS nr_aS (by omega) (by omega) na_aS nb_aS).mono ?_
  rintro e w2 ⟨r2, rfl, k2, ra2, rb2, rc2⟩
  have k2 : Keeps w1 w2 := k2
  by_cases neg2 : r2 < 0
  · go_wp2_with fail
    go_ret
    exact ⟨rfl, (Keeps.tr k1 k2)⟩
  have La_aS : lh_aS.length ≤ 1048576 ∧ lg_aS.length ≤ 1048576 ∧ r_aS.size ≤ 1048576 := by have h1 := rc2 (by omega); have h2 := strsTot_ge lh_aS; omega
  have Lt_aS : (lh_aS.map ByteArray.size).sum ≤ 1048576 := by have h1 := rc2 (by omega); unfold strsTot at h1; omega
  obtain ⟨La_aS, Lb_aS, Lr_aS⟩ := La_aS
  clear rc2
  go_wp2_with fail
  refine (szStringS_any v_aPath l_aPath _ _ (RdS.more (RdS.kp h_aPath (Keeps.tr k1 k2) (Nat.le_refl _)) (Nat.le_trans (Below.size k1) (Below.size k2))) ok_aPath (by omega) (by omega) (by omega)).mono ?_
  rintro e w3 ⟨r3, rfl, k3, ra3, rb3, rc3⟩
  have k3 : Keeps w2 w3 := k3
  by_cases neg3 : r3 < 0
  · go_wp2_with fail
    go_ret
    exact ⟨rfl, (Keeps.tr (Keeps.tr k1 k2) k3)⟩
  have ST_aPath : strsTot l_aPath ≤ 1048576 := by have h1 := rc3 (by omega); omega
  have L_aPath : l_aPath.length ≤ 1048576 := by have h1 := rc3 (by omega); have h2 := strsTot_ge l_aPath; omega
  have T_aPath := Lib.hid rc3
  clear rc3
  have cb1 := (BoxAt.kp bx1 (Keeps.tr k2 k3))
  have cb1_0 := cb1.2 0 _ rfl
  have cb1_1 := cb1.2 1 _ rfl
  have cb1_2 := cb1.2 2 _ rfl
  have cb1_3 := cb1.2 3 _ rfl
  have cb1_s := cb1.1
  clear cb1
  go_wp2_with fail
  clear cb1_0 cb1_1 cb1_2 cb1_3 cb1_s
  refine (toSnap_any r_aS c_aS (.slice Aa_aS lh_aS.length ca_aS) (.slice Ab_aS lg_aS.length cb_aS) lh_aS lg_aS _ (RdS.more (RdS.kp ha_aS (Keeps.tr (Keeps.tr k1 k2) k3) (Nat.le_refl _)) (Nat.le_trans (Nat.le_trans (Below.size k1) (Below.size k2)) (Below.size k3))) (RdS.more (RdS.kp hb_aS (Keeps.tr (Keeps.tr k1 k2) k3) (Nat.le_refl _)) (Nat.le_trans (Nat.le_trans (Below.size k1) (Below.size k2)) (Below.size k3))) (by omega) (by omega)).mono ?_
  rintro e w4 ⟨vh4, vg4, rfl, o4, k4⟩
  have k4 : Keeps w3 w4 := k4
  obtain ⟨Aa4, ca4, rfl⟩ := TwoI.shape1 o4
  obtain ⟨Ab4, cb4, rfl⟩ := TwoI.shape2 o4
  have cb2 := (BoxAt.kp bx1 (Keeps.tr (Keeps.tr k2 k3) k4))
  have cb2_0 := cb2.2 0 _ rfl
  have cb2_1 := cb2.2 1 _ rfl
  have cb2_2 := cb2.2 2 _ rfl
  have cb2_3 := cb2.2 3 _ rfl
  have cb2_s := cb2.1
  clear cb2
  go_wp2_with fail
  clear cb2_0 cb2_1 cb2_2 cb2_3 cb2_s
  refine (toStringS_any v_aPath l_aPath _ (RdS.more (RdS.kp h_aPath (Keeps.tr (Keeps.tr (Keeps.tr k1 k2) k3) k4) (Nat.le_refl _)) (Nat.le_trans (Nat.le_trans (Nat.le_trans (Below.size k1) (Below.size k2)) (Below.size k3)) (Below.size k4))) (by omega)).mono ?_
  rintro e w5 ⟨x5, rfl, n5, k5⟩
  have k5 : Keeps w4 w5 := k5
  have o5 := OwnI.of_new n5
  clear n5
  have cb3 := (BoxAt.kp bx1 (Keeps.tr (Keeps.tr (Keeps.tr k2 k3) k4) k5))
  have cb3_0 := cb3.2 0 _ rfl
  have cb3_1 := cb3.2 1 _ rfl
  have cb3_2 := cb3.2 2 _ rfl
  have cb3_3 := cb3.2 3 _ rfl
  have cb3_s := cb3.1
  clear cb3
  go_wp2_with fail
  clear cb3_0 cb3_1 cb3_2 cb3_3 cb3_s
  refine (snapPut_spec (s := (r_aS, c_aS, lh_aS, lg_aS)) (i := a_aI) (piece := a_aPiece) (GlobOk.below gl (Keeps.tr (Keeps.tr (Keeps.tr (Keeps.tr k1 k2) k3) k4) k5)) (TwoI.rd1 (TwoI.kp o4 k5)) (TwoI.rd2 (TwoI.kp o4 k5)) (OwnI.rd o5) (by omega) (by omega) (by omega) (by omega) (by assumption)).mono ?_
  rintro e w6 ⟨vh6, vg6, rfl, o6, k6⟩
  have k6 : Keeps w5 w6 := k6
  obtain ⟨Aa6, ca6, rfl⟩ := TwoI.shape1 o6
  obtain ⟨Ab6, cb6, rfl⟩ := TwoI.shape2 o6
  have hB10 := putS_le (r_aS, c_aS, lh_aS, lg_aS) a_aI a_aPiece l_aPath
  have cb4 := (BoxAt.kp bx1 (Keeps.tr (Keeps.tr (Keeps.tr (Keeps.tr k2 k3) k4) k5) k6))
  have cb4_0 := cb4.2 0 _ rfl
  have cb4_1 := cb4.2 1 _ rfl
  have cb4_2 := cb4.2 2 _ rfl
  have cb4_3 := cb4.2 3 _ rfl
  have cb4_s := cb4.1
  clear cb4
  go_wp2_with fail
  clear cb4_0 cb4_1 cb4_2 cb4_3 cb4_s
  have k7 : Keeps w6 (w6.alloc (.cells #[.string (putS (r_aS, c_aS, lh_aS, lg_aS) a_aI a_aPiece l_aPath).1, .int .i64 (putS (r_aS, c_aS, lh_aS, lg_aS) a_aI a_aPiece l_aPath).2.1, (.slice Aa6 (putS (r_aS, c_aS, lh_aS, lg_aS) a_aI a_aPiece l_aPath).2.2.1.length ca6), (.slice Ab6 (putS (r_aS, c_aS, lh_aS, lg_aS) a_aI a_aPiece l_aPath).2.2.2.length cb6)] 56)) := Below.alloc (Below.refl _ _) (Nat.le_refl _) _
  have bx7 : BoxAt (w6.alloc (.cells #[.string (putS (r_aS, c_aS, lh_aS, lg_aS) a_aI a_aPiece l_aPath).1, .int .i64 (putS (r_aS, c_aS, lh_aS, lg_aS) a_aI a_aPiece l_aPath).2.1, (.slice Aa6 (putS (r_aS, c_aS, lh_aS, lg_aS) a_aI a_aPiece l_aPath).2.2.1.length ca6), (.slice Ab6 (putS (r_aS, c_aS, lh_aS, lg_aS) a_aI a_aPiece l_aPath).2.2.2.length cb6)] 56)) w6.heap.size [.string (putS (r_aS, c_aS, lh_aS, lg_aS) a_aI a_aPiece l_aPath).1, .int .i64 (putS (r_aS, c_aS, lh_aS, lg_aS) a_aI a_aPiece l_aPath).2.1, (.slice Aa6 (putS (r_aS, c_aS, lh_aS, lg_aS) a_aI a_aPiece l_aPath).2.2.1.length ca6), (.slice Ab6 (putS (r_aS, c_aS, lh_aS, lg_aS) a_aI a_aPiece l_aPath).2.2.2.length cb6)] := BoxAt.new _ _ _
  have bl7 : w6.heap.size < (w6.alloc (.cells #[.string (putS (r_aS, c_aS, lh_aS, lg_aS) a_aI a_aPiece l_aPath).1, .int .i64 (putS (r_aS, c_aS, lh_aS, lg_aS) a_aI a_aPiece l_aPath).2.1, (.slice Aa6 (putS (r_aS, c_aS, lh_aS, lg_aS) a_aI a_aPiece l_aPath).2.2.1.length ca6), (.slice Ab6 (putS (r_aS, c_aS, lh_aS, lg_aS) a_aI a_aPiece l_aPath).2.2.2.length cb6)] 56)).heap.size := by simp
  generalize w6.alloc (.cells #[.string (putS (r_aS, c_aS, lh_aS, lg_aS) a_aI a_aPiece l_aPath).1, .int .i64 (putS (r_aS, c_aS, lh_aS, lg_aS) a_aI a_aPiece l_aPath).2.1, (.slice Aa6 (putS (r_aS, c_aS, lh_aS, lg_aS) a_aI a_aPiece l_aPath).2.2.1.length ca6), (.slice Ab6 (putS (r_aS, c_aS, lh_aS, lg_aS) a_aI a_aPiece l_aPath).2.2.2.length cb6)] 56) = w7 at *
  refine (toSnap_any r_aS c_aS (.slice Aa_aS lh_aS.length ca_aS) (.slice Ab_aS lg_aS.length cb_aS) lh_aS lg_aS _ (RdS.more (RdS.kp ha_aS (Keeps.tr (Keeps.tr (Keeps.tr (Keeps.tr (Keeps.tr (Keeps.tr k1 k2) k3) k4) k5) k6) k7) (Nat.le_refl _)) (Nat.le_trans (Nat.le_trans (Nat.le_trans (Nat.le_trans (Nat.le_trans (Nat.le_trans (Below.size k1) (Below.size k2)) (Below.size k3)) (Below.size k4)) (Below.size k5)) (Below.size k6)) (Below.size k7))) (RdS.more (RdS.kp hb_aS (Keeps.tr (Keeps.tr (Keeps.tr (Keeps.tr (Keeps.tr (Keeps.tr k1 k2) k3) k4) k5) k6) k7) (Nat.le_refl _)) (Nat.le_trans (Nat.le_trans (Nat.le_trans (Nat.le_trans (Nat.le_trans (Nat.le_trans (Below.size k1) (Below.size k2)) (Below.size k3)) (Below.size k4)) (Below.size k5)) (Below.size k6)) (Below.size k7))) (by omega) (by omega)).mono ?_
  rintro e w8 ⟨vh8, vg8, rfl, o8, k8⟩
  have k8 : Keeps w7 w8 := k8
  obtain ⟨Aa8, ca8, rfl⟩ := TwoI.shape1 o8
  obtain ⟨Ab8, cb8, rfl⟩ := TwoI.shape2 o8
  go_wp2_with fail
  have k9 : Keeps w8 (w8.alloc (.cells #[.string r_aS, .int .i64 c_aS, (.slice Aa8 lh_aS.length ca8), (.slice Ab8 lg_aS.length cb8)] 56)) := Below.alloc (Below.refl _ _) (Nat.le_refl _) _
  have bx9 : BoxAt (w8.alloc (.cells #[.string r_aS, .int .i64 c_aS, (.slice Aa8 lh_aS.length ca8), (.slice Ab8 lg_aS.length cb8)] 56)) w8.heap.size [.string r_aS, .int .i64 c_aS, (.slice Aa8 lh_aS.length ca8), (.slice Ab8 lg_aS.length cb8)] := BoxAt.new _ _ _
  have bl9 : w8.heap.size < (w8.alloc (.cells #[.string r_aS, .int .i64 c_aS, (.slice Aa8 lh_aS.length ca8), (.slice Ab8 lg_aS.length cb8)] 56)).heap.size := by simp
  generalize w8.alloc (.cells #[.string r_aS, .int .i64 c_aS, (.slice Aa8 lh_aS.length ca8), (.slice Ab8 lg_aS.length cb8)] 56) = w9 at *
  refine (toStringS_any v_aPath l_aPath _ (RdS.more (RdS.kp h_aPath (Keeps.tr (Keeps.tr (Keeps.tr (Keeps.tr (Keeps.tr (Keeps.tr (Keeps.tr (Keeps.tr k1 k2) k3) k4) k5) k6) k7) k8) k9) (Nat.le_refl _)) (Nat.le_trans (Nat.le_trans (Nat.le_trans (Nat.le_trans (Nat.le_trans (Nat.le_trans (Nat.le_trans (Nat.le_trans (Below.size k1) (Below.size k2)) (Below.size k3)) (Below.size k4)) (Below.size k5)) (Below.size k6)) (Below.size k7)) (Below.size k8)) (Below.size k9))) (by omega)).mono ?_
  rintro e w10 ⟨x10, rfl, n10, k10⟩
  have k10 : Keeps w9 w10 := k10
  have o10 := OwnI.of_new n10
  clear n10
  have cb5 := (BoxAt.kp bx9 k10)
  have cb5_0 := cb5.2 0 _ rfl
  have cb5_1 := cb5.2 1 _ rfl
  have cb5_2 := cb5.2 2 _ rfl
  have cb5_3 := cb5.2 3 _ rfl
  have cb5_s := cb5.1
  clear cb5
  go_wp2_with fail
  clear cb5_0 cb5_1 cb5_2 cb5_3 cb5_s
  refine (snapPut_impl (s := (r_aS, c_aS, lh_aS, lg_aS)) (i := a_aI) (piece := a_aPiece) (GlobOk.below gl (Keeps.tr (Keeps.tr (Keeps.tr (Keeps.tr (Keeps.tr (Keeps.tr (Keeps.tr (Keeps.tr (Keeps.tr k1 k2) k3) k4) k5) k6) k7) k8) k9) k10)) (TwoI.rd1 (TwoI.kp o8 (Keeps.tr k9 k10))) (TwoI.rd2 (TwoI.kp o8 (Keeps.tr k9 k10))) (OwnI.rd o10) (by omega) (by omega) (by omega) (by omega) (by assumption)).mono ?_
  rintro e w11 ⟨vh11, vg11, rfl, o11, k11⟩
  have k11 : Keeps w10 w11 := k11
  obtain ⟨Aa11, ca11, rfl⟩ := TwoI.shape1 o11
  obtain ⟨Ab11, cb11, rfl⟩ := TwoI.shape2 o11
  have hB20 := putS_le (r_aS, c_aS, lh_aS, lg_aS) a_aI a_aPiece l_aPath
  have cb6 := (BoxAt.kp bx7 (Keeps.tr (Keeps.tr (Keeps.tr k8 k9) k10) k11))
  have cb6_0 := cb6.2 0 _ rfl
  have cb6_1 := cb6.2 1 _ rfl
  have cb6_2 := cb6.2 2 _ rfl
  have cb6_3 := cb6.2 3 _ rfl
  have cb6_s := cb6.1
  clear cb6
  go_wp2_with fail
  clear cb6_0 cb6_1 cb6_2 cb6_3 cb6_s
  have k12 : Keeps w11 (w11.alloc (.cells #[.string (putS (r_aS, c_aS, lh_aS, lg_aS) a_aI a_aPiece l_aPath).1, .int .i64 (putS (r_aS, c_aS, lh_aS, lg_aS) a_aI a_aPiece l_aPath).2.1, (.slice Aa11 (putS (r_aS, c_aS, lh_aS, lg_aS) a_aI a_aPiece l_aPath).2.2.1.length ca11), (.slice Ab11 (putS (r_aS, c_aS, lh_aS, lg_aS) a_aI a_aPiece l_aPath).2.2.2.length cb11)] 56)) := Below.alloc (Below.refl _ _) (Nat.le_refl _) _
  have bx12 : BoxAt (w11.alloc (.cells #[.string (putS (r_aS, c_aS, lh_aS, lg_aS) a_aI a_aPiece l_aPath).1, .int .i64 (putS (r_aS, c_aS, lh_aS, lg_aS) a_aI a_aPiece l_aPath).2.1, (.slice Aa11 (putS (r_aS, c_aS, lh_aS, lg_aS) a_aI a_aPiece l_aPath).2.2.1.length ca11), (.slice Ab11 (putS (r_aS, c_aS, lh_aS, lg_aS) a_aI a_aPiece l_aPath).2.2.2.length cb11)] 56)) w11.heap.size [.string (putS (r_aS, c_aS, lh_aS, lg_aS) a_aI a_aPiece l_aPath).1, .int .i64 (putS (r_aS, c_aS, lh_aS, lg_aS) a_aI a_aPiece l_aPath).2.1, (.slice Aa11 (putS (r_aS, c_aS, lh_aS, lg_aS) a_aI a_aPiece l_aPath).2.2.1.length ca11), (.slice Ab11 (putS (r_aS, c_aS, lh_aS, lg_aS) a_aI a_aPiece l_aPath).2.2.2.length cb11)] := BoxAt.new _ _ _
  have bl12 : w11.heap.size < (w11.alloc (.cells #[.string (putS (r_aS, c_aS, lh_aS, lg_aS) a_aI a_aPiece l_aPath).1, .int .i64 (putS (r_aS, c_aS, lh_aS, lg_aS) a_aI a_aPiece l_aPath).2.1, (.slice Aa11 (putS (r_aS, c_aS, lh_aS, lg_aS) a_aI a_aPiece l_aPath).2.2.1.length ca11), (.slice Ab11 (putS (r_aS, c_aS, lh_aS, lg_aS) a_aI a_aPiece l_aPath).2.2.2.length cb11)] 56)).heap.size := by simp
  generalize w11.alloc (.cells #[.string (putS (r_aS, c_aS, lh_aS, lg_aS) a_aI a_aPiece l_aPath).1, .int .i64 (putS (r_aS, c_aS, lh_aS, lg_aS) a_aI a_aPiece l_aPath).2.1, (.slice Aa11 (putS (r_aS, c_aS, lh_aS, lg_aS) a_aI a_aPiece l_aPath).2.2.1.length ca11), (.slice Ab11 (putS (r_aS, c_aS, lh_aS, lg_aS) a_aI a_aPiece l_aPath).2.2.2.length cb11)] 56) = w12 at *
  refine (eqSnap_same (putS (r_aS, c_aS, lh_aS, lg_aS) a_aI a_aPiece l_aPath).1 (putS (r_aS, c_aS, lh_aS, lg_aS) a_aI a_aPiece l_aPath).2.1 (.slice Aa11 (putS (r_aS, c_aS, lh_aS, lg_aS) a_aI a_aPiece l_aPath).2.2.1.length ca11) (.slice Ab11 (putS (r_aS, c_aS, lh_aS, lg_aS) a_aI a_aPiece l_aPath).2.2.2.length cb11) (.slice Aa6 (putS (r_aS, c_aS, lh_aS, lg_aS) a_aI a_aPiece l_aPath).2.2.1.length ca6) (.slice Ab6 (putS (r_aS, c_aS, lh_aS, lg_aS) a_aI a_aPiece l_aPath).2.2.2.length cb6) (putS (r_aS, c_aS, lh_aS, lg_aS) a_aI a_aPiece l_aPath).2.2.1 (putS (r_aS, c_aS, lh_aS, lg_aS) a_aI a_aPiece l_aPath).2.2.2 _ (TwoI.rd1 (TwoI.kp o11 k12)) (TwoI.rd2 (TwoI.kp o11 k12)) (TwoI.rd1 (TwoI.kp o6 (Keeps.tr (Keeps.tr (Keeps.tr (Keeps.tr (Keeps.tr k7 k8) k9) k10) k11) k12))) (TwoI.rd2 (TwoI.kp o6 (Keeps.tr (Keeps.tr (Keeps.tr (Keeps.tr (Keeps.tr k7 k8) k9) k10) k11) k12))) (by omega) (by omega)).mono ?_
  rintro e w13 ⟨rfl, k13⟩
  have k13 : Keeps w12 w13 := k13
  go_wp2_with fail
  have k14 : Keeps w13 w13.drew := (QW.refl _).drew.keeps
  have cB7 := (BoxAt.kp bx9 (Keeps.tr (Keeps.tr (Keeps.tr (Keeps.tr k10 k11) k12) k13) k14))
  have cB8 := (BoxAt.kp bx1 (Keeps.tr (Keeps.tr (Keeps.tr (Keeps.tr (Keeps.tr (Keeps.tr (Keeps.tr (Keeps.tr (Keeps.tr (Keeps.tr (Keeps.tr (Keeps.tr k2 k3) k4) k5) k6) k7) k8) k9) k10) k11) k12) k13) k14))
  go_region_held3 (fun w' => Keeps w13.drew w' ∧ w'.cell? ⟨w8.heap.size, 0, none⟩ = some (.string r_aS) ∧ w'.cell? ⟨w8.heap.size, 1, none⟩ = some (.int .i64 c_aS) ∧ w'.cell? ⟨w8.heap.size, 2, none⟩ = some ((.slice Aa8 lh_aS.length ca8)) ∧ w'.cell? ⟨w8.heap.size, 3, none⟩ = some ((.slice Ab8 lg_aS.length cb8)) ∧ w'.cell? ⟨w.heap.size, 0, none⟩ = some (.string r_aS) ∧ w'.cell? ⟨w.heap.size, 1, none⟩ = some (.int .i64 c_aS) ∧ w'.cell? ⟨w.heap.size, 2, none⟩ = some ((.slice Aa_aS lh_aS.length ca_aS)) ∧ w'.cell? ⟨w.heap.size, 3, none⟩ = some ((.slice Ab_aS lg_aS.length cb_aS))) (first | exact ⟨Keeps.refl _, cB7.2 0 _ rfl, cB7.2 1 _ rfl, cB7.2 2 _ rfl, cB7.2 3 _ rfl, cB8.2 0 _ rfl, cB8.2 1 _ rfl, cB8.2 2 _ rfl, cB8.2 3 _ rfl⟩ | exact ⟨k15, (BoxAt.kp cB7 k15).2 0 _ rfl, (BoxAt.kp cB7 k15).2 1 _ rfl, (BoxAt.kp cB7 k15).2 2 _ rfl, (BoxAt.kp cB7 k15).2 3 _ rfl, (BoxAt.kp cB8 k15).2 0 _ rfl, (BoxAt.kp cB8 k15).2 1 _ rfl, (BoxAt.kp cB8 k15).2 2 _ rfl, (BoxAt.kp cB8 k15).2 3 _ rfl⟩ | exact ⟨Keeps.tr k15 k16, (BoxAt.kp cB7 (Keeps.tr k15 k16)).2 0 _ rfl, (BoxAt.kp cB7 (Keeps.tr k15 k16)).2 1 _ rfl, (BoxAt.kp cB7 (Keeps.tr k15 k16)).2 2 _ rfl, (BoxAt.kp cB7 (Keeps.tr k15 k16)).2 3 _ rfl, (BoxAt.kp cB8 (Keeps.tr k15 k16)).2 0 _ rfl, (BoxAt.kp cB8 (Keeps.tr k15 k16)).2 1 _ rfl, (BoxAt.kp cB8 (Keeps.tr k15 k16)).2 2 _ rfl, (BoxAt.kp cB8 (Keeps.tr k15 k16)).2 3 _ rfl⟩)
    (first
      | (go_at_call 40; refine (toSnap_any r_aS c_aS (.slice Aa_aS lh_aS.length ca_aS) (.slice Ab_aS lg_aS.length cb_aS) lh_aS lg_aS _ (RdS.more (RdS.kp ha_aS (Keeps.tr (Keeps.tr (Keeps.tr (Keeps.tr (Keeps.tr (Keeps.tr (Keeps.tr (Keeps.tr (Keeps.tr (Keeps.tr (Keeps.tr (Keeps.tr (Keeps.tr k1 k2) k3) k4) k5) k6) k7) k8) k9) k10) k11) k12) k13) k14) (Nat.le_refl _)) (Nat.le_trans (Nat.le_trans (Nat.le_trans (Nat.le_trans (Nat.le_trans (Nat.le_trans (Nat.le_trans (Nat.le_trans (Nat.le_trans (Nat.le_trans (Nat.le_trans (Nat.le_trans (Nat.le_trans (Below.size k1) (Below.size k2)) (Below.size k3)) (Below.size k4)) (Below.size k5)) (Below.size k6)) (Below.size k7)) (Below.size k8)) (Below.size k9)) (Below.size k10)) (Below.size k11)) (Below.size k12)) (Below.size k13)) (Below.size k14))) (RdS.more (RdS.kp hb_aS (Keeps.tr (Keeps.tr (Keeps.tr (Keeps.tr (Keeps.tr (Keeps.tr (Keeps.tr (Keeps.tr (Keeps.tr (Keeps.tr (Keeps.tr (Keeps.tr (Keeps.tr k1 k2) k3) k4) k5) k6) k7) k8) k9) k10) k11) k12) k13) k14) (Nat.le_refl _)) (Nat.le_trans (Nat.le_trans (Nat.le_trans (Nat.le_trans (Nat.le_trans (Nat.le_trans (Nat.le_trans (Nat.le_trans (Nat.le_trans (Nat.le_trans (Nat.le_trans (Nat.le_trans (Nat.le_trans (Below.size k1) (Below.size k2)) (Below.size k3)) (Below.size k4)) (Below.size k5)) (Below.size k6)) (Below.size k7)) (Below.size k8)) (Below.size k9)) (Below.size k10)) (Below.size k11)) (Below.size k12)) (Below.size k13)) (Below.size k14))) (by omega) (by omega)).mono ?_; rintro e w15 ⟨vh15, vg15, rfl, o15, k15⟩; have k15 : Keeps w13.drew w15 := k15; obtain ⟨Aa15, ca15, rfl⟩ := TwoI.shape1 o15; obtain ⟨Ab15, cb15, rfl⟩ := TwoI.shape2 o15)
      | (go_at_call 42; refine (eqSnap_same r_aS c_aS (.slice Aa8 lh_aS.length ca8) (.slice Ab8 lg_aS.length cb8) (.slice Aa15 lh_aS.length ca15) (.slice Ab15 lg_aS.length cb15) lh_aS lg_aS _ (TwoI.rd1 (TwoI.kp o8 (Keeps.tr (Keeps.tr (Keeps.tr (Keeps.tr (Keeps.tr (Keeps.tr k9 k10) k11) k12) k13) k14) k15))) (TwoI.rd2 (TwoI.kp o8 (Keeps.tr (Keeps.tr (Keeps.tr (Keeps.tr (Keeps.tr (Keeps.tr k9 k10) k11) k12) k13) k14) k15))) (TwoI.rd1 o15) (TwoI.rd2 o15) (by omega) (by omega)).mono ?_; rintro e w16 ⟨rfl, k16⟩; have k16 : Keeps w15 w16 := k16))
  go_wp2_with fail
  refine (toStringS_any v_aPath l_aPath _ (RdS.more (RdS.kp h_aPath (Keeps.tr (Keeps.tr (Keeps.tr (Keeps.tr (Keeps.tr (Keeps.tr (Keeps.tr (Keeps.tr (Keeps.tr (Keeps.tr (Keeps.tr (Keeps.tr (Keeps.tr (Keeps.tr (Keeps.tr k1 k2) k3) k4) k5) k6) k7) k8) k9) k10) k11) k12) k13) k14) k15) k16) (Nat.le_refl _)) (Nat.le_trans (Nat.le_trans (Nat.le_trans (Nat.le_trans (Nat.le_trans (Nat.le_trans (Nat.le_trans (Nat.le_trans (Nat.le_trans (Nat.le_trans (Nat.le_trans (Nat.le_trans (Nat.le_trans (Nat.le_trans (Nat.le_trans (Below.size k1) (Below.size k2)) (Below.size k3)) (Below.size k4)) (Below.size k5)) (Below.size k6)) (Below.size k7)) (Below.size k8)) (Below.size k9)) (Below.size k10)) (Below.size k11)) (Below.size k12)) (Below.size k13)) (Below.size k14)) (Below.size k15)) (Below.size k16))) (by omega)).mono ?_
  rintro e w17 ⟨x17, rfl, n17, k17⟩
  have k17 : Keeps w16 w17 := k17
  have o17 := OwnI.of_new n17
  clear n17
  go_wp2_with fail
  refine (eqStringS_any x10 x17 l_aPath l_aPath _ (OwnI.rd (OwnI.kp o10 (Keeps.tr (Keeps.tr (Keeps.tr (Keeps.tr (Keeps.tr (Keeps.tr k11 k12) k13) k14) k15) k16) k17))) (OwnI.rd o17) (by omega) (by omega)).mono ?_
  rintro e w18 ⟨rfl, k18⟩
  have k18 : Keeps w17 w18 := k18
  obtain ⟨m1, em1⟩ : ∃ m : Nat, m = 1 + 1 * lh_aS.length := ⟨_, rfl⟩
  have EM1 := Lib.hid em1
  have bm1 : 0 < m1 ∧ m1 ≤ 1048577 := by omega
  clear em1
  obtain ⟨m2, em2⟩ : ∃ m : Nat, m = m1 + 1 * lg_aS.length := ⟨_, rfl⟩
  have EM2 := Lib.hid em2
  have bm2 : 0 < m2 ∧ m2 ≤ 2097153 := by omega
  clear em2
  have cb9 := (BoxAt.kp bx9 (Keeps.tr (Keeps.tr (Keeps.tr (Keeps.tr (Keeps.tr (Keeps.tr (Keeps.tr (Keeps.tr k10 k11) k12) k13) k14) k15) k16) k17) k18))
  have cb9_0 := cb9.2 0 _ rfl
  have cb9_1 := cb9.2 1 _ rfl
  have cb9_2 := cb9.2 2 _ rfl
  have cb9_3 := cb9.2 3 _ rfl
  have cb9_s := cb9.1
  clear cb9
  go_wp2_with fail
  clear cb9_0 cb9_1 cb9_2 cb9_3 cb9_s
  refine (markSnap_at r_aS c_aS (.slice Aa8 lh_aS.length ca8) (.slice Ab8 lg_aS.length cb8) lh_aS lg_aS 1 _ m1 m2 _ _ _ (TwoI.kp o8 (Keeps.tr (Keeps.tr (Keeps.tr (Keeps.tr (Keeps.tr (Keeps.tr (Keeps.tr (Keeps.tr (Keeps.tr k9 k10) k11) k12) k13) k14) k15) k16) k17) k18)) (Nat.le_trans (Nat.le_trans (Nat.le_trans (Nat.le_trans (Nat.le_trans (Nat.le_trans (Nat.le_trans (Nat.le_trans (Nat.le_trans (Below.size k9) (Below.size k10)) (Below.size k11)) (Below.size k12)) (Below.size k13)) (Below.size k14)) (Below.size k15)) (Below.size k16)) (Below.size k17)) (Below.size k18)) EM1.out EM2.out (by omega) (by omega)).mono ?_
  rintro e w19 ⟨rfl, o19, y19⟩
  obtain ⟨m3, em3⟩ : ∃ m : Nat, m = m2 + 1 * (l_aPath).length := ⟨_, rfl⟩
  have EM3 := Lib.hid em3
  have bm3 : 0 < m3 ∧ m3 ≤ 3145729 := by omega
  clear em3
  go_wp2_with fail
  refine (markStringS_at x10 l_aPath m2 _ m3 _ _ _ (OwnI.on (OwnI.kp o10 (Keeps.tr (Keeps.tr (Keeps.tr (Keeps.tr (Keeps.tr (Keeps.tr (Keeps.tr k11 k12) k13) k14) k15) k16) k17) k18)) y19 (.inr (Below.size k9))) EM3.out (by omega) (by omega)).mono ?_
  rintro e w20 ⟨rfl, o20, y20⟩
  have cb10 := (BoxAt.on (BoxAt.on (BoxAt.kp bx7 (Keeps.tr (Keeps.tr (Keeps.tr (Keeps.tr (Keeps.tr (Keeps.tr (Keeps.tr (Keeps.tr (Keeps.tr (Keeps.tr k8 k9) k10) k11) k12) k13) k14) k15) k16) k17) k18)) y19 (.inl (Nat.lt_of_lt_of_le bl7 (Nat.le_refl _)))) y20 (.inl (Nat.lt_of_lt_of_le bl7 (Nat.le_trans (Below.size k8) (Below.size k9)))))
  have cb10_0 := cb10.2 0 _ rfl
  have cb10_1 := cb10.2 1 _ rfl
  have cb10_2 := cb10.2 2 _ rfl
  have cb10_3 := cb10.2 3 _ rfl
  have cb10_s := cb10.1
  clear cb10
  have cb11 := (BoxAt.on (BoxAt.on (BoxAt.kp bx12 (Keeps.tr (Keeps.tr (Keeps.tr (Keeps.tr (Keeps.tr k13 k14) k15) k16) k17) k18)) y19 (.inr (Nat.le_trans (Nat.le_trans (Below.size k9) (Below.size k10)) (Below.size k11)))) y20 (.inr (Below.size k11)))
  have cb11_0 := cb11.2 0 _ rfl
  have cb11_1 := cb11.2 1 _ rfl
  have cb11_2 := cb11.2 2 _ rfl
  have cb11_3 := cb11.2 3 _ rfl
  have cb11_s := cb11.1
  clear cb11
  go_wp2_with fail
  clear cb10_0 cb10_1 cb10_2 cb10_3 cb10_s cb11_0 cb11_1 cb11_2 cb11_3 cb11_s
  refine (eqSnap_same (putS (r_aS, c_aS, lh_aS, lg_aS) a_aI a_aPiece l_aPath).1 (putS (r_aS, c_aS, lh_aS, lg_aS) a_aI a_aPiece l_aPath).2.1 (.slice Aa11 (putS (r_aS, c_aS, lh_aS, lg_aS) a_aI a_aPiece l_aPath).2.2.1.length ca11) (.slice Ab11 (putS (r_aS, c_aS, lh_aS, lg_aS) a_aI a_aPiece l_aPath).2.2.2.length cb11) (.slice Aa6 (putS (r_aS, c_aS, lh_aS, lg_aS) a_aI a_aPiece l_aPath).2.2.1.length ca6) (.slice Ab6 (putS (r_aS, c_aS, lh_aS, lg_aS) a_aI a_aPiece l_aPath).2.2.2.length cb6) (putS (r_aS, c_aS, lh_aS, lg_aS) a_aI a_aPiece l_aPath).2.2.1 (putS (r_aS, c_aS, lh_aS, lg_aS) a_aI a_aPiece l_aPath).2.2.2 _ (TwoI.rd1 (TwoI.on (TwoI.on (TwoI.kp o11 (Keeps.tr (Keeps.tr (Keeps.tr (Keeps.tr (Keeps.tr (Keeps.tr k12 k13) k14) k15) k16) k17) k18)) y19 (.inr (Nat.le_trans (Below.size k9) (Below.size k10)))) y20 (.inr (Nat.le_refl _)))) (TwoI.rd2 (TwoI.on (TwoI.on (TwoI.kp o11 (Keeps.tr (Keeps.tr (Keeps.tr (Keeps.tr (Keeps.tr (Keeps.tr k12 k13) k14) k15) k16) k17) k18)) y19 (.inr (Nat.le_trans (Below.size k9) (Below.size k10)))) y20 (.inr (Nat.le_refl _)))) (TwoI.rd1 (TwoI.on (TwoI.on (TwoI.kp o6 (Keeps.tr (Keeps.tr (Keeps.tr (Keeps.tr (Keeps.tr (Keeps.tr (Keeps.tr (Keeps.tr (Keeps.tr (Keeps.tr (Keeps.tr k7 k8) k9) k10) k11) k12) k13) k14) k15) k16) k17) k18)) y19 (.inl (Below.size k7))) y20 (.inl (Nat.le_trans (Nat.le_trans (Below.size k7) (Below.size k8)) (Below.size k9))))) (TwoI.rd2 (TwoI.on (TwoI.on (TwoI.kp o6 (Keeps.tr (Keeps.tr (Keeps.tr (Keeps.tr (Keeps.tr (Keeps.tr (Keeps.tr (Keeps.tr (Keeps.tr (Keeps.tr (Keeps.tr k7 k8) k9) k10) k11) k12) k13) k14) k15) k16) k17) k18)) y19 (.inl (Below.size k7))) y20 (.inl (Nat.le_trans (Nat.le_trans (Below.size k7) (Below.size k8)) (Below.size k9))))) (by omega) (by omega)).mono ?_
  rintro e w21 ⟨rfl, k21⟩
  have k21 : Keeps w20 w21 := k21
  obtain ⟨m4, em4⟩ : ∃ m : Nat, m = 1 + 1 * (putS (r_aS, c_aS, lh_aS, lg_aS) a_aI a_aPiece l_aPath).2.2.1.length := ⟨_, rfl⟩
  have EM4 := Lib.hid em4
  have bm4 : 0 < m4 ∧ m4 ≤ 1048577 := by omega
  clear em4
  obtain ⟨m5, em5⟩ : ∃ m : Nat, m = m4 + 1 * (putS (r_aS, c_aS, lh_aS, lg_aS) a_aI a_aPiece l_aPath).2.2.2.length := ⟨_, rfl⟩
  have EM5 := Lib.hid em5
  have bm5 : 0 < m5 ∧ m5 ≤ 2097153 := by omega
  clear em5
  have cb12 := (BoxAt.kp (BoxAt.on (BoxAt.on (BoxAt.kp bx12 (Keeps.tr (Keeps.tr (Keeps.tr (Keeps.tr (Keeps.tr k13 k14) k15) k16) k17) k18)) y19 (.inr (Nat.le_trans (Nat.le_trans (Below.size k9) (Below.size k10)) (Below.size k11)))) y20 (.inr (Below.size k11))) k21)
  have cb12_0 := cb12.2 0 _ rfl
  have cb12_1 := cb12.2 1 _ rfl
  have cb12_2 := cb12.2 2 _ rfl
  have cb12_3 := cb12.2 3 _ rfl
  have cb12_s := cb12.1
  clear cb12
  go_wp2_with fail
  clear cb12_0 cb12_1 cb12_2 cb12_3 cb12_s
  refine (markSnap_at (putS (r_aS, c_aS, lh_aS, lg_aS) a_aI a_aPiece l_aPath).1 (putS (r_aS, c_aS, lh_aS, lg_aS) a_aI a_aPiece l_aPath).2.1 (.slice Aa11 (putS (r_aS, c_aS, lh_aS, lg_aS) a_aI a_aPiece l_aPath).2.2.1.length ca11) (.slice Ab11 (putS (r_aS, c_aS, lh_aS, lg_aS) a_aI a_aPiece l_aPath).2.2.2.length cb11) (putS (r_aS, c_aS, lh_aS, lg_aS) a_aI a_aPiece l_aPath).2.2.1 (putS (r_aS, c_aS, lh_aS, lg_aS) a_aI a_aPiece l_aPath).2.2.2 1 _ m4 m5 _ _ _ (TwoI.kp (TwoI.on (TwoI.on (TwoI.kp o11 (Keeps.tr (Keeps.tr (Keeps.tr (Keeps.tr (Keeps.tr (Keeps.tr k12 k13) k14) k15) k16) k17) k18)) y19 (.inr (Nat.le_trans (Below.size k9) (Below.size k10)))) y20 (.inr (Nat.le_refl _))) k21) (Nat.le_trans (Nat.le_trans (Nat.le_trans (Nat.le_trans (Nat.le_trans (Nat.le_trans (Nat.le_trans (Nat.le_trans (Nat.le_trans (Below.size k12) (Below.size k13)) (Below.size k14)) (Below.size k15)) (Below.size k16)) (Below.size k17)) (Below.size k18)) (Only.size y19)) (Only.size y20)) (Below.size k21)) EM4.out EM5.out (by omega) (by omega)).mono ?_
  rintro e w22 ⟨rfl, o22, y22⟩
  have cb13 := (BoxAt.on (BoxAt.kp (BoxAt.on (BoxAt.on (BoxAt.kp bx12 (Keeps.tr (Keeps.tr (Keeps.tr (Keeps.tr (Keeps.tr k13 k14) k15) k16) k17) k18)) y19 (.inr (Nat.le_trans (Nat.le_trans (Below.size k9) (Below.size k10)) (Below.size k11)))) y20 (.inr (Below.size k11))) k21) y22 (.inr (Nat.le_refl _)))
  have cb13_0 := cb13.2 0 _ rfl
  have cb13_1 := cb13.2 1 _ rfl
  have cb13_2 := cb13.2 2 _ rfl
  have cb13_3 := cb13.2 3 _ rfl
  have cb13_s := cb13.1
  clear cb13
  go_wp2_with fail
  clear cb13_0 cb13_1 cb13_2 cb13_3 cb13_s
  refine (heldSnap_at (putS (r_aS, c_aS, lh_aS, lg_aS) a_aI a_aPiece l_aPath).1 (putS (r_aS, c_aS, lh_aS, lg_aS) a_aI a_aPiece l_aPath).2.1 (.slice Aa11 (putS (r_aS, c_aS, lh_aS, lg_aS) a_aI a_aPiece l_aPath).2.2.1.length ca11) (.slice Ab11 (putS (r_aS, c_aS, lh_aS, lg_aS) a_aI a_aPiece l_aPath).2.2.2.length cb11) (putS (r_aS, c_aS, lh_aS, lg_aS) a_aI a_aPiece l_aPath).2.2.1.length (putS (r_aS, c_aS, lh_aS, lg_aS) a_aI a_aPiece l_aPath).2.2.2.length 1 _ m4 m5 _ (TwoI.rd1 o22) (TwoI.rd2 o22) EM4.out EM5.out (by omega) (by omega)).mono ?_
  rintro e w23 ⟨rfl, k23⟩
  have k23 : Keeps w22 w23 := k23
  have cb14 := (BoxAt.kp (BoxAt.on (BoxAt.kp (BoxAt.on (BoxAt.on (BoxAt.kp bx1 (Keeps.tr (Keeps.tr (Keeps.tr (Keeps.tr (Keeps.tr (Keeps.tr (Keeps.tr (Keeps.tr (Keeps.tr (Keeps.tr (Keeps.tr (Keeps.tr (Keeps.tr (Keeps.tr (Keeps.tr (Keeps.tr k2 k3) k4) k5) k6) k7) k8) k9) k10) k11) k12) k13) k14) k15) k16) k17) k18)) y19 (.inl (Nat.lt_of_lt_of_le bl1 (Nat.le_trans (Nat.le_trans (Nat.le_trans (Nat.le_trans (Nat.le_trans (Below.size k2) (Below.size k3)) (Below.size k4)) (Below.size k5)) (Below.size k6)) (Below.size k7))))) y20 (.inl (Nat.lt_of_lt_of_le bl1 (Nat.le_trans (Nat.le_trans (Nat.le_trans (Nat.le_trans (Nat.le_trans (Nat.le_trans (Nat.le_trans (Below.size k2) (Below.size k3)) (Below.size k4)) (Below.size k5)) (Below.size k6)) (Below.size k7)) (Below.size k8)) (Below.size k9))))) k21) y22 (.inl (Nat.lt_of_lt_of_le bl1 (Nat.le_trans (Nat.le_trans (Nat.le_trans (Nat.le_trans (Nat.le_trans (Nat.le_trans (Nat.le_trans (Nat.le_trans (Below.size k2) (Below.size k3)) (Below.size k4)) (Below.size k5)) (Below.size k6)) (Below.size k7)) (Below.size k8)) (Below.size k9)) (Below.size k10))))) k23)
  have cb14_0 := cb14.2 0 _ rfl
  have cb14_1 := cb14.2 1 _ rfl
  have cb14_2 := cb14.2 2 _ rfl
  have cb14_3 := cb14.2 3 _ rfl
  have cb14_s := cb14.1
  clear cb14
  go_wp2_with fail
  clear cb14_0 cb14_1 cb14_2 cb14_3 cb14_s
  refine (toSnap_any r_aS c_aS (.slice Aa_aS lh_aS.length ca_aS) (.slice Ab_aS lg_aS.length cb_aS) lh_aS lg_aS _ (RdS.more (RdS.kp (RdS.on (RdS.kp (RdS.on (RdS.on (RdS.kp ha_aS (Keeps.tr (Keeps.tr (Keeps.tr (Keeps.tr (Keeps.tr (Keeps.tr (Keeps.tr (Keeps.tr (Keeps.tr (Keeps.tr (Keeps.tr (Keeps.tr (Keeps.tr (Keeps.tr (Keeps.tr (Keeps.tr (Keeps.tr k1 k2) k3) k4) k5) k6) k7) k8) k9) k10) k11) k12) k13) k14) k15) k16) k17) k18) (Nat.le_refl _)) y19 (Nat.le_trans (Nat.le_trans (Nat.le_trans (Nat.le_trans (Nat.le_trans (Nat.le_trans (Below.size k1) (Below.size k2)) (Below.size k3)) (Below.size k4)) (Below.size k5)) (Below.size k6)) (Below.size k7)) (Nat.le_trans (Nat.le_trans (Nat.le_trans (Nat.le_trans (Nat.le_trans (Nat.le_trans (Nat.le_trans (Nat.le_trans (Nat.le_trans (Nat.le_trans (Nat.le_trans (Nat.le_trans (Nat.le_trans (Nat.le_trans (Nat.le_trans (Nat.le_trans (Nat.le_trans (Below.size k1) (Below.size k2)) (Below.size k3)) (Below.size k4)) (Below.size k5)) (Below.size k6)) (Below.size k7)) (Below.size k8)) (Below.size k9)) (Below.size k10)) (Below.size k11)) (Below.size k12)) (Below.size k13)) (Below.size k14)) (Below.size k15)) (Below.size k16)) (Below.size k17)) (Below.size k18))) y20 (Nat.le_trans (Nat.le_trans (Nat.le_trans (Nat.le_trans (Nat.le_trans (Nat.le_trans (Nat.le_trans (Nat.le_trans (Below.size k1) (Below.size k2)) (Below.size k3)) (Below.size k4)) (Below.size k5)) (Below.size k6)) (Below.size k7)) (Below.size k8)) (Below.size k9)) (Nat.le_trans (Nat.le_trans (Nat.le_trans (Nat.le_trans (Nat.le_trans (Nat.le_trans (Nat.le_trans (Nat.le_trans (Nat.le_trans (Nat.le_trans (Nat.le_trans (Nat.le_trans (Nat.le_trans (Nat.le_trans (Nat.le_trans (Nat.le_trans (Nat.le_trans (Nat.le_trans (Below.size k1) (Below.size k2)) (Below.size k3)) (Below.size k4)) (Below.size k5)) (Below.size k6)) (Below.size k7)) (Below.size k8)) (Below.size k9)) (Below.size k10)) (Below.size k11)) (Below.size k12)) (Below.size k13)) (Below.size k14)) (Below.size k15)) (Below.size k16)) (Below.size k17)) (Below.size k18)) (Only.size y19))) k21 (Nat.le_trans (Nat.le_trans (Nat.le_trans (Nat.le_trans (Nat.le_trans (Nat.le_trans (Nat.le_trans (Nat.le_trans (Nat.le_trans (Nat.le_trans (Nat.le_trans (Nat.le_trans (Nat.le_trans (Nat.le_trans (Nat.le_trans (Nat.le_trans (Nat.le_trans (Nat.le_trans (Nat.le_trans (Below.size k1) (Below.size k2)) (Below.size k3)) (Below.size k4)) (Below.size k5)) (Below.size k6)) (Below.size k7)) (Below.size k8)) (Below.size k9)) (Below.size k10)) (Below.size k11)) (Below.size k12)) (Below.size k13)) (Below.size k14)) (Below.size k15)) (Below.size k16)) (Below.size k17)) (Below.size k18)) (Only.size y19)) (Only.size y20))) y22 (Nat.le_trans (Nat.le_trans (Nat.le_trans (Nat.le_trans (Nat.le_trans (Nat.le_trans (Nat.le_trans (Nat.le_trans (Nat.le_trans (Below.size k1) (Below.size k2)) (Below.size k3)) (Below.size k4)) (Below.size k5)) (Below.size k6)) (Below.size k7)) (Below.size k8)) (Below.size k9)) (Below.size k10)) (Nat.le_trans (Nat.le_trans (Nat.le_trans (Nat.le_trans (Nat.le_trans (Nat.le_trans (Nat.le_trans (Nat.le_trans (Nat.le_trans (Nat.le_trans (Nat.le_trans (Nat.le_trans (Nat.le_trans (Nat.le_trans (Nat.le_trans (Nat.le_trans (Nat.le_trans (Nat.le_trans (Nat.le_trans (Nat.le_trans (Below.size k1) (Below.size k2)) (Below.size k3)) (Below.size k4)) (Below.size k5)) (Below.size k6)) (Below.size k7)) (Below.size k8)) (Below.size k9)) (Below.size k10)) (Below.size k11)) (Below.size k12)) (Below.size k13)) (Below.size k14)) (Below.size k15)) (Below.size k16)) (Below.size k17)) (Below.size k18)) (Only.size y19)) (Only.size y20)) (Below.size k21))) k23 (Nat.le_trans (Nat.le_trans (Nat.le_trans (Nat.le_trans (Nat.le_trans (Nat.le_trans (Nat.le_trans (Nat.le_trans (Nat.le_trans (Nat.le_trans (Nat.le_trans (Nat.le_trans (Nat.le_trans (Nat.le_trans (Nat.le_trans (Nat.le_trans (Nat.le_trans (Nat.le_trans (Nat.le_trans (Nat.le_trans (Nat.le_trans (Below.size k1) (Below.size k2)) (Below.size k3)) (Below.size k4)) (Below.size k5)) (Below.size k6)) (Below.size k7)) (Below.size k8)) (Below.size k9)) (Below.size k10)) (Below.size k11)) (Below.size k12)) (Below.size k13)) (Below.size k14)) (Below.size k15)) (Below.size k16)) (Below.size k17)) (Below.size k18)) (Only.size y19)) (Only.size y20)) (Below.size k21)) (Only.size y22))) (Nat.le_trans (Nat.le_trans (Nat.le_trans (Nat.le_trans (Nat.le_trans (Nat.le_trans (Nat.le_trans (Nat.le_trans (Nat.le_trans (Nat.le_trans (Nat.le_trans (Nat.le_trans (Nat.le_trans (Nat.le_trans (Nat.le_trans (Nat.le_trans (Nat.le_trans (Nat.le_trans (Nat.le_trans (Nat.le_trans (Nat.le_trans (Nat.le_trans (Below.size k1) (Below.size k2)) (Below.size k3)) (Below.size k4)) (Below.size k5)) (Below.size k6)) (Below.size k7)) (Below.size k8)) (Below.size k9)) (Below.size k10)) (Below.size k11)) (Below.size k12)) (Below.size k13)) (Below.size k14)) (Below.size k15)) (Below.size k16)) (Below.size k17)) (Below.size k18)) (Only.size y19)) (Only.size y20)) (Below.size k21)) (Only.size y22)) (Below.size k23))) (RdS.more (RdS.kp (RdS.on (RdS.kp (RdS.on (RdS.on (RdS.kp hb_aS (Keeps.tr (Keeps.tr (Keeps.tr (Keeps.tr (Keeps.tr (Keeps.tr (Keeps.tr (Keeps.tr (Keeps.tr (Keeps.tr (Keeps.tr (Keeps.tr (Keeps.tr (Keeps.tr (Keeps.tr (Keeps.tr (Keeps.tr k1 k2) k3) k4) k5) k6) k7) k8) k9) k10) k11) k12) k13) k14) k15) k16) k17) k18) (Nat.le_refl _)) y19 (Nat.le_trans (Nat.le_trans (Nat.le_trans (Nat.le_trans (Nat.le_trans (Nat.le_trans (Below.size k1) (Below.size k2)) (Below.size k3)) (Below.size k4)) (Below.size k5)) (Below.size k6)) (Below.size k7)) (Nat.le_trans (Nat.le_trans (Nat.le_trans (Nat.le_trans (Nat.le_trans (Nat.le_trans (Nat.le_trans (Nat.le_trans (Nat.le_trans (Nat.le_trans (Nat.le_trans (Nat.le_trans (Nat.le_trans (Nat.le_trans (Nat.le_trans (Nat.le_trans (Nat.le_trans (Below.size k1) (Below.size k2)) (Below.size k3)) (Below.size k4)) (Below.size k5)) (Below.size k6)) (Below.size k7)) (Below.size k8)) (Below.size k9)) (Below.size k10)) (Below.size k11)) (Below.size k12)) (Below.size k13)) (Below.size k14)) (Below.size k15)) (Below.size k16)) (Below.size k17)) (Below.size k18))) y20 (Nat.le_trans (Nat.le_trans (Nat.le_trans (Nat.le_trans (Nat.le_trans (Nat.le_trans (Nat.le_trans (Nat.le_trans (Below.size k1) (Below.size k2)) (Below.size k3)) (Below.size k4)) (Below.size k5)) (Below.size k6)) (Below.size k7)) (Below.size k8)) (Below.size k9)) (Nat.le_trans (Nat.le_trans (Nat.le_trans (Nat.le_trans (Nat.le_trans (Nat.le_trans (Nat.le_trans (Nat.le_trans (Nat.le_trans (Nat.le_trans (Nat.le_trans (Nat.le_trans (Nat.le_trans (Nat.le_trans (Nat.le_trans (Nat.le_trans (Nat.le_trans (Nat.le_trans (Below.size k1) (Below.size k2)) (Below.size k3)) (Below.size k4)) (Below.size k5)) (Below.size k6)) (Below.size k7)) (Below.size k8)) (Below.size k9)) (Below.size k10)) (Below.size k11)) (Below.size k12)) (Below.size k13)) (Below.size k14)) (Below.size k15)) (Below.size k16)) (Below.size k17)) (Below.size k18)) (Only.size y19))) k21 (Nat.le_trans (Nat.le_trans (Nat.le_trans (Nat.le_trans (Nat.le_trans (Nat.le_trans (Nat.le_trans (Nat.le_trans (Nat.le_trans (Nat.le_trans (Nat.le_trans (Nat.le_trans (Nat.le_trans (Nat.le_trans (Nat.le_trans (Nat.le_trans (Nat.le_trans (Nat.le_trans (Nat.le_trans (Below.size k1) (Below.size k2)) (Below.size k3)) (Below.size k4)) (Below.size k5)) (Below.size k6)) (Below.size k7)) (Below.size k8)) (Below.size k9)) (Below.size k10)) (Below.size k11)) (Below.size k12)) (Below.size k13)) (Below.size k14)) (Below.size k15)) (Below.size k16)) (Below.size k17)) (Below.size k18)) (Only.size y19)) (Only.size y20))) y22 (Nat.le_trans (Nat.le_trans (Nat.le_trans (Nat.le_trans (Nat.le_trans (Nat.le_trans (Nat.le_trans (Nat.le_trans (Nat.le_trans (Below.size k1) (Below.size k2)) (Below.size k3)) (Below.size k4)) (Below.size k5)) (Below.size k6)) (Below.size k7)) (Below.size k8)) (Below.size k9)) (Below.size k10)) (Nat.le_trans (Nat.le_trans (Nat.le_trans (Nat.le_trans (Nat.le_trans (Nat.le_trans (Nat.le_trans (Nat.le_trans (Nat.le_trans (Nat.le_trans (Nat.le_trans (Nat.le_trans (Nat.le_trans (Nat.le_trans (Nat.le_trans (Nat.le_trans (Nat.le_trans (Nat.le_trans (Nat.le_trans (Nat.le_trans (Below.size k1) (Below.size k2)) (Below.size k3)) (Below.size k4)) (Below.size k5)) (Below.size k6)) (Below.size k7)) (Below.size k8)) (Below.size k9)) (Below.size k10)) (Below.size k11)) (Below.size k12)) (Below.size k13)) (Below.size k14)) (Below.size k15)) (Below.size k16)) (Below.size k17)) (Below.size k18)) (Only.size y19)) (Only.size y20)) (Below.size k21))) k23 (Nat.le_trans (Nat.le_trans (Nat.le_trans (Nat.le_trans (Nat.le_trans (Nat.le_trans (Nat.le_trans (Nat.le_trans (Nat.le_trans (Nat.le_trans (Nat.le_trans (Nat.le_trans (Nat.le_trans (Nat.le_trans (Nat.le_trans (Nat.le_trans (Nat.le_trans (Nat.le_trans (Nat.le_trans (Nat.le_trans (Nat.le_trans (Below.size k1) (Below.size k2)) (Below.size k3)) (Below.size k4)) (Below.size k5)) (Below.size k6)) (Below.size k7)) (Below.size k8)) (Below.size k9)) (Below.size k10)) (Below.size k11)) (Below.size k12)) (Below.size k13)) (Below.size k14)) (Below.size k15)) (Below.size k16)) (Below.size k17)) (Below.size k18)) (Only.size y19)) (Only.size y20)) (Below.size k21)) (Only.size y22))) (Nat.le_trans (Nat.le_trans (Nat.le_trans (Nat.le_trans (Nat.le_trans (Nat.le_trans (Nat.le_trans (Nat.le_trans (Nat.le_trans (Nat.le_trans (Nat.le_trans (Nat.le_trans (Nat.le_trans (Nat.le_trans (Nat.le_trans (Nat.le_trans (Nat.le_trans (Nat.le_trans (Nat.le_trans (Nat.le_trans (Nat.le_trans (Nat.le_trans (Below.size k1) (Below.size k2)) (Below.size k3)) (Below.size k4)) (Below.size k5)) (Below.size k6)) (Below.size k7)) (Below.size k8)) (Below.size k9)) (Below.size k10)) (Below.size k11)) (Below.size k12)) (Below.size k13)) (Below.size k14)) (Below.size k15)) (Below.size k16)) (Below.size k17)) (Below.size k18)) (Only.size y19)) (Only.size y20)) (Below.size k21)) (Only.size y22)) (Below.size k23))) (by omega) (by omega)).mono ?_
  rintro e w24 ⟨vh24, vg24, rfl, o24, k24⟩
  have k24 : Keeps w23 w24 := k24
  obtain ⟨Aa24, ca24, rfl⟩ := TwoI.shape1 o24
  obtain ⟨Ab24, cb24, rfl⟩ := TwoI.shape2 o24
  have cb15 := (BoxAt.kp (BoxAt.on (BoxAt.kp (BoxAt.on (BoxAt.on (BoxAt.kp bx1 (Keeps.tr (Keeps.tr (Keeps.tr (Keeps.tr (Keeps.tr (Keeps.tr (Keeps.tr (Keeps.tr (Keeps.tr (Keeps.tr (Keeps.tr (Keeps.tr (Keeps.tr (Keeps.tr (Keeps.tr (Keeps.tr k2 k3) k4) k5) k6) k7) k8) k9) k10) k11) k12) k13) k14) k15) k16) k17) k18)) y19 (.inl (Nat.lt_of_lt_of_le bl1 (Nat.le_trans (Nat.le_trans (Nat.le_trans (Nat.le_trans (Nat.le_trans (Below.size k2) (Below.size k3)) (Below.size k4)) (Below.size k5)) (Below.size k6)) (Below.size k7))))) y20 (.inl (Nat.lt_of_lt_of_le bl1 (Nat.le_trans (Nat.le_trans (Nat.le_trans (Nat.le_trans (Nat.le_trans (Nat.le_trans (Nat.le_trans (Below.size k2) (Below.size k3)) (Below.size k4)) (Below.size k5)) (Below.size k6)) (Below.size k7)) (Below.size k8)) (Below.size k9))))) k21) y22 (.inl (Nat.lt_of_lt_of_le bl1 (Nat.le_trans (Nat.le_trans (Nat.le_trans (Nat.le_trans (Nat.le_trans (Nat.le_trans (Nat.le_trans (Nat.le_trans (Below.size k2) (Below.size k3)) (Below.size k4)) (Below.size k5)) (Below.size k6)) (Below.size k7)) (Below.size k8)) (Below.size k9)) (Below.size k10))))) (Keeps.tr k23 k24))
  have cb15_0 := cb15.2 0 _ rfl
  have cb15_1 := cb15.2 1 _ rfl
  have cb15_2 := cb15.2 2 _ rfl
  have cb15_3 := cb15.2 3 _ rfl
  have cb15_s := cb15.1
  clear cb15
  go_wp2_with fail
  clear cb15_0 cb15_1 cb15_2 cb15_3 cb15_s
  refine (toStringS_any v_aPath l_aPath _ (RdS.more (RdS.kp (RdS.on (RdS.kp (RdS.on (RdS.on (RdS.kp h_aPath (Keeps.tr (Keeps.tr (Keeps.tr (Keeps.tr (Keeps.tr (Keeps.tr (Keeps.tr (Keeps.tr (Keeps.tr (Keeps.tr (Keeps.tr (Keeps.tr (Keeps.tr (Keeps.tr (Keeps.tr (Keeps.tr (Keeps.tr k1 k2) k3) k4) k5) k6) k7) k8) k9) k10) k11) k12) k13) k14) k15) k16) k17) k18) (Nat.le_refl _)) y19 (Nat.le_trans (Nat.le_trans (Nat.le_trans (Nat.le_trans (Nat.le_trans (Nat.le_trans (Below.size k1) (Below.size k2)) (Below.size k3)) (Below.size k4)) (Below.size k5)) (Below.size k6)) (Below.size k7)) (Nat.le_trans (Nat.le_trans (Nat.le_trans (Nat.le_trans (Nat.le_trans (Nat.le_trans (Nat.le_trans (Nat.le_trans (Nat.le_trans (Nat.le_trans (Nat.le_trans (Nat.le_trans (Nat.le_trans (Nat.le_trans (Nat.le_trans (Nat.le_trans (Nat.le_trans (Below.size k1) (Below.size k2)) (Below.size k3)) (Below.size k4)) (Below.size k5)) (Below.size k6)) (Below.size k7)) (Below.size k8)) (Below.size k9)) (Below.size k10)) (Below.size k11)) (Below.size k12)) (Below.size k13)) (Below.size k14)) (Below.size k15)) (Below.size k16)) (Below.size k17)) (Below.size k18))) y20 (Nat.le_trans (Nat.le_trans (Nat.le_trans (Nat.le_trans (Nat.le_trans (Nat.le_trans (Nat.le_trans (Nat.le_trans (Below.size k1) (Below.size k2)) (Below.size k3)) (Below.size k4)) (Below.size k5)) (Below.size k6)) (Below.size k7)) (Below.size k8)) (Below.size k9)) (Nat.le_trans (Nat.le_trans (Nat.le_trans (Nat.le_trans (Nat.le_trans (Nat.le_trans (Nat.le_trans (Nat.le_trans (Nat.le_trans (Nat.le_trans (Nat.le_trans (Nat.le_trans (Nat.le_trans (Nat.le_trans (Nat.le_trans (Nat.le_trans (Nat.le_trans (Nat.le_trans (Below.size k1) (Below.size k2)) (Below.size k3)) (Below.size k4)) (Below.size k5)) (Below.size k6)) (Below.size k7)) (Below.size k8)) (Below.size k9)) (Below.size k10)) (Below.size k11)) (Below.size k12)) (Below.size k13)) (Below.size k14)) (Below.size k15)) (Below.size k16)) (Below.size k17)) (Below.size k18)) (Only.size y19))) k21 (Nat.le_trans (Nat.le_trans (Nat.le_trans (Nat.le_trans (Nat.le_trans (Nat.le_trans (Nat.le_trans (Nat.le_trans (Nat.le_trans (Nat.le_trans (Nat.le_trans (Nat.le_trans (Nat.le_trans (Nat.le_trans (Nat.le_trans (Nat.le_trans (Nat.le_trans (Nat.le_trans (Nat.le_trans (Below.size k1) (Below.size k2)) (Below.size k3)) (Below.size k4)) (Below.size k5)) (Below.size k6)) (Below.size k7)) (Below.size k8)) (Below.size k9)) (Below.size k10)) (Below.size k11)) (Below.size k12)) (Below.size k13)) (Below.size k14)) (Below.size k15)) (Below.size k16)) (Below.size k17)) (Below.size k18)) (Only.size y19)) (Only.size y20))) y22 (Nat.le_trans (Nat.le_trans (Nat.le_trans (Nat.le_trans (Nat.le_trans (Nat.le_trans (Nat.le_trans (Nat.le_trans (Nat.le_trans (Below.size k1) (Below.size k2)) (Below.size k3)) (Below.size k4)) (Below.size k5)) (Below.size k6)) (Below.size k7)) (Below.size k8)) (Below.size k9)) (Below.size k10)) (Nat.le_trans (Nat.le_trans (Nat.le_trans (Nat.le_trans (Nat.le_trans (Nat.le_trans (Nat.le_trans (Nat.le_trans (Nat.le_trans (Nat.le_trans (Nat.le_trans (Nat.le_trans (Nat.le_trans (Nat.le_trans (Nat.le_trans (Nat.le_trans (Nat.le_trans (Nat.le_trans (Nat.le_trans (Nat.le_trans (Below.size k1) (Below.size k2)) (Below.size k3)) (Below.size k4)) (Below.size k5)) (Below.size k6)) (Below.size k7)) (Below.size k8)) (Below.size k9)) (Below.size k10)) (Below.size k11)) (Below.size k12)) (Below.size k13)) (Below.size k14)) (Below.size k15)) (Below.size k16)) (Below.size k17)) (Below.size k18)) (Only.size y19)) (Only.size y20)) (Below.size k21))) (Keeps.tr k23 k24) (Nat.le_trans (Nat.le_trans (Nat.le_trans (Nat.le_trans (Nat.le_trans (Nat.le_trans (Nat.le_trans (Nat.le_trans (Nat.le_trans (Nat.le_trans (Nat.le_trans (Nat.le_trans (Nat.le_trans (Nat.le_trans (Nat.le_trans (Nat.le_trans (Nat.le_trans (Nat.le_trans (Nat.le_trans (Nat.le_trans (Nat.le_trans (Below.size k1) (Below.size k2)) (Below.size k3)) (Below.size k4)) (Below.size k5)) (Below.size k6)) (Below.size k7)) (Below.size k8)) (Below.size k9)) (Below.size k10)) (Below.size k11)) (Below.size k12)) (Below.size k13)) (Below.size k14)) (Below.size k15)) (Below.size k16)) (Below.size k17)) (Below.size k18)) (Only.size y19)) (Only.size y20)) (Below.size k21)) (Only.size y22))) (Nat.le_trans (Nat.le_trans (Nat.le_trans (Nat.le_trans (Nat.le_trans (Nat.le_trans (Nat.le_trans (Nat.le_trans (Nat.le_trans (Nat.le_trans (Nat.le_trans (Nat.le_trans (Nat.le_trans (Nat.le_trans (Nat.le_trans (Nat.le_trans (Nat.le_trans (Nat.le_trans (Nat.le_trans (Nat.le_trans (Nat.le_trans (Nat.le_trans (Nat.le_trans (Below.size k1) (Below.size k2)) (Below.size k3)) (Below.size k4)) (Below.size k5)) (Below.size k6)) (Below.size k7)) (Below.size k8)) (Below.size k9)) (Below.size k10)) (Below.size k11)) (Below.size k12)) (Below.size k13)) (Below.size k14)) (Below.size k15)) (Below.size k16)) (Below.size k17)) (Below.size k18)) (Only.size y19)) (Only.size y20)) (Below.size k21)) (Only.size y22)) (Below.size k23)) (Below.size k24))) (by omega)).mono ?_
  rintro e w25 ⟨x25, rfl, n25, k25⟩
  have k25 : Keeps w24 w25 := k25
  have o25 := OwnI.of_new n25
  clear n25
  have cb16 := (BoxAt.kp (BoxAt.on (BoxAt.kp (BoxAt.on (BoxAt.on (BoxAt.kp bx1 (Keeps.tr (Keeps.tr (Keeps.tr (Keeps.tr (Keeps.tr (Keeps.tr (Keeps.tr (Keeps.tr (Keeps.tr (Keeps.tr (Keeps.tr (Keeps.tr (Keeps.tr (Keeps.tr (Keeps.tr (Keeps.tr k2 k3) k4) k5) k6) k7) k8) k9) k10) k11) k12) k13) k14) k15) k16) k17) k18)) y19 (.inl (Nat.lt_of_lt_of_le bl1 (Nat.le_trans (Nat.le_trans (Nat.le_trans (Nat.le_trans (Nat.le_trans (Below.size k2) (Below.size k3)) (Below.size k4)) (Below.size k5)) (Below.size k6)) (Below.size k7))))) y20 (.inl (Nat.lt_of_lt_of_le bl1 (Nat.le_trans (Nat.le_trans (Nat.le_trans (Nat.le_trans (Nat.le_trans (Nat.le_trans (Nat.le_trans (Below.size k2) (Below.size k3)) (Below.size k4)) (Below.size k5)) (Below.size k6)) (Below.size k7)) (Below.size k8)) (Below.size k9))))) k21) y22 (.inl (Nat.lt_of_lt_of_le bl1 (Nat.le_trans (Nat.le_trans (Nat.le_trans (Nat.le_trans (Nat.le_trans (Nat.le_trans (Nat.le_trans (Nat.le_trans (Below.size k2) (Below.size k3)) (Below.size k4)) (Below.size k5)) (Below.size k6)) (Below.size k7)) (Below.size k8)) (Below.size k9)) (Below.size k10))))) (Keeps.tr (Keeps.tr k23 k24) k25))
  have cb16_0 := cb16.2 0 _ rfl
  have cb16_1 := cb16.2 1 _ rfl
  have cb16_2 := cb16.2 2 _ rfl
  have cb16_3 := cb16.2 3 _ rfl
  have cb16_s := cb16.1
  clear cb16
  go_wp2_with fail
  clear cb16_0 cb16_1 cb16_2 cb16_3 cb16_s
  refine (snapPut_impl (s := (r_aS, c_aS, lh_aS, lg_aS)) (i := a_aI) (piece := a_aPiece) (GlobOk.below gl (Below.trans (Below.trans (Below.trans (Below.trans (Below.trans (Keeps.tr (Keeps.tr (Keeps.tr (Keeps.tr (Keeps.tr (Keeps.tr (Keeps.tr (Keeps.tr (Keeps.tr (Keeps.tr (Keeps.tr (Keeps.tr (Keeps.tr (Keeps.tr (Keeps.tr (Keeps.tr (Keeps.tr k1 k2) k3) k4) k5) k6) k7) k8) k9) k10) k11) k12) k13) k14) k15) k16) k17) k18) (Only.below y19 (Nat.le_trans (Nat.le_trans (Nat.le_trans (Nat.le_trans (Nat.le_trans (Nat.le_trans (Below.size k1) (Below.size k2)) (Below.size k3)) (Below.size k4)) (Below.size k5)) (Below.size k6)) (Below.size k7)) (Nat.le_trans (Nat.le_trans (Nat.le_trans (Nat.le_trans (Nat.le_trans (Nat.le_trans (Nat.le_trans (Nat.le_trans (Nat.le_trans (Nat.le_trans (Nat.le_trans (Nat.le_trans (Nat.le_trans (Nat.le_trans (Nat.le_trans (Nat.le_trans (Nat.le_trans (Below.size k1) (Below.size k2)) (Below.size k3)) (Below.size k4)) (Below.size k5)) (Below.size k6)) (Below.size k7)) (Below.size k8)) (Below.size k9)) (Below.size k10)) (Below.size k11)) (Below.size k12)) (Below.size k13)) (Below.size k14)) (Below.size k15)) (Below.size k16)) (Below.size k17)) (Below.size k18)))) (Only.below y20 (Nat.le_trans (Nat.le_trans (Nat.le_trans (Nat.le_trans (Nat.le_trans (Nat.le_trans (Nat.le_trans (Nat.le_trans (Below.size k1) (Below.size k2)) (Below.size k3)) (Below.size k4)) (Below.size k5)) (Below.size k6)) (Below.size k7)) (Below.size k8)) (Below.size k9)) (Nat.le_trans (Nat.le_trans (Nat.le_trans (Nat.le_trans (Nat.le_trans (Nat.le_trans (Nat.le_trans (Nat.le_trans (Nat.le_trans (Nat.le_trans (Nat.le_trans (Nat.le_trans (Nat.le_trans (Nat.le_trans (Nat.le_trans (Nat.le_trans (Nat.le_trans (Nat.le_trans (Below.size k1) (Below.size k2)) (Below.size k3)) (Below.size k4)) (Below.size k5)) (Below.size k6)) (Below.size k7)) (Below.size k8)) (Below.size k9)) (Below.size k10)) (Below.size k11)) (Below.size k12)) (Below.size k13)) (Below.size k14)) (Below.size k15)) (Below.size k16)) (Below.size k17)) (Below.size k18)) (Only.size y19)))) (Below.mono k21 (Nat.le_trans (Nat.le_trans (Nat.le_trans (Nat.le_trans (Nat.le_trans (Nat.le_trans (Nat.le_trans (Nat.le_trans (Nat.le_trans (Nat.le_trans (Nat.le_trans (Nat.le_trans (Nat.le_trans (Nat.le_trans (Nat.le_trans (Nat.le_trans (Nat.le_trans (Nat.le_trans (Nat.le_trans (Below.size k1) (Below.size k2)) (Below.size k3)) (Below.size k4)) (Below.size k5)) (Below.size k6)) (Below.size k7)) (Below.size k8)) (Below.size k9)) (Below.size k10)) (Below.size k11)) (Below.size k12)) (Below.size k13)) (Below.size k14)) (Below.size k15)) (Below.size k16)) (Below.size k17)) (Below.size k18)) (Only.size y19)) (Only.size y20)))) (Only.below y22 (Nat.le_trans (Nat.le_trans (Nat.le_trans (Nat.le_trans (Nat.le_trans (Nat.le_trans (Nat.le_trans (Nat.le_trans (Nat.le_trans (Below.size k1) (Below.size k2)) (Below.size k3)) (Below.size k4)) (Below.size k5)) (Below.size k6)) (Below.size k7)) (Below.size k8)) (Below.size k9)) (Below.size k10)) (Nat.le_trans (Nat.le_trans (Nat.le_trans (Nat.le_trans (Nat.le_trans (Nat.le_trans (Nat.le_trans (Nat.le_trans (Nat.le_trans (Nat.le_trans (Nat.le_trans (Nat.le_trans (Nat.le_trans (Nat.le_trans (Nat.le_trans (Nat.le_trans (Nat.le_trans (Nat.le_trans (Nat.le_trans (Nat.le_trans (Below.size k1) (Below.size k2)) (Below.size k3)) (Below.size k4)) (Below.size k5)) (Below.size k6)) (Below.size k7)) (Below.size k8)) (Below.size k9)) (Below.size k10)) (Below.size k11)) (Below.size k12)) (Below.size k13)) (Below.size k14)) (Below.size k15)) (Below.size k16)) (Below.size k17)) (Below.size k18)) (Only.size y19)) (Only.size y20)) (Below.size k21)))) (Below.mono (Keeps.tr (Keeps.tr k23 k24) k25) (Nat.le_trans (Nat.le_trans (Nat.le_trans (Nat.le_trans (Nat.le_trans (Nat.le_trans (Nat.le_trans (Nat.le_trans (Nat.le_trans (Nat.le_trans (Nat.le_trans (Nat.le_trans (Nat.le_trans (Nat.le_trans (Nat.le_trans (Nat.le_trans (Nat.le_trans (Nat.le_trans (Nat.le_trans (Nat.le_trans (Nat.le_trans (Below.size k1) (Below.size k2)) (Below.size k3)) (Below.size k4)) (Below.size k5)) (Below.size k6)) (Below.size k7)) (Below.size k8)) (Below.size k9)) (Below.size k10)) (Below.size k11)) (Below.size k12)) (Below.size k13)) (Below.size k14)) (Below.size k15)) (Below.size k16)) (Below.size k17)) (Below.size k18)) (Only.size y19)) (Only.size y20)) (Below.size k21)) (Only.size y22))))) (TwoI.rd1 (TwoI.kp o24 k25)) (TwoI.rd2 (TwoI.kp o24 k25)) (OwnI.rd o25) (by omega) (by omega) (by omega) (by omega) (by assumption)).mono ?_
  rintro e w26 ⟨vh26, vg26, rfl, o26, k26⟩
  have k26 : Keeps w25 w26 := k26
  obtain ⟨Aa26, ca26, rfl⟩ := TwoI.shape1 o26
  obtain ⟨Ab26, cb26, rfl⟩ := TwoI.shape2 o26
  have cb17 := (BoxAt.kp (BoxAt.on (BoxAt.kp (BoxAt.on (BoxAt.on (BoxAt.kp bx7 (Keeps.tr (Keeps.tr (Keeps.tr (Keeps.tr (Keeps.tr (Keeps.tr (Keeps.tr (Keeps.tr (Keeps.tr (Keeps.tr k8 k9) k10) k11) k12) k13) k14) k15) k16) k17) k18)) y19 (.inl (Nat.lt_of_lt_of_le bl7 (Nat.le_refl _)))) y20 (.inl (Nat.lt_of_lt_of_le bl7 (Nat.le_trans (Below.size k8) (Below.size k9))))) k21) y22 (.inl (Nat.lt_of_lt_of_le bl7 (Nat.le_trans (Nat.le_trans (Below.size k8) (Below.size k9)) (Below.size k10))))) (Keeps.tr (Keeps.tr (Keeps.tr k23 k24) k25) k26))
  have cb17_0 := cb17.2 0 _ rfl
  have cb17_1 := cb17.2 1 _ rfl
  have cb17_2 := cb17.2 2 _ rfl
  have cb17_3 := cb17.2 3 _ rfl
  have cb17_s := cb17.1
  clear cb17
  go_wp2_with fail
  clear cb17_0 cb17_1 cb17_2 cb17_3 cb17_s
  have k27 : Keeps w26 (w26.alloc (.cells #[.string (putS (r_aS, c_aS, lh_aS, lg_aS) a_aI a_aPiece l_aPath).1, .int .i64 (putS (r_aS, c_aS, lh_aS, lg_aS) a_aI a_aPiece l_aPath).2.1, (.slice Aa26 (putS (r_aS, c_aS, lh_aS, lg_aS) a_aI a_aPiece l_aPath).2.2.1.length ca26), (.slice Ab26 (putS (r_aS, c_aS, lh_aS, lg_aS) a_aI a_aPiece l_aPath).2.2.2.length cb26)] 56)) := Below.alloc (Below.refl _ _) (Nat.le_refl _) _
  have bx27 : BoxAt (w26.alloc (.cells #[.string (putS (r_aS, c_aS, lh_aS, lg_aS) a_aI a_aPiece l_aPath).1, .int .i64 (putS (r_aS, c_aS, lh_aS, lg_aS) a_aI a_aPiece l_aPath).2.1, (.slice Aa26 (putS (r_aS, c_aS, lh_aS, lg_aS) a_aI a_aPiece l_aPath).2.2.1.length ca26), (.slice Ab26 (putS (r_aS, c_aS, lh_aS, lg_aS) a_aI a_aPiece l_aPath).2.2.2.length cb26)] 56)) w26.heap.size [.string (putS (r_aS, c_aS, lh_aS, lg_aS) a_aI a_aPiece l_aPath).1, .int .i64 (putS (r_aS, c_aS, lh_aS, lg_aS) a_aI a_aPiece l_aPath).2.1, (.slice Aa26 (putS (r_aS, c_aS, lh_aS, lg_aS) a_aI a_aPiece l_aPath).2.2.1.length ca26), (.slice Ab26 (putS (r_aS, c_aS, lh_aS, lg_aS) a_aI a_aPiece l_aPath).2.2.2.length cb26)] := BoxAt.new _ _ _
  have bl27 : w26.heap.size < (w26.alloc (.cells #[.string (putS (r_aS, c_aS, lh_aS, lg_aS) a_aI a_aPiece l_aPath).1, .int .i64 (putS (r_aS, c_aS, lh_aS, lg_aS) a_aI a_aPiece l_aPath).2.1, (.slice Aa26 (putS (r_aS, c_aS, lh_aS, lg_aS) a_aI a_aPiece l_aPath).2.2.1.length ca26), (.slice Ab26 (putS (r_aS, c_aS, lh_aS, lg_aS) a_aI a_aPiece l_aPath).2.2.2.length cb26)] 56)).heap.size := by simp
  generalize w26.alloc (.cells #[.string (putS (r_aS, c_aS, lh_aS, lg_aS) a_aI a_aPiece l_aPath).1, .int .i64 (putS (r_aS, c_aS, lh_aS, lg_aS) a_aI a_aPiece l_aPath).2.1, (.slice Aa26 (putS (r_aS, c_aS, lh_aS, lg_aS) a_aI a_aPiece l_aPath).2.2.1.length ca26), (.slice Ab26 (putS (r_aS, c_aS, lh_aS, lg_aS) a_aI a_aPiece l_aPath).2.2.2.length cb26)] 56) = w27 at *
  refine (eqSnap_same (putS (r_aS, c_aS, lh_aS, lg_aS) a_aI a_aPiece l_aPath).1 (putS (r_aS, c_aS, lh_aS, lg_aS) a_aI a_aPiece l_aPath).2.1 (.slice Aa26 (putS (r_aS, c_aS, lh_aS, lg_aS) a_aI a_aPiece l_aPath).2.2.1.length ca26) (.slice Ab26 (putS (r_aS, c_aS, lh_aS, lg_aS) a_aI a_aPiece l_aPath).2.2.2.length cb26) (.slice Aa6 (putS (r_aS, c_aS, lh_aS, lg_aS) a_aI a_aPiece l_aPath).2.2.1.length ca6) (.slice Ab6 (putS (r_aS, c_aS, lh_aS, lg_aS) a_aI a_aPiece l_aPath).2.2.2.length cb6) (putS (r_aS, c_aS, lh_aS, lg_aS) a_aI a_aPiece l_aPath).2.2.1 (putS (r_aS, c_aS, lh_aS, lg_aS) a_aI a_aPiece l_aPath).2.2.2 _ (TwoI.rd1 (TwoI.kp o26 k27)) (TwoI.rd2 (TwoI.kp o26 k27)) (TwoI.rd1 (TwoI.kp (TwoI.on (TwoI.kp (TwoI.on (TwoI.on (TwoI.kp o6 (Keeps.tr (Keeps.tr (Keeps.tr (Keeps.tr (Keeps.tr (Keeps.tr (Keeps.tr (Keeps.tr (Keeps.tr (Keeps.tr (Keeps.tr k7 k8) k9) k10) k11) k12) k13) k14) k15) k16) k17) k18)) y19 (.inl (Below.size k7))) y20 (.inl (Nat.le_trans (Nat.le_trans (Below.size k7) (Below.size k8)) (Below.size k9)))) k21) y22 (.inl (Nat.le_trans (Nat.le_trans (Nat.le_trans (Below.size k7) (Below.size k8)) (Below.size k9)) (Below.size k10)))) (Keeps.tr (Keeps.tr (Keeps.tr (Keeps.tr k23 k24) k25) k26) k27))) (TwoI.rd2 (TwoI.kp (TwoI.on (TwoI.kp (TwoI.on (TwoI.on (TwoI.kp o6 (Keeps.tr (Keeps.tr (Keeps.tr (Keeps.tr (Keeps.tr (Keeps.tr (Keeps.tr (Keeps.tr (Keeps.tr (Keeps.tr (Keeps.tr k7 k8) k9) k10) k11) k12) k13) k14) k15) k16) k17) k18)) y19 (.inl (Below.size k7))) y20 (.inl (Nat.le_trans (Nat.le_trans (Below.size k7) (Below.size k8)) (Below.size k9)))) k21) y22 (.inl (Nat.le_trans (Nat.le_trans (Nat.le_trans (Below.size k7) (Below.size k8)) (Below.size k9)) (Below.size k10)))) (Keeps.tr (Keeps.tr (Keeps.tr (Keeps.tr k23 k24) k25) k26) k27))) (by omega) (by omega)).mono ?_
  rintro e w28 ⟨rfl, k28⟩
  have k28 : Keeps w27 w28 := k28
  have cb18 := (BoxAt.kp (BoxAt.on (BoxAt.kp (BoxAt.on (BoxAt.on (BoxAt.kp bx12 (Keeps.tr (Keeps.tr (Keeps.tr (Keeps.tr (Keeps.tr k13 k14) k15) k16) k17) k18)) y19 (.inr (Nat.le_trans (Nat.le_trans (Below.size k9) (Below.size k10)) (Below.size k11)))) y20 (.inr (Below.size k11))) k21) y22 (.inr (Nat.le_refl _))) (Keeps.tr (Keeps.tr (Keeps.tr (Keeps.tr (Keeps.tr k23 k24) k25) k26) k27) k28))
  have cb18_0 := cb18.2 0 _ rfl
  have cb18_1 := cb18.2 1 _ rfl
  have cb18_2 := cb18.2 2 _ rfl
  have cb18_3 := cb18.2 3 _ rfl
  have cb18_s := cb18.1
  clear cb18
  go_wp2_with fail
  clear cb18_0 cb18_1 cb18_2 cb18_3 cb18_s
  refine (heldSnap_at (putS (r_aS, c_aS, lh_aS, lg_aS) a_aI a_aPiece l_aPath).1 (putS (r_aS, c_aS, lh_aS, lg_aS) a_aI a_aPiece l_aPath).2.1 (.slice Aa11 (putS (r_aS, c_aS, lh_aS, lg_aS) a_aI a_aPiece l_aPath).2.2.1.length ca11) (.slice Ab11 (putS (r_aS, c_aS, lh_aS, lg_aS) a_aI a_aPiece l_aPath).2.2.2.length cb11) (putS (r_aS, c_aS, lh_aS, lg_aS) a_aI a_aPiece l_aPath).2.2.1.length (putS (r_aS, c_aS, lh_aS, lg_aS) a_aI a_aPiece l_aPath).2.2.2.length 1 _ m4 m5 _ (TwoI.rd1 (TwoI.kp o22 (Keeps.tr (Keeps.tr (Keeps.tr (Keeps.tr (Keeps.tr k23 k24) k25) k26) k27) k28))) (TwoI.rd2 (TwoI.kp o22 (Keeps.tr (Keeps.tr (Keeps.tr (Keeps.tr (Keeps.tr k23 k24) k25) k26) k27) k28))) EM4.out EM5.out (by omega) (by omega)).mono ?_
  rintro e w29 ⟨rfl, k29⟩
  have k29 : Keeps w28 w29 := k29
  go_wp2_with fail
  go_ret
  exact ⟨rfl, (Below.trans (Below.trans (Below.trans (Below.trans (Below.trans (Keeps.tr (Keeps.tr (Keeps.tr (Keeps.tr (Keeps.tr (Keeps.tr (Keeps.tr (Keeps.tr (Keeps.tr (Keeps.tr (Keeps.tr (Keeps.tr (Keeps.tr (Keeps.tr (Keeps.tr (Keeps.tr (Keeps.tr k1 k2) k3) k4) k5) k6) k7) k8) k9) k10) k11) k12) k13) k14) k15) k16) k17) k18) (Only.below y19 (Nat.le_trans (Nat.le_trans (Nat.le_trans (Nat.le_trans (Nat.le_trans (Nat.le_trans (Below.size k1) (Below.size k2)) (Below.size k3)) (Below.size k4)) (Below.size k5)) (Below.size k6)) (Below.size k7)) (Nat.le_trans (Nat.le_trans (Nat.le_trans (Nat.le_trans (Nat.le_trans (Nat.le_trans (Nat.le_trans (Nat.le_trans (Nat.le_trans (Nat.le_trans (Nat.le_trans (Nat.le_trans (Nat.le_trans (Nat.le_trans (Nat.le_trans (Nat.le_trans (Nat.le_trans (Below.size k1) (Below.size k2)) (Below.size k3)) (Below.size k4)) (Below.size k5)) (Below.size k6)) (Below.size k7)) (Below.size k8)) (Below.size k9)) (Below.size k10)) (Below.size k11)) (Below.size k12)) (Below.size k13)) (Below.size k14)) (Below.size k15)) (Below.size k16)) (Below.size k17)) (Below.size k18)))) (Only.below y20 (Nat.le_trans (Nat.le_trans (Nat.le_trans (Nat.le_trans (Nat.le_trans (Nat.le_trans (Nat.le_trans (Nat.le_trans (Below.size k1) (Below.size k2)) (Below.size k3)) (Below.size k4)) (Below.size k5)) (Below.size k6)) (Below.size k7)) (Below.size k8)) (Below.size k9)) (Nat.le_trans (Nat.le_trans (Nat.le_trans (Nat.le_trans (Nat.le_trans (Nat.le_trans (Nat.le_trans (Nat.le_trans (Nat.le_trans (Nat.le_trans (Nat.le_trans (Nat.le_trans (Nat.le_trans (Nat.le_trans (Nat.le_trans (Nat.le_trans (Nat.le_trans (Nat.le_trans (Below.size k1) (Below.size k2)) (Below.size k3)) (Below.size k4)) (Below.size k5)) (Below.size k6)) (Below.size k7)) (Below.size k8)) (Below.size k9)) (Below.size k10)) (Below.size k11)) (Below.size k12)) (Below.size k13)) (Below.size k14)) (Below.size k15)) (Below.size k16)) (Below.size k17)) (Below.size k18)) (Only.size y19)))) (Below.mono k21 (Nat.le_trans (Nat.le_trans (Nat.le_trans (Nat.le_trans (Nat.le_trans (Nat.le_trans (Nat.le_trans (Nat.le_trans (Nat.le_trans (Nat.le_trans (Nat.le_trans (Nat.le_trans (Nat.le_trans (Nat.le_trans (Nat.le_trans (Nat.le_trans (Nat.le_trans (Nat.le_trans (Nat.le_trans (Below.size k1) (Below.size k2)) (Below.size k3)) (Below.size k4)) (Below.size k5)) (Below.size k6)) (Below.size k7)) (Below.size k8)) (Below.size k9)) (Below.size k10)) (Below.size k11)) (Below.size k12)) (Below.size k13)) (Below.size k14)) (Below.size k15)) (Below.size k16)) (Below.size k17)) (Below.size k18)) (Only.size y19)) (Only.size y20)))) (Only.below y22 (Nat.le_trans (Nat.le_trans (Nat.le_trans (Nat.le_trans (Nat.le_trans (Nat.le_trans (Nat.le_trans (Nat.le_trans (Nat.le_trans (Below.size k1) (Below.size k2)) (Below.size k3)) (Below.size k4)) (Below.size k5)) (Below.size k6)) (Below.size k7)) (Below.size k8)) (Below.size k9)) (Below.size k10)) (Nat.le_trans (Nat.le_trans (Nat.le_trans (Nat.le_trans (Nat.le_trans (Nat.le_trans (Nat.le_trans (Nat.le_trans (Nat.le_trans (Nat.le_trans (Nat.le_trans (Nat.le_trans (Nat.le_trans (Nat.le_trans (Nat.le_trans (Nat.le_trans (Nat.le_trans (Nat.le_trans (Nat.le_trans (Nat.le_trans (Below.size k1) (Below.size k2)) (Below.size k3)) (Below.size k4)) (Below.size k5)) (Below.size k6)) (Below.size k7)) (Below.size k8)) (Below.size k9)) (Below.size k10)) (Below.size k11)) (Below.size k12)) (Below.size k13)) (Below.size k14)) (Below.size k15)) (Below.size k16)) (Below.size k17)) (Below.size k18)) (Only.size y19)) (Only.size y20)) (Below.size k21)))) (Below.mono (Keeps.tr (Keeps.tr (Keeps.tr (Keeps.tr (Keeps.tr (Keeps.tr k23 k24) k25) k26) k27) k28) k29) (Nat.le_trans (Nat.le_trans (Nat.le_trans (Nat.le_trans (Nat.le_trans (Nat.le_trans (Nat.le_trans (Nat.le_trans (Nat.le_trans (Nat.le_trans (Nat.le_trans (Nat.le_trans (Nat.le_trans (Nat.le_trans (Nat.le_trans (Nat.le_trans (Nat.le_trans (Nat.le_trans (Nat.le_trans (Nat.le_trans (Nat.le_trans (Below.size k1) (Below.size k2)) (Below.size k3)) (Below.size k4)) (Below.size k5)) (Below.size k6)) (Below.size k7)) (Below.size k8)) (Below.size k9)) (Below.size k10)) (Below.size k11)) (Below.size k12)) (Below.size k13)) (Below.size k14)) (Below.size k15)) (Below.size k16)) (Below.size k17)) (Below.size k18)) (Only.size y19)) (Only.size y20)) (Below.size k21)) (Only.size y22))))⟩

end Go.Proofs.YtilgmdgipeimaaaDoor
