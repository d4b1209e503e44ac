/-
  The law FnExactSnapDone: its walk, out of the contracts.
-/
import Derived.Test.YtilgmdgipeimaaaEvSnap
import Derived.Test.YtilgmdgipeimaaaSnap
import Derived.Test.YtilgmdgipeimaaaIval
namespace Go.Proofs.Ytilgmdgipeimaaa
set_option maxRecDepth 100000
set_option linter.unusedVariables false
set_option linter.unusedSimpArgs false
open Go.RowKit

set_option maxHeartbeats 4000000 in
theorem law_SnapDone (r_aS : ByteArray) (c_aS : Int) (vh_aS vg_aS : Value) (lh_aS : List ByteArray) (lg_aS : List Bool) (w : World) (ha_aS : RdS w w.heap.size 1 cStr vh_aS lh_aS) (hb_aS : RdS w w.heap.size 1 cBool vg_aS lg_aS) (oka_aS : ∀ x ∈ lh_aS, okString x) (okb_aS : ∀ x ∈ lg_aS, okBool x) (nr_aS : r_aS.size ≤ 9223372036854775807) (na_aS : lh_aS.length ≤ 9223372036854775807) (nb_aS : lg_aS.length ≤ 9223372036854775807) :
    Calls Try.prog 5 #[.agg #[.string r_aS, .int .i64 c_aS, vh_aS, vg_aS]] w (SaysB true w) := by
  obtain ⟨Aa_aS, ca_aS, rfl⟩ := ha_aS.shape
  obtain ⟨Ab_aS, cb_aS, rfl⟩ := hb_aS.shape
  go_enter Try.func5, Try.ntmps5
  go_wp2_with fail
  have k1 : Keeps w (w.alloc (.cells #[.string r_aS, .int .i64 c_aS, (.slice Aa_aS lh_aS.length ca_aS), (.slice Ab_aS lg_aS.length cb_aS)] 31)) := Below.alloc (Below.refl _ _) (Nat.le_refl _) _
  have bx1 : BoxAt (w.alloc (.cells #[.string r_aS, .int .i64 c_aS, (.slice Aa_aS lh_aS.length ca_aS), (.slice Ab_aS lg_aS.length cb_aS)] 31)) w.heap.size [.string r_aS, .int .i64 c_aS, (.slice Aa_aS lh_aS.length ca_aS), (.slice Ab_aS lg_aS.length cb_aS)] := BoxAt.new _ _ _
  have bl1 : w.heap.size < (w.alloc (.cells #[.string r_aS, .int .i64 c_aS, (.slice Aa_aS lh_aS.length ca_aS), (.slice Ab_aS lg_aS.length cb_aS)] 31)).heap.size := by simp
  generalize w.alloc (.cells #[.string r_aS, .int .i64 c_aS, (.slice Aa_aS lh_aS.length ca_aS), (.slice Ab_aS lg_aS.length cb_aS)] 31) = w1 at *
  refine (szSnap_any r_aS c_aS (.slice Aa_aS lh_aS.length ca_aS) (.slice Ab_aS lg_aS.length cb_aS) lh_aS lg_aS _ _ (RdS.more (RdS.kp ha_aS k1 (Nat.le_refl _)) (Below.size k1)) (RdS.more (RdS.kp hb_aS k1 (Nat.le_refl _)) (Below.size k1)) oka_aS okb_aS nr_aS (by omega) (by omega) na_aS nb_aS).mono ?_
  rintro e w2 ⟨r2, rfl, k2, ra2, rb2, rc2⟩
  have k2 : Keeps w1 w2 := k2
  by_cases neg2 : r2 < 0
  · go_wp2_with fail
    go_ret
    exact ⟨rfl, (Keeps.tr k1 k2)⟩
  have La_aS : lh_aS.length ≤ 1048576 ∧ lg_aS.length ≤ 1048576 ∧ r_aS.size ≤ 1048576 := by have h1 := rc2 (by omega); have h2 := strsTot_ge lh_aS; omega
  have Lt_aS : (lh_aS.map ByteArray.size).sum ≤ 1048576 := by have h1 := rc2 (by omega); unfold strsTot at h1; omega
  obtain ⟨La_aS, Lb_aS, Lr_aS⟩ := La_aS
  clear rc2
  have cb1 := (BoxAt.kp bx1 k2)
  have cb1_0 := cb1.2 0 _ rfl
  have cb1_1 := cb1.2 1 _ rfl
  have cb1_2 := cb1.2 2 _ rfl
  have cb1_3 := cb1.2 3 _ rfl
  have cb1_s := cb1.1
  clear cb1
  go_wp2_with fail
  clear cb1_0 cb1_1 cb1_2 cb1_3 cb1_s
  refine (toSnap_any r_aS c_aS (.slice Aa_aS lh_aS.length ca_aS) (.slice Ab_aS lg_aS.length cb_aS) lh_aS lg_aS _ (RdS.more (RdS.kp ha_aS (Keeps.tr k1 k2) (Nat.le_refl _)) (Nat.le_trans (Below.size k1) (Below.size k2))) (RdS.more (RdS.kp hb_aS (Keeps.tr k1 k2) (Nat.le_refl _)) (Nat.le_trans (Below.size k1) (Below.size k2))) (by omega) (by omega)).mono ?_
  rintro e w3 ⟨vh3, vg3, rfl, o3, k3⟩
  have k3 : Keeps w2 w3 := k3
  obtain ⟨Aa3, ca3, rfl⟩ := TwoI.shape1 o3
  obtain ⟨Ab3, cb3, rfl⟩ := TwoI.shape2 o3
  have cb2 := (BoxAt.kp bx1 (Keeps.tr k2 k3))
  have cb2_0 := cb2.2 0 _ rfl
  have cb2_1 := cb2.2 1 _ rfl
  have cb2_2 := cb2.2 2 _ rfl
  have cb2_3 := cb2.2 3 _ rfl
  have cb2_s := cb2.1
  clear cb2
  go_wp2_with fail
  clear cb2_0 cb2_1 cb2_2 cb2_3 cb2_s
  refine (done_spec (s := (r_aS, c_aS, lh_aS, lg_aS)) (TwoI.rd1 o3) (TwoI.rd2 o3) (by omega) (by omega) (by omega) Lt_aS).mono ?_
  rintro e w4 ⟨rfl, k4⟩
  have k4 : Keeps w3 w4 := k4
  have cb3 := (BoxAt.kp bx1 (Keeps.tr (Keeps.tr k2 k3) k4))
  have cb3_0 := cb3.2 0 _ rfl
  have cb3_1 := cb3.2 1 _ rfl
  have cb3_2 := cb3.2 2 _ rfl
  have cb3_3 := cb3.2 3 _ rfl
  have cb3_s := cb3.1
  clear cb3
  go_wp2_with fail
  clear cb3_0 cb3_1 cb3_2 cb3_3 cb3_s
  refine (toSnap_any r_aS c_aS (.slice Aa_aS lh_aS.length ca_aS) (.slice Ab_aS lg_aS.length cb_aS) lh_aS lg_aS _ (RdS.more (RdS.kp ha_aS (Keeps.tr (Keeps.tr (Keeps.tr k1 k2) k3) k4) (Nat.le_refl _)) (Nat.le_trans (Nat.le_trans (Nat.le_trans (Below.size k1) (Below.size k2)) (Below.size k3)) (Below.size k4))) (RdS.more (RdS.kp hb_aS (Keeps.tr (Keeps.tr (Keeps.tr k1 k2) k3) k4) (Nat.le_refl _)) (Nat.le_trans (Nat.le_trans (Nat.le_trans (Below.size k1) (Below.size k2)) (Below.size k3)) (Below.size k4))) (by omega) (by omega)).mono ?_
  rintro e w5 ⟨vh5, vg5, rfl, o5, k5⟩
  have k5 : Keeps w4 w5 := k5
  obtain ⟨Aa5, ca5, rfl⟩ := TwoI.shape1 o5
  obtain ⟨Ab5, cb5, rfl⟩ := TwoI.shape2 o5
  go_wp2_with fail
  have k6 : Keeps w5 (w5.alloc (.cells #[.string r_aS, .int .i64 c_aS, (.slice Aa5 lh_aS.length ca5), (.slice Ab5 lg_aS.length cb5)] 25)) := Below.alloc (Below.refl _ _) (Nat.le_refl _) _
  have bx6 : BoxAt (w5.alloc (.cells #[.string r_aS, .int .i64 c_aS, (.slice Aa5 lh_aS.length ca5), (.slice Ab5 lg_aS.length cb5)] 25)) w5.heap.size [.string r_aS, .int .i64 c_aS, (.slice Aa5 lh_aS.length ca5), (.slice Ab5 lg_aS.length cb5)] := BoxAt.new _ _ _
  have bl6 : w5.heap.size < (w5.alloc (.cells #[.string r_aS, .int .i64 c_aS, (.slice Aa5 lh_aS.length ca5), (.slice Ab5 lg_aS.length cb5)] 25)).heap.size := by simp
  generalize w5.alloc (.cells #[.string r_aS, .int .i64 c_aS, (.slice Aa5 lh_aS.length ca5), (.slice Ab5 lg_aS.length cb5)] 25) = w6 at *
  refine (done_impl (s := (r_aS, c_aS, lh_aS, lg_aS)) (TwoI.rd1 (TwoI.kp o5 k6)) (TwoI.rd2 (TwoI.kp o5 k6)) (by omega) (by omega) (by omega) Lt_aS).mono ?_
  rintro e w7 ⟨rfl, k7⟩
  have k7 : Keeps w6 w7 := k7
  go_wp2_with fail
  have k8 : Keeps w7 w7.drew := (QW.refl _).drew.keeps
  have cB4 := (BoxAt.kp bx6 (Keeps.tr k7 k8))
  have cB5 := (BoxAt.kp bx1 (Keeps.tr (Keeps.tr (Keeps.tr (Keeps.tr (Keeps.tr (Keeps.tr k2 k3) k4) k5) k6) k7) k8))
  go_region_held3 (fun w' => Keeps w7.drew w' ∧ w'.cell? ⟨w5.heap.size, 0, none⟩ = some (.string r_aS) ∧ w'.cell? ⟨w5.heap.size, 1, none⟩ = some (.int .i64 c_aS) ∧ w'.cell? ⟨w5.heap.size, 2, none⟩ = some ((.slice Aa5 lh_aS.length ca5)) ∧ w'.cell? ⟨w5.heap.size, 3, none⟩ = some ((.slice Ab5 lg_aS.length cb5)) ∧ w'.cell? ⟨w.heap.size, 0, none⟩ = some (.string r_aS) ∧ w'.cell? ⟨w.heap.size, 1, none⟩ = some (.int .i64 c_aS) ∧ w'.cell? ⟨w.heap.size, 2, none⟩ = some ((.slice Aa_aS lh_aS.length ca_aS)) ∧ w'.cell? ⟨w.heap.size, 3, none⟩ = some ((.slice Ab_aS lg_aS.length cb_aS))) (first | exact ⟨Keeps.refl _, cB4.2 0 _ rfl, cB4.2 1 _ rfl, cB4.2 2 _ rfl, cB4.2 3 _ rfl, cB5.2 0 _ rfl, cB5.2 1 _ rfl, cB5.2 2 _ rfl, cB5.2 3 _ rfl⟩ | exact ⟨k9, (BoxAt.kp cB4 k9).2 0 _ rfl, (BoxAt.kp cB4 k9).2 1 _ rfl, (BoxAt.kp cB4 k9).2 2 _ rfl, (BoxAt.kp cB4 k9).2 3 _ rfl, (BoxAt.kp cB5 k9).2 0 _ rfl, (BoxAt.kp cB5 k9).2 1 _ rfl, (BoxAt.kp cB5 k9).2 2 _ rfl, (BoxAt.kp cB5 k9).2 3 _ rfl⟩ | exact ⟨Keeps.tr k9 k10, (BoxAt.kp cB4 (Keeps.tr k9 k10)).2 0 _ rfl, (BoxAt.kp cB4 (Keeps.tr k9 k10)).2 1 _ rfl, (BoxAt.kp cB4 (Keeps.tr k9 k10)).2 2 _ rfl, (BoxAt.kp cB4 (Keeps.tr k9 k10)).2 3 _ rfl, (BoxAt.kp cB5 (Keeps.tr k9 k10)).2 0 _ rfl, (BoxAt.kp cB5 (Keeps.tr k9 k10)).2 1 _ rfl, (BoxAt.kp cB5 (Keeps.tr k9 k10)).2 2 _ rfl, (BoxAt.kp cB5 (Keeps.tr k9 k10)).2 3 _ rfl⟩)
    (first
      | (go_at_call 14; refine (toSnap_any r_aS c_aS (.slice Aa_aS lh_aS.length ca_aS) (.slice Ab_aS lg_aS.length cb_aS) lh_aS lg_aS _ (RdS.more (RdS.kp ha_aS (Keeps.tr (Keeps.tr (Keeps.tr (Keeps.tr (Keeps.tr (Keeps.tr (Keeps.tr k1 k2) k3) k4) k5) k6) k7) k8) (Nat.le_refl _)) (Nat.le_trans (Nat.le_trans (Nat.le_trans (Nat.le_trans (Nat.le_trans (Nat.le_trans (Nat.le_trans (Below.size k1) (Below.size k2)) (Below.size k3)) (Below.size k4)) (Below.size k5)) (Below.size k6)) (Below.size k7)) (Below.size k8))) (RdS.more (RdS.kp hb_aS (Keeps.tr (Keeps.tr (Keeps.tr (Keeps.tr (Keeps.tr (Keeps.tr (Keeps.tr k1 k2) k3) k4) k5) k6) k7) k8) (Nat.le_refl _)) (Nat.le_trans (Nat.le_trans (Nat.le_trans (Nat.le_trans (Nat.le_trans (Nat.le_trans (Nat.le_trans (Below.size k1) (Below.size k2)) (Below.size k3)) (Below.size k4)) (Below.size k5)) (Below.size k6)) (Below.size k7)) (Below.size k8))) (by omega) (by omega)).mono ?_; rintro e w9 ⟨vh9, vg9, rfl, o9, k9⟩; have k9 : Keeps w7.drew w9 := k9; obtain ⟨Aa9, ca9, rfl⟩ := TwoI.shape1 o9; obtain ⟨Ab9, cb9, rfl⟩ := TwoI.shape2 o9)
      | (go_at_call 9; refine (eqSnap_same r_aS c_aS (.slice Aa5 lh_aS.length ca5) (.slice Ab5 lg_aS.length cb5) (.slice Aa9 lh_aS.length ca9) (.slice Ab9 lg_aS.length cb9) lh_aS lg_aS _ (TwoI.rd1 (TwoI.kp o5 (Keeps.tr (Keeps.tr (Keeps.tr k6 k7) k8) k9))) (TwoI.rd2 (TwoI.kp o5 (Keeps.tr (Keeps.tr (Keeps.tr k6 k7) k8) k9))) (TwoI.rd1 o9) (TwoI.rd2 o9) (by omega) (by omega)).mono ?_; rintro e w10 ⟨rfl, k10⟩; have k10 : Keeps w9 w10 := k10))
  go_wp2_with fail
  go_ret
  exact ⟨rfl, (Keeps.tr (Keeps.tr (Keeps.tr (Keeps.tr (Keeps.tr (Keeps.tr (Keeps.tr (Keeps.tr (Keeps.tr k1 k2) k3) k4) k5) k6) k7) k8) k9) k10)⟩

end Go.Proofs.Ytilgmdgipeimaaa
