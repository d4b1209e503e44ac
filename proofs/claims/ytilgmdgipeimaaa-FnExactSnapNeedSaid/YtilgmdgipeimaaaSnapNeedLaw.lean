/-
  The law FnExactSnapNeed: its walk, out of the contracts.
-/
import Derived.Test.YtilgmdgipeimaaaEvSnap
import Derived.Test.YtilgmdgipeimaaaSnap
import Derived.Test.YtilgmdgipeimaaaMarkInt
import Derived.Test.YtilgmdgipeimaaaOneInt
import Derived.Test.YtilgmdgipeimaaaIval
namespace Go.Proofs.Ytilgmdgipeimaaa
set_option maxRecDepth 100000
set_option linter.unusedVariables false
set_option linter.unusedSimpArgs false
open Go.RowKit

set_option maxHeartbeats 4000000 in
theorem law_SnapNeed (r_aS : ByteArray) (c_aS : Int) (vh_aS vg_aS : Value) (lh_aS : List ByteArray) (lg_aS : List Bool) (w : World) (ha_aS : RdS w w.heap.size 1 cStr vh_aS lh_aS) (hb_aS : RdS w w.heap.size 1 cBool vg_aS lg_aS) (oka_aS : ∀ x ∈ lh_aS, okString x) (okb_aS : ∀ x ∈ lg_aS, okBool x) (nr_aS : r_aS.size ≤ 9223372036854775807) (na_aS : lh_aS.length ≤ 9223372036854775807) (nb_aS : lg_aS.length ≤ 9223372036854775807) :
    Calls Try.prog 6 #[.agg #[.string r_aS, .int .i64 c_aS, vh_aS, vg_aS]] w (SaysB true w) := by
  obtain ⟨Aa_aS, ca_aS, rfl⟩ := ha_aS.shape
  obtain ⟨Ab_aS, cb_aS, rfl⟩ := hb_aS.shape
  go_enter Try.func6, Try.ntmps6
  go_wp2_with fail
  have k1 : Keeps w (w.alloc (.cells #[.string r_aS, .int .i64 c_aS, (.slice Aa_aS lh_aS.length ca_aS), (.slice Ab_aS lg_aS.length cb_aS)] 31)) := Below.alloc (Below.refl _ _) (Nat.le_refl _) _
  have bx1 : BoxAt (w.alloc (.cells #[.string r_aS, .int .i64 c_aS, (.slice Aa_aS lh_aS.length ca_aS), (.slice Ab_aS lg_aS.length cb_aS)] 31)) w.heap.size [.string r_aS, .int .i64 c_aS, (.slice Aa_aS lh_aS.length ca_aS), (.slice Ab_aS lg_aS.length cb_aS)] := BoxAt.new _ _ _
  have bl1 : w.heap.size < (w.alloc (.cells #[.string r_aS, .int .i64 c_aS, (.slice Aa_aS lh_aS.length ca_aS), (.slice Ab_aS lg_aS.length cb_aS)] 31)).heap.size := by simp
  generalize w.alloc (.cells #[.string r_aS, .int .i64 c_aS, (.slice Aa_aS lh_aS.length ca_aS), (.slice Ab_aS lg_aS.length cb_aS)] 31) = w1 at *
  refine (szSnap_any r_aS c_aS (.slice Aa_aS lh_aS.length ca_aS) (.slice Ab_aS lg_aS.length cb_aS) lh_aS lg_aS _ _ (RdS.more (RdS.kp ha_aS k1 (Nat.le_refl _)) (Below.size k1)) (RdS.more (RdS.kp hb_aS k1 (Nat.le_refl _)) (Below.size k1)) oka_aS okb_aS nr_aS (by omega) (by omega) na_aS nb_aS).mono ?_
  rintro e w2 ⟨r2, rfl, k2, ra2, rb2, rc2⟩
  have k2 : Keeps w1 w2 := k2
  by_cases neg2 : r2 < 0
  · go_wp2_with fail
    go_ret
    exact ⟨rfl, (Keeps.tr k1 k2)⟩
  have La_aS : lh_aS.length ≤ 1048576 ∧ lg_aS.length ≤ 1048576 ∧ r_aS.size ≤ 1048576 := by have h1 := rc2 (by omega); have h2 := strsTot_ge lh_aS; omega
  have Lt_aS : (lh_aS.map ByteArray.size).sum ≤ 1048576 := by have h1 := rc2 (by omega); unfold strsTot at h1; omega
  obtain ⟨La_aS, Lb_aS, Lr_aS⟩ := La_aS
  clear rc2
  have cb1 := (BoxAt.kp bx1 k2)
  have cb1_0 := cb1.2 0 _ rfl
  have cb1_1 := cb1.2 1 _ rfl
  have cb1_2 := cb1.2 2 _ rfl
  have cb1_3 := cb1.2 3 _ rfl
  have cb1_s := cb1.1
  clear cb1
  go_wp2_with fail
  clear cb1_0 cb1_1 cb1_2 cb1_3 cb1_s
  refine (toSnap_any r_aS c_aS (.slice Aa_aS lh_aS.length ca_aS) (.slice Ab_aS lg_aS.length cb_aS) lh_aS lg_aS _ (RdS.more (RdS.kp ha_aS (Keeps.tr k1 k2) (Nat.le_refl _)) (Nat.le_trans (Below.size k1) (Below.size k2))) (RdS.more (RdS.kp hb_aS (Keeps.tr k1 k2) (Nat.le_refl _)) (Nat.le_trans (Below.size k1) (Below.size k2))) (by omega) (by omega)).mono ?_
  rintro e w3 ⟨vh3, vg3, rfl, o3, k3⟩
  have k3 : Keeps w2 w3 := k3
  obtain ⟨Aa3, ca3, rfl⟩ := TwoI.shape1 o3
  obtain ⟨Ab3, cb3, rfl⟩ := TwoI.shape2 o3
  have cb2 := (BoxAt.kp bx1 (Keeps.tr k2 k3))
  have cb2_0 := cb2.2 0 _ rfl
  have cb2_1 := cb2.2 1 _ rfl
  have cb2_2 := cb2.2 2 _ rfl
  have cb2_3 := cb2.2 3 _ rfl
  have cb2_s := cb2.1
  clear cb2
  go_wp2_with fail
  clear cb2_0 cb2_1 cb2_2 cb2_3 cb2_s
  refine (need_spec (s := (r_aS, c_aS, lh_aS, lg_aS)) (TwoI.rd1 o3) (TwoI.rd2 o3) (by omega) (by omega) (by omega)).mono ?_
  rintro e w4 ⟨x4, rfl, n4, k4⟩
  have k4 : Keeps w3 w4 := k4
  have o4 := OwnI.of_new n4
  clear n4
  have hB10 := needL_le (r_aS, c_aS, lh_aS, lg_aS)
  have cb3 := (BoxAt.kp bx1 (Keeps.tr (Keeps.tr k2 k3) k4))
  have cb3_0 := cb3.2 0 _ rfl
  have cb3_1 := cb3.2 1 _ rfl
  have cb3_2 := cb3.2 2 _ rfl
  have cb3_3 := cb3.2 3 _ rfl
  have cb3_s := cb3.1
  clear cb3
  go_wp2_with fail
  clear cb3_0 cb3_1 cb3_2 cb3_3 cb3_s
  refine (toSnap_any r_aS c_aS (.slice Aa_aS lh_aS.length ca_aS) (.slice Ab_aS lg_aS.length cb_aS) lh_aS lg_aS _ (RdS.more (RdS.kp ha_aS (Keeps.tr (Keeps.tr (Keeps.tr k1 k2) k3) k4) (Nat.le_refl _)) (Nat.le_trans (Nat.le_trans (Nat.le_trans (Below.size k1) (Below.size k2)) (Below.size k3)) (Below.size k4))) (RdS.more (RdS.kp hb_aS (Keeps.tr (Keeps.tr (Keeps.tr k1 k2) k3) k4) (Nat.le_refl _)) (Nat.le_trans (Nat.le_trans (Nat.le_trans (Below.size k1) (Below.size k2)) (Below.size k3)) (Below.size k4))) (by omega) (by omega)).mono ?_
  rintro e w5 ⟨vh5, vg5, rfl, o5, k5⟩
  have k5 : Keeps w4 w5 := k5
  obtain ⟨Aa5, ca5, rfl⟩ := TwoI.shape1 o5
  obtain ⟨Ab5, cb5, rfl⟩ := TwoI.shape2 o5
  go_wp2_with fail
  have k6 : Keeps w5 (w5.alloc (.cells #[.string r_aS, .int .i64 c_aS, (.slice Aa5 lh_aS.length ca5), (.slice Ab5 lg_aS.length cb5)] 25)) := Below.alloc (Below.refl _ _) (Nat.le_refl _) _
  have bx6 : BoxAt (w5.alloc (.cells #[.string r_aS, .int .i64 c_aS, (.slice Aa5 lh_aS.length ca5), (.slice Ab5 lg_aS.length cb5)] 25)) w5.heap.size [.string r_aS, .int .i64 c_aS, (.slice Aa5 lh_aS.length ca5), (.slice Ab5 lg_aS.length cb5)] := BoxAt.new _ _ _
  have bl6 : w5.heap.size < (w5.alloc (.cells #[.string r_aS, .int .i64 c_aS, (.slice Aa5 lh_aS.length ca5), (.slice Ab5 lg_aS.length cb5)] 25)).heap.size := by simp
  generalize w5.alloc (.cells #[.string r_aS, .int .i64 c_aS, (.slice Aa5 lh_aS.length ca5), (.slice Ab5 lg_aS.length cb5)] 25) = w6 at *
  refine (need_impl (s := (r_aS, c_aS, lh_aS, lg_aS)) (TwoI.rd1 (TwoI.kp o5 k6)) (TwoI.rd2 (TwoI.kp o5 k6)) (by omega) (by omega) (by omega)).mono ?_
  rintro e w7 ⟨x7, rfl, n7, k7⟩
  have k7 : Keeps w6 w7 := k7
  have o7 := OwnI.of_new n7
  clear n7
  have hB20 := needL_le (r_aS, c_aS, lh_aS, lg_aS)
  go_wp2_with fail
  refine (eqIntS_any x7 x4 (needL (r_aS, c_aS, lh_aS, lg_aS)) (needL (r_aS, c_aS, lh_aS, lg_aS)) _ (OwnI.rd o7) (OwnI.rd (OwnI.kp o4 (Keeps.tr (Keeps.tr k5 k6) k7))) (by omega) (by omega)).mono ?_
  rintro e w8 ⟨rfl, k8⟩
  have k8 : Keeps w7 w8 := k8
  go_wp2_with fail
  have k9 : Keeps w8 w8.drew := (QW.refl _).drew.keeps
  have cB4 := (BoxAt.kp bx6 (Keeps.tr (Keeps.tr k7 k8) k9))
  have cB5 := (BoxAt.kp bx1 (Keeps.tr (Keeps.tr (Keeps.tr (Keeps.tr (Keeps.tr (Keeps.tr (Keeps.tr k2 k3) k4) k5) k6) k7) k8) k9))
  go_region_held3 (fun w' => Keeps w8.drew w' ∧ w'.cell? ⟨w5.heap.size, 0, none⟩ = some (.string r_aS) ∧ w'.cell? ⟨w5.heap.size, 1, none⟩ = some (.int .i64 c_aS) ∧ w'.cell? ⟨w5.heap.size, 2, none⟩ = some ((.slice Aa5 lh_aS.length ca5)) ∧ w'.cell? ⟨w5.heap.size, 3, none⟩ = some ((.slice Ab5 lg_aS.length cb5)) ∧ w'.cell? ⟨w.heap.size, 0, none⟩ = some (.string r_aS) ∧ w'.cell? ⟨w.heap.size, 1, none⟩ = some (.int .i64 c_aS) ∧ w'.cell? ⟨w.heap.size, 2, none⟩ = some ((.slice Aa_aS lh_aS.length ca_aS)) ∧ w'.cell? ⟨w.heap.size, 3, none⟩ = some ((.slice Ab_aS lg_aS.length cb_aS))) (first | exact ⟨Keeps.refl _, cB4.2 0 _ rfl, cB4.2 1 _ rfl, cB4.2 2 _ rfl, cB4.2 3 _ rfl, cB5.2 0 _ rfl, cB5.2 1 _ rfl, cB5.2 2 _ rfl, cB5.2 3 _ rfl⟩ | exact ⟨k10, (BoxAt.kp cB4 k10).2 0 _ rfl, (BoxAt.kp cB4 k10).2 1 _ rfl, (BoxAt.kp cB4 k10).2 2 _ rfl, (BoxAt.kp cB4 k10).2 3 _ rfl, (BoxAt.kp cB5 k10).2 0 _ rfl, (BoxAt.kp cB5 k10).2 1 _ rfl, (BoxAt.kp cB5 k10).2 2 _ rfl, (BoxAt.kp cB5 k10).2 3 _ rfl⟩ | exact ⟨Keeps.tr k10 k11, (BoxAt.kp cB4 (Keeps.tr k10 k11)).2 0 _ rfl, (BoxAt.kp cB4 (Keeps.tr k10 k11)).2 1 _ rfl, (BoxAt.kp cB4 (Keeps.tr k10 k11)).2 2 _ rfl, (BoxAt.kp cB4 (Keeps.tr k10 k11)).2 3 _ rfl, (BoxAt.kp cB5 (Keeps.tr k10 k11)).2 0 _ rfl, (BoxAt.kp cB5 (Keeps.tr k10 k11)).2 1 _ rfl, (BoxAt.kp cB5 (Keeps.tr k10 k11)).2 2 _ rfl, (BoxAt.kp cB5 (Keeps.tr k10 k11)).2 3 _ rfl⟩)
    (first
      | (go_at_call 14; refine (toSnap_any r_aS c_aS (.slice Aa_aS lh_aS.length ca_aS) (.slice Ab_aS lg_aS.length cb_aS) lh_aS lg_aS _ (RdS.more (RdS.kp ha_aS (Keeps.tr (Keeps.tr (Keeps.tr (Keeps.tr (Keeps.tr (Keeps.tr (Keeps.tr (Keeps.tr k1 k2) k3) k4) k5) k6) k7) k8) k9) (Nat.le_refl _)) (Nat.le_trans (Nat.le_trans (Nat.le_trans (Nat.le_trans (Nat.le_trans (Nat.le_trans (Nat.le_trans (Nat.le_trans (Below.size k1) (Below.size k2)) (Below.size k3)) (Below.size k4)) (Below.size k5)) (Below.size k6)) (Below.size k7)) (Below.size k8)) (Below.size k9))) (RdS.more (RdS.kp hb_aS (Keeps.tr (Keeps.tr (Keeps.tr (Keeps.tr (Keeps.tr (Keeps.tr (Keeps.tr (Keeps.tr k1 k2) k3) k4) k5) k6) k7) k8) k9) (Nat.le_refl _)) (Nat.le_trans (Nat.le_trans (Nat.le_trans (Nat.le_trans (Nat.le_trans (Nat.le_trans (Nat.le_trans (Nat.le_trans (Below.size k1) (Below.size k2)) (Below.size k3)) (Below.size k4)) (Below.size k5)) (Below.size k6)) (Below.size k7)) (Below.size k8)) (Below.size k9))) (by omega) (by omega)).mono ?_; rintro e w10 ⟨vh10, vg10, rfl, o10, k10⟩; have k10 : Keeps w8.drew w10 := k10; obtain ⟨Aa10, ca10, rfl⟩ := TwoI.shape1 o10; obtain ⟨Ab10, cb10, rfl⟩ := TwoI.shape2 o10)
      | (go_at_call 9; refine (eqSnap_same r_aS c_aS (.slice Aa5 lh_aS.length ca5) (.slice Ab5 lg_aS.length cb5) (.slice Aa10 lh_aS.length ca10) (.slice Ab10 lg_aS.length cb10) lh_aS lg_aS _ (TwoI.rd1 (TwoI.kp o5 (Keeps.tr (Keeps.tr (Keeps.tr (Keeps.tr k6 k7) k8) k9) k10))) (TwoI.rd2 (TwoI.kp o5 (Keeps.tr (Keeps.tr (Keeps.tr (Keeps.tr k6 k7) k8) k9) k10))) (TwoI.rd1 o10) (TwoI.rd2 o10) (by omega) (by omega)).mono ?_; rintro e w11 ⟨rfl, k11⟩; have k11 : Keeps w10 w11 := k11))
  obtain ⟨m1, em1⟩ : ∃ m : Nat, m = 1 + 1 * lh_aS.length := ⟨_, rfl⟩
  have EM1 := Lib.hid em1
  have bm1 : 0 < m1 ∧ m1 ≤ 1048577 := by omega
  clear em1
  obtain ⟨m2, em2⟩ : ∃ m : Nat, m = m1 + 1 * lg_aS.length := ⟨_, rfl⟩
  have EM2 := Lib.hid em2
  have bm2 : 0 < m2 ∧ m2 ≤ 2097153 := by omega
  clear em2
  have cb6 := (BoxAt.kp bx6 (Keeps.tr (Keeps.tr (Keeps.tr (Keeps.tr k7 k8) k9) k10) k11))
  have cb6_0 := cb6.2 0 _ rfl
  have cb6_1 := cb6.2 1 _ rfl
  have cb6_2 := cb6.2 2 _ rfl
  have cb6_3 := cb6.2 3 _ rfl
  have cb6_s := cb6.1
  clear cb6
  go_wp2_with fail
  clear cb6_0 cb6_1 cb6_2 cb6_3 cb6_s
  refine (markSnap_at r_aS c_aS (.slice Aa5 lh_aS.length ca5) (.slice Ab5 lg_aS.length cb5) lh_aS lg_aS 1 _ m1 m2 _ _ _ (TwoI.kp o5 (Keeps.tr (Keeps.tr (Keeps.tr (Keeps.tr (Keeps.tr k6 k7) k8) k9) k10) k11)) (Nat.le_trans (Nat.le_trans (Nat.le_trans (Nat.le_trans (Nat.le_trans (Below.size k6) (Below.size k7)) (Below.size k8)) (Below.size k9)) (Below.size k10)) (Below.size k11)) EM1.out EM2.out (by omega) (by omega)).mono ?_
  rintro e w12 ⟨rfl, o12, y12⟩
  go_wp2_with fail
  refine (eqIntS_any x7 x4 (needL (r_aS, c_aS, lh_aS, lg_aS)) (needL (r_aS, c_aS, lh_aS, lg_aS)) _ (OwnI.rd (OwnI.on (OwnI.kp o7 (Keeps.tr (Keeps.tr (Keeps.tr k8 k9) k10) k11)) y12 (.inr (Below.size k6)))) (OwnI.rd (OwnI.on (OwnI.kp o4 (Keeps.tr (Keeps.tr (Keeps.tr (Keeps.tr (Keeps.tr (Keeps.tr k5 k6) k7) k8) k9) k10) k11)) y12 (.inl (Nat.le_refl _)))) (by omega) (by omega)).mono ?_
  rintro e w13 ⟨rfl, k13⟩
  have k13 : Keeps w12 w13 := k13
  obtain ⟨m3, em3⟩ : ∃ m : Nat, m = 1 + 1 * ((needL (r_aS, c_aS, lh_aS, lg_aS))).length := ⟨_, rfl⟩
  have EM3 := Lib.hid em3
  have bm3 : 0 < m3 ∧ m3 ≤ 1048577 := by omega
  clear em3
  go_wp2_with fail
  refine (markIntS_at x7 (needL (r_aS, c_aS, lh_aS, lg_aS)) 1 _ m3 _ _ _ (OwnI.kp (OwnI.on (OwnI.kp o7 (Keeps.tr (Keeps.tr (Keeps.tr k8 k9) k10) k11)) y12 (.inr (Below.size k6))) k13) EM3.out (by omega) (by omega)).mono ?_
  rintro e w14 ⟨rfl, o14, y14⟩
  go_wp2_with fail
  refine (heldIntS_at x7 ((needL (r_aS, c_aS, lh_aS, lg_aS))).length 1 _ m3 _ (OwnI.rd o14) EM3.out (by omega) (by omega)).mono ?_
  rintro e w15 ⟨rfl, k15⟩
  have k15 : Keeps w14 w15 := k15
  have cb7 := (BoxAt.kp (BoxAt.on (BoxAt.kp (BoxAt.on (BoxAt.kp bx1 (Keeps.tr (Keeps.tr (Keeps.tr (Keeps.tr (Keeps.tr (Keeps.tr (Keeps.tr (Keeps.tr (Keeps.tr k2 k3) k4) k5) k6) k7) k8) k9) k10) k11)) y12 (.inl (Nat.lt_of_lt_of_le bl1 (Nat.le_trans (Nat.le_trans (Below.size k2) (Below.size k3)) (Below.size k4))))) k13) y14 (.inl (Nat.lt_of_lt_of_le bl1 (Nat.le_trans (Nat.le_trans (Nat.le_trans (Nat.le_trans (Below.size k2) (Below.size k3)) (Below.size k4)) (Below.size k5)) (Below.size k6))))) k15)
  have cb7_0 := cb7.2 0 _ rfl
  have cb7_1 := cb7.2 1 _ rfl
  have cb7_2 := cb7.2 2 _ rfl
  have cb7_3 := cb7.2 3 _ rfl
  have cb7_s := cb7.1
  clear cb7
  go_wp2_with fail
  clear cb7_0 cb7_1 cb7_2 cb7_3 cb7_s
  refine (toSnap_any r_aS c_aS (.slice Aa_aS lh_aS.length ca_aS) (.slice Ab_aS lg_aS.length cb_aS) lh_aS lg_aS _ (RdS.more (RdS.kp (RdS.on (RdS.kp (RdS.on (RdS.kp ha_aS (Keeps.tr (Keeps.tr (Keeps.tr (Keeps.tr (Keeps.tr (Keeps.tr (Keeps.tr (Keeps.tr (Keeps.tr (Keeps.tr k1 k2) k3) k4) k5) k6) k7) k8) k9) k10) k11) (Nat.le_refl _)) y12 (Nat.le_trans (Nat.le_trans (Nat.le_trans (Below.size k1) (Below.size k2)) (Below.size k3)) (Below.size k4)) (Nat.le_trans (Nat.le_trans (Nat.le_trans (Nat.le_trans (Nat.le_trans (Nat.le_trans (Nat.le_trans (Nat.le_trans (Nat.le_trans (Nat.le_trans (Below.size k1) (Below.size k2)) (Below.size k3)) (Below.size k4)) (Below.size k5)) (Below.size k6)) (Below.size k7)) (Below.size k8)) (Below.size k9)) (Below.size k10)) (Below.size k11))) k13 (Nat.le_trans (Nat.le_trans (Nat.le_trans (Nat.le_trans (Nat.le_trans (Nat.le_trans (Nat.le_trans (Nat.le_trans (Nat.le_trans (Nat.le_trans (Nat.le_trans (Below.size k1) (Below.size k2)) (Below.size k3)) (Below.size k4)) (Below.size k5)) (Below.size k6)) (Below.size k7)) (Below.size k8)) (Below.size k9)) (Below.size k10)) (Below.size k11)) (Only.size y12))) y14 (Nat.le_trans (Nat.le_trans (Nat.le_trans (Nat.le_trans (Nat.le_trans (Below.size k1) (Below.size k2)) (Below.size k3)) (Below.size k4)) (Below.size k5)) (Below.size k6)) (Nat.le_trans (Nat.le_trans (Nat.le_trans (Nat.le_trans (Nat.le_trans (Nat.le_trans (Nat.le_trans (Nat.le_trans (Nat.le_trans (Nat.le_trans (Nat.le_trans (Nat.le_trans (Below.size k1) (Below.size k2)) (Below.size k3)) (Below.size k4)) (Below.size k5)) (Below.size k6)) (Below.size k7)) (Below.size k8)) (Below.size k9)) (Below.size k10)) (Below.size k11)) (Only.size y12)) (Below.size k13))) k15 (Nat.le_trans (Nat.le_trans (Nat.le_trans (Nat.le_trans (Nat.le_trans (Nat.le_trans (Nat.le_trans (Nat.le_trans (Nat.le_trans (Nat.le_trans (Nat.le_trans (Nat.le_trans (Nat.le_trans (Below.size k1) (Below.size k2)) (Below.size k3)) (Below.size k4)) (Below.size k5)) (Below.size k6)) (Below.size k7)) (Below.size k8)) (Below.size k9)) (Below.size k10)) (Below.size k11)) (Only.size y12)) (Below.size k13)) (Only.size y14))) (Nat.le_trans (Nat.le_trans (Nat.le_trans (Nat.le_trans (Nat.le_trans (Nat.le_trans (Nat.le_trans (Nat.le_trans (Nat.le_trans (Nat.le_trans (Nat.le_trans (Nat.le_trans (Nat.le_trans (Nat.le_trans (Below.size k1) (Below.size k2)) (Below.size k3)) (Below.size k4)) (Below.size k5)) (Below.size k6)) (Below.size k7)) (Below.size k8)) (Below.size k9)) (Below.size k10)) (Below.size k11)) (Only.size y12)) (Below.size k13)) (Only.size y14)) (Below.size k15))) (RdS.more (RdS.kp (RdS.on (RdS.kp (RdS.on (RdS.kp hb_aS (Keeps.tr (Keeps.tr (Keeps.tr (Keeps.tr (Keeps.tr (Keeps.tr (Keeps.tr (Keeps.tr (Keeps.tr (Keeps.tr k1 k2) k3) k4) k5) k6) k7) k8) k9) k10) k11) (Nat.le_refl _)) y12 (Nat.le_trans (Nat.le_trans (Nat.le_trans (Below.size k1) (Below.size k2)) (Below.size k3)) (Below.size k4)) (Nat.le_trans (Nat.le_trans (Nat.le_trans (Nat.le_trans (Nat.le_trans (Nat.le_trans (Nat.le_trans (Nat.le_trans (Nat.le_trans (Nat.le_trans (Below.size k1) (Below.size k2)) (Below.size k3)) (Below.size k4)) (Below.size k5)) (Below.size k6)) (Below.size k7)) (Below.size k8)) (Below.size k9)) (Below.size k10)) (Below.size k11))) k13 (Nat.le_trans (Nat.le_trans (Nat.le_trans (Nat.le_trans (Nat.le_trans (Nat.le_trans (Nat.le_trans (Nat.le_trans (Nat.le_trans (Nat.le_trans (Nat.le_trans (Below.size k1) (Below.size k2)) (Below.size k3)) (Below.size k4)) (Below.size k5)) (Below.size k6)) (Below.size k7)) (Below.size k8)) (Below.size k9)) (Below.size k10)) (Below.size k11)) (Only.size y12))) y14 (Nat.le_trans (Nat.le_trans (Nat.le_trans (Nat.le_trans (Nat.le_trans (Below.size k1) (Below.size k2)) (Below.size k3)) (Below.size k4)) (Below.size k5)) (Below.size k6)) (Nat.le_trans (Nat.le_trans (Nat.le_trans (Nat.le_trans (Nat.le_trans (Nat.le_trans (Nat.le_trans (Nat.le_trans (Nat.le_trans (Nat.le_trans (Nat.le_trans (Nat.le_trans (Below.size k1) (Below.size k2)) (Below.size k3)) (Below.size k4)) (Below.size k5)) (Below.size k6)) (Below.size k7)) (Below.size k8)) (Below.size k9)) (Below.size k10)) (Below.size k11)) (Only.size y12)) (Below.size k13))) k15 (Nat.le_trans (Nat.le_trans (Nat.le_trans (Nat.le_trans (Nat.le_trans (Nat.le_trans (Nat.le_trans (Nat.le_trans (Nat.le_trans (Nat.le_trans (Nat.le_trans (Nat.le_trans (Nat.le_trans (Below.size k1) (Below.size k2)) (Below.size k3)) (Below.size k4)) (Below.size k5)) (Below.size k6)) (Below.size k7)) (Below.size k8)) (Below.size k9)) (Below.size k10)) (Below.size k11)) (Only.size y12)) (Below.size k13)) (Only.size y14))) (Nat.le_trans (Nat.le_trans (Nat.le_trans (Nat.le_trans (Nat.le_trans (Nat.le_trans (Nat.le_trans (Nat.le_trans (Nat.le_trans (Nat.le_trans (Nat.le_trans (Nat.le_trans (Nat.le_trans (Nat.le_trans (Below.size k1) (Below.size k2)) (Below.size k3)) (Below.size k4)) (Below.size k5)) (Below.size k6)) (Below.size k7)) (Below.size k8)) (Below.size k9)) (Below.size k10)) (Below.size k11)) (Only.size y12)) (Below.size k13)) (Only.size y14)) (Below.size k15))) (by omega) (by omega)).mono ?_
  rintro e w16 ⟨vh16, vg16, rfl, o16, k16⟩
  have k16 : Keeps w15 w16 := k16
  obtain ⟨Aa16, ca16, rfl⟩ := TwoI.shape1 o16
  obtain ⟨Ab16, cb16, rfl⟩ := TwoI.shape2 o16
  have cb8 := (BoxAt.kp (BoxAt.on (BoxAt.kp (BoxAt.on (BoxAt.kp bx1 (Keeps.tr (Keeps.tr (Keeps.tr (Keeps.tr (Keeps.tr (Keeps.tr (Keeps.tr (Keeps.tr (Keeps.tr k2 k3) k4) k5) k6) k7) k8) k9) k10) k11)) y12 (.inl (Nat.lt_of_lt_of_le bl1 (Nat.le_trans (Nat.le_trans (Below.size k2) (Below.size k3)) (Below.size k4))))) k13) y14 (.inl (Nat.lt_of_lt_of_le bl1 (Nat.le_trans (Nat.le_trans (Nat.le_trans (Nat.le_trans (Below.size k2) (Below.size k3)) (Below.size k4)) (Below.size k5)) (Below.size k6))))) (Keeps.tr k15 k16))
  have cb8_0 := cb8.2 0 _ rfl
  have cb8_1 := cb8.2 1 _ rfl
  have cb8_2 := cb8.2 2 _ rfl
  have cb8_3 := cb8.2 3 _ rfl
  have cb8_s := cb8.1
  clear cb8
  go_wp2_with fail
  clear cb8_0 cb8_1 cb8_2 cb8_3 cb8_s
  refine (need_impl (s := (r_aS, c_aS, lh_aS, lg_aS)) (TwoI.rd1 o16) (TwoI.rd2 o16) (by omega) (by omega) (by omega)).mono ?_
  rintro e w17 ⟨x17, rfl, n17, k17⟩
  have k17 : Keeps w16 w17 := k17
  have o17 := OwnI.of_new n17
  clear n17
  go_wp2_with fail
  refine (eqIntS_any x17 x4 (needL (r_aS, c_aS, lh_aS, lg_aS)) (needL (r_aS, c_aS, lh_aS, lg_aS)) _ (OwnI.rd o17) (OwnI.rd (OwnI.kp (OwnI.on (OwnI.kp (OwnI.on (OwnI.kp o4 (Keeps.tr (Keeps.tr (Keeps.tr (Keeps.tr (Keeps.tr (Keeps.tr k5 k6) k7) k8) k9) k10) k11)) y12 (.inl (Nat.le_refl _))) k13) y14 (.inl (Nat.le_trans (Below.size k5) (Below.size k6)))) (Keeps.tr (Keeps.tr k15 k16) k17))) (by omega) (by omega)).mono ?_
  rintro e w18 ⟨rfl, k18⟩
  have k18 : Keeps w17 w18 := k18
  go_wp2_with fail
  refine (heldIntS_at x7 ((needL (r_aS, c_aS, lh_aS, lg_aS))).length 1 _ m3 _ (OwnI.rd (OwnI.kp o14 (Keeps.tr (Keeps.tr (Keeps.tr k15 k16) k17) k18))) EM3.out (by omega) (by omega)).mono ?_
  rintro e w19 ⟨rfl, k19⟩
  have k19 : Keeps w18 w19 := k19
  go_wp2_with fail
  go_ret
  exact ⟨rfl, (Below.trans (Below.trans (Below.trans (Below.trans (Keeps.tr (Keeps.tr (Keeps.tr (Keeps.tr (Keeps.tr (Keeps.tr (Keeps.tr (Keeps.tr (Keeps.tr (Keeps.tr k1 k2) k3) k4) k5) k6) k7) k8) k9) k10) k11) (Only.below y12 (Nat.le_trans (Nat.le_trans (Nat.le_trans (Below.size k1) (Below.size k2)) (Below.size k3)) (Below.size k4)) (Nat.le_trans (Nat.le_trans (Nat.le_trans (Nat.le_trans (Nat.le_trans (Nat.le_trans (Nat.le_trans (Nat.le_trans (Nat.le_trans (Nat.le_trans (Below.size k1) (Below.size k2)) (Below.size k3)) (Below.size k4)) (Below.size k5)) (Below.size k6)) (Below.size k7)) (Below.size k8)) (Below.size k9)) (Below.size k10)) (Below.size k11)))) (Below.mono k13 (Nat.le_trans (Nat.le_trans (Nat.le_trans (Nat.le_trans (Nat.le_trans (Nat.le_trans (Nat.le_trans (Nat.le_trans (Nat.le_trans (Nat.le_trans (Nat.le_trans (Below.size k1) (Below.size k2)) (Below.size k3)) (Below.size k4)) (Below.size k5)) (Below.size k6)) (Below.size k7)) (Below.size k8)) (Below.size k9)) (Below.size k10)) (Below.size k11)) (Only.size y12)))) (Only.below y14 (Nat.le_trans (Nat.le_trans (Nat.le_trans (Nat.le_trans (Nat.le_trans (Below.size k1) (Below.size k2)) (Below.size k3)) (Below.size k4)) (Below.size k5)) (Below.size k6)) (Nat.le_trans (Nat.le_trans (Nat.le_trans (Nat.le_trans (Nat.le_trans (Nat.le_trans (Nat.le_trans (Nat.le_trans (Nat.le_trans (Nat.le_trans (Nat.le_trans (Nat.le_trans (Below.size k1) (Below.size k2)) (Below.size k3)) (Below.size k4)) (Below.size k5)) (Below.size k6)) (Below.size k7)) (Below.size k8)) (Below.size k9)) (Below.size k10)) (Below.size k11)) (Only.size y12)) (Below.size k13)))) (Below.mono (Keeps.tr (Keeps.tr (Keeps.tr (Keeps.tr k15 k16) k17) k18) k19) (Nat.le_trans (Nat.le_trans (Nat.le_trans (Nat.le_trans (Nat.le_trans (Nat.le_trans (Nat.le_trans (Nat.le_trans (Nat.le_trans (Nat.le_trans (Nat.le_trans (Nat.le_trans (Nat.le_trans (Below.size k1) (Below.size k2)) (Below.size k3)) (Below.size k4)) (Below.size k5)) (Below.size k6)) (Below.size k7)) (Below.size k8)) (Below.size k9)) (Below.size k10)) (Below.size k11)) (Only.size y12)) (Below.size k13)) (Only.size y14))))⟩

end Go.Proofs.Ytilgmdgipeimaaa
