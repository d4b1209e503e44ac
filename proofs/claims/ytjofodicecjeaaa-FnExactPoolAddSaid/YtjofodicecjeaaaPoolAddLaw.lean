/-
  The law FnExactPoolAdd: its walk, out of the contracts.
-/
import Derived.Test.YtjofodicecjeaaaEvPAddC
import Derived.Test.YtjofodicecjeaaaMarkTx
import Derived.Test.YtjofodicecjeaaaIval
namespace Go.Proofs.Ytjofodicecjeaaa
set_option maxRecDepth 100000
set_option linter.unusedVariables false
set_option linter.unusedSimpArgs false
open Go.RowKit

set_option maxHeartbeats 4000000 in
theorem law_PoolAdd (v_aL : Value) (l_aL : List TTx) (x_aT : TTx) (w : World) (h_aL : RdS w w.heap.size 3 cTx v_aL l_aL) (ok_aL : ∀ x ∈ l_aL, okTx x) (n_aL : l_aL.length ≤ 8796093022207) (ok_aT : okTx x_aT) :
    Calls Try.prog 12 #[v_aL, .agg #[.int .i64 x_aT.1, .int .i64 x_aT.2.1, .int .i64 x_aT.2.2]] w (SaysB true w) := by
  go_enter Try.func12, Try.ntmps12
  go_wp2_with fail
  have k1 : Keeps w (w.alloc (.cells #[.int .i64 x_aT.1, .int .i64 x_aT.2.1, .int .i64 x_aT.2.2] 74)) := Below.alloc (Below.refl _ _) (Nat.le_refl _) _
  have bx1 : BoxAt (w.alloc (.cells #[.int .i64 x_aT.1, .int .i64 x_aT.2.1, .int .i64 x_aT.2.2] 74)) w.heap.size [.int .i64 x_aT.1, .int .i64 x_aT.2.1, .int .i64 x_aT.2.2] := BoxAt.new _ _ _
  have bl1 : w.heap.size < (w.alloc (.cells #[.int .i64 x_aT.1, .int .i64 x_aT.2.1, .int .i64 x_aT.2.2] 74)).heap.size := by simp
  generalize w.alloc (.cells #[.int .i64 x_aT.1, .int .i64 x_aT.2.1, .int .i64 x_aT.2.2] 74) = w1 at *
  refine (szTxS_any v_aL l_aL _ _ (RdS.more (RdS.kp h_aL k1 (Nat.le_refl _)) (Below.size k1)) ok_aL (by omega) (by omega) (by omega)).mono ?_
  rintro e w2 ⟨r2, rfl, k2, ra2, rb2, rc2⟩
  have k2 : Keeps w1 w2 := k2
  by_cases neg2 : r2 < 0
  · go_wp2_with fail
    go_ret
    exact ⟨rfl, (Keeps.tr k1 k2)⟩
  have L_aL : l_aL.length ≤ 1048576 := by have h1 := rc2 (by omega); omega
  have T_aL := Lib.hid rc2
  clear rc2
  go_wp2_with fail
  have k3 : Keeps w2 w2.drew := (QW.refl _).drew.keeps
  have cB1 := (BoxAt.kp bx1 (Keeps.tr k2 k3))
  go_region_held3 (fun w' => Keeps w2.drew w' ∧ w'.cell? ⟨w.heap.size, 0, none⟩ = some (.int .i64 x_aT.1) ∧ w'.cell? ⟨w.heap.size, 1, none⟩ = some (.int .i64 x_aT.2.1) ∧ w'.cell? ⟨w.heap.size, 2, none⟩ = some (.int .i64 x_aT.2.2)) (first | exact ⟨Keeps.refl _, cB1.2 0 _ rfl, cB1.2 1 _ rfl, cB1.2 2 _ rfl⟩ | exact ⟨k4, (BoxAt.kp cB1 k4).2 0 _ rfl, (BoxAt.kp cB1 k4).2 1 _ rfl, (BoxAt.kp cB1 k4).2 2 _ rfl⟩ | exact ⟨(Keeps.tr k4 k5), (BoxAt.kp cB1 (Keeps.tr k4 k5)).2 0 _ rfl, (BoxAt.kp cB1 (Keeps.tr k4 k5)).2 1 _ rfl, (BoxAt.kp cB1 (Keeps.tr k4 k5)).2 2 _ rfl⟩ | exact ⟨(Keeps.tr (Keeps.tr k4 k5) k6), (BoxAt.kp cB1 (Keeps.tr (Keeps.tr k4 k5) k6)).2 0 _ rfl, (BoxAt.kp cB1 (Keeps.tr (Keeps.tr k4 k5) k6)).2 1 _ rfl, (BoxAt.kp cB1 (Keeps.tr (Keeps.tr k4 k5) k6)).2 2 _ rfl⟩)
    (first
      | (go_at_call 52; refine (toTxS_any v_aL l_aL _ (RdS.more (RdS.kp h_aL (Keeps.tr (Keeps.tr k1 k2) k3) (Nat.le_refl _)) (Nat.le_trans (Nat.le_trans (Below.size k1) (Below.size k2)) (Below.size k3))) (by omega)).mono ?_; rintro e w4 ⟨x4, rfl, n4, k4⟩; have k4 : Keeps w2.drew w4 := k4; have o4 := OwnI.of_new n4; clear n4)
      | (go_at_call 53; refine (toTx_any x_aT _).mono ?_; rintro e w5 ⟨rfl, k5⟩; have k5 : Keeps w4 w5 := k5)
      | (go_at_call 51; refine (poolAdd_spec (t := x_aT) (OwnI.rd (OwnI.kp o4 k5)) (by omega)).mono ?_; rintro e w6 ⟨x6, rfl, n6, k6⟩; have k6 : Keeps w5 w6 := k6; have o6 := OwnI.of_new n6; clear n6))
  have hB10 := pAddL_le l_aL x_aT
  go_wp2_with fail
  refine (toTxS_any v_aL l_aL _ (RdS.more (RdS.kp h_aL (Keeps.tr (Keeps.tr (Keeps.tr (Keeps.tr (Keeps.tr k1 k2) k3) k4) k5) k6) (Nat.le_refl _)) (Nat.le_trans (Nat.le_trans (Nat.le_trans (Nat.le_trans (Nat.le_trans (Below.size k1) (Below.size k2)) (Below.size k3)) (Below.size k4)) (Below.size k5)) (Below.size k6))) (by omega)).mono ?_
  rintro e w7 ⟨x7, rfl, n7, k7⟩
  have k7 : Keeps w6 w7 := k7
  have o7 := OwnI.of_new n7
  clear n7
  have cb2 := (BoxAt.kp bx1 (Keeps.tr (Keeps.tr (Keeps.tr (Keeps.tr (Keeps.tr k2 k3) k4) k5) k6) k7))
  have cb2_0 := cb2.2 0 _ rfl
  have cb2_1 := cb2.2 1 _ rfl
  have cb2_2 := cb2.2 2 _ rfl
  have cb2_s := cb2.1
  clear cb2
  go_wp2_with fail
  clear cb2_0 cb2_1 cb2_2 cb2_s
  refine (toTx_any x_aT _).mono ?_
  rintro e w8 ⟨rfl, k8⟩
  have k8 : Keeps w7 w8 := k8
  have cb3 := (BoxAt.kp bx1 (Keeps.tr (Keeps.tr (Keeps.tr (Keeps.tr (Keeps.tr (Keeps.tr k2 k3) k4) k5) k6) k7) k8))
  have cb3_0 := cb3.2 0 _ rfl
  have cb3_1 := cb3.2 1 _ rfl
  have cb3_2 := cb3.2 2 _ rfl
  have cb3_s := cb3.1
  clear cb3
  go_wp2_with fail
  clear cb3_0 cb3_1 cb3_2 cb3_s
  refine (poolAdd_impl (t := x_aT) (OwnI.rd (OwnI.kp o7 k8)) (by omega)).mono ?_
  rintro e w9 ⟨x9, rfl, n9, k9⟩
  have k9 : Keeps w8 w9 := k9
  have o9 := OwnI.of_new n9
  clear n9
  have hB20 := pAddL_le l_aL x_aT
  go_wp2_with fail
  refine (eqTxS_any x9 x6 (pAddL l_aL x_aT) (pAddL l_aL x_aT) _ (OwnI.rd o9) (OwnI.rd (OwnI.kp o6 (Keeps.tr (Keeps.tr k7 k8) k9))) (by omega) (by omega)).mono ?_
  rintro e w10 ⟨rfl, k10⟩
  have k10 : Keeps w9 w10 := k10
  go_wp2_with fail
  refine (toTxS_any v_aL l_aL _ (RdS.more (RdS.kp h_aL (Keeps.tr (Keeps.tr (Keeps.tr (Keeps.tr (Keeps.tr (Keeps.tr (Keeps.tr (Keeps.tr (Keeps.tr k1 k2) k3) k4) k5) k6) k7) k8) k9) k10) (Nat.le_refl _)) (Nat.le_trans (Nat.le_trans (Nat.le_trans (Nat.le_trans (Nat.le_trans (Nat.le_trans (Nat.le_trans (Nat.le_trans (Nat.le_trans (Below.size k1) (Below.size k2)) (Below.size k3)) (Below.size k4)) (Below.size k5)) (Below.size k6)) (Below.size k7)) (Below.size k8)) (Below.size k9)) (Below.size k10))) (by omega)).mono ?_
  rintro e w11 ⟨x11, rfl, n11, k11⟩
  have k11 : Keeps w10 w11 := k11
  have o11 := OwnI.of_new n11
  clear n11
  go_wp2_with fail
  refine (eqTxS_any x7 x11 l_aL l_aL _ (OwnI.rd (OwnI.kp o7 (Keeps.tr (Keeps.tr (Keeps.tr k8 k9) k10) k11))) (OwnI.rd o11) (by omega) (by omega)).mono ?_
  rintro e w12 ⟨rfl, k12⟩
  have k12 : Keeps w11 w12 := k12
  obtain ⟨m1, em1⟩ : ∃ m : Nat, m = 1 + 3 * (l_aL).length := ⟨_, rfl⟩
  have EM1 := Lib.hid em1
  have bm1 : 0 < m1 ∧ m1 ≤ 3145729 := by omega
  clear em1
  go_wp2_with fail
  refine (markTxS_at x7 l_aL 1 _ m1 _ _ _ (OwnI.kp o7 (Keeps.tr (Keeps.tr (Keeps.tr (Keeps.tr k8 k9) k10) k11) k12)) EM1.out (by omega) (by omega)).mono ?_
  rintro e w13 ⟨rfl, o13, y13⟩
  go_wp2_with fail
  refine (eqTxS_any x9 x6 (pAddL l_aL x_aT) (pAddL l_aL x_aT) _ (OwnI.rd (OwnI.on (OwnI.kp o9 (Keeps.tr (Keeps.tr k10 k11) k12)) y13 (.inr (Below.size k8)))) (OwnI.rd (OwnI.on (OwnI.kp o6 (Keeps.tr (Keeps.tr (Keeps.tr (Keeps.tr (Keeps.tr k7 k8) k9) k10) k11) k12)) y13 (.inl (Nat.le_refl _)))) (by omega) (by omega)).mono ?_
  rintro e w14 ⟨rfl, k14⟩
  have k14 : Keeps w13 w14 := k14
  obtain ⟨m2, em2⟩ : ∃ m : Nat, m = 1 + 3 * ((pAddL l_aL x_aT)).length := ⟨_, rfl⟩
  have EM2 := Lib.hid em2
  have bm2 : 0 < m2 ∧ m2 ≤ 3145729 := by omega
  clear em2
  go_wp2_with fail
  refine (markTxS_at x9 (pAddL l_aL x_aT) 1 _ m2 _ _ _ (OwnI.kp (OwnI.on (OwnI.kp o9 (Keeps.tr (Keeps.tr k10 k11) k12)) y13 (.inr (Below.size k8))) k14) EM2.out (by omega) (by omega)).mono ?_
  rintro e w15 ⟨rfl, o15, y15⟩
  go_wp2_with fail
  refine (heldTxS_at x9 ((pAddL l_aL x_aT)).length 1 _ m2 _ (OwnI.rd o15) EM2.out (by omega) (by omega)).mono ?_
  rintro e w16 ⟨rfl, k16⟩
  have k16 : Keeps w15 w16 := k16
  go_wp2_with fail
  have k17 : Keeps w16 w16.drew := (QW.refl _).drew.keeps
  have cB4 := (BoxAt.kp (BoxAt.on (BoxAt.kp (BoxAt.on (BoxAt.kp bx1 (Keeps.tr (Keeps.tr (Keeps.tr (Keeps.tr (Keeps.tr (Keeps.tr (Keeps.tr (Keeps.tr (Keeps.tr (Keeps.tr k2 k3) k4) k5) k6) k7) k8) k9) k10) k11) k12)) y13 (.inl (Nat.lt_of_lt_of_le bl1 (Nat.le_trans (Nat.le_trans (Nat.le_trans (Nat.le_trans (Below.size k2) (Below.size k3)) (Below.size k4)) (Below.size k5)) (Below.size k6))))) k14) y15 (.inl (Nat.lt_of_lt_of_le bl1 (Nat.le_trans (Nat.le_trans (Nat.le_trans (Nat.le_trans (Nat.le_trans (Nat.le_trans (Below.size k2) (Below.size k3)) (Below.size k4)) (Below.size k5)) (Below.size k6)) (Below.size k7)) (Below.size k8))))) (Keeps.tr k16 k17))
  go_region_held3 (fun w' => Keeps w16.drew w' ∧ w'.cell? ⟨w.heap.size, 0, none⟩ = some (.int .i64 x_aT.1) ∧ w'.cell? ⟨w.heap.size, 1, none⟩ = some (.int .i64 x_aT.2.1) ∧ w'.cell? ⟨w.heap.size, 2, none⟩ = some (.int .i64 x_aT.2.2)) (first | exact ⟨Keeps.refl _, cB4.2 0 _ rfl, cB4.2 1 _ rfl, cB4.2 2 _ rfl⟩ | exact ⟨k18, (BoxAt.kp cB4 k18).2 0 _ rfl, (BoxAt.kp cB4 k18).2 1 _ rfl, (BoxAt.kp cB4 k18).2 2 _ rfl⟩ | exact ⟨(Keeps.tr k18 k19), (BoxAt.kp cB4 (Keeps.tr k18 k19)).2 0 _ rfl, (BoxAt.kp cB4 (Keeps.tr k18 k19)).2 1 _ rfl, (BoxAt.kp cB4 (Keeps.tr k18 k19)).2 2 _ rfl⟩ | exact ⟨(Keeps.tr (Keeps.tr k18 k19) k20), (BoxAt.kp cB4 (Keeps.tr (Keeps.tr k18 k19) k20)).2 0 _ rfl, (BoxAt.kp cB4 (Keeps.tr (Keeps.tr k18 k19) k20)).2 1 _ rfl, (BoxAt.kp cB4 (Keeps.tr (Keeps.tr k18 k19) k20)).2 2 _ rfl⟩)
    (first
      | (go_at_call 52; refine (toTxS_any v_aL l_aL _ (RdS.more (RdS.kp (RdS.on (RdS.kp (RdS.on (RdS.kp h_aL (Keeps.tr (Keeps.tr (Keeps.tr (Keeps.tr (Keeps.tr (Keeps.tr (Keeps.tr (Keeps.tr (Keeps.tr (Keeps.tr (Keeps.tr k1 k2) k3) k4) k5) k6) k7) k8) k9) k10) k11) k12) (Nat.le_refl _)) y13 (Nat.le_trans (Nat.le_trans (Nat.le_trans (Nat.le_trans (Nat.le_trans (Below.size k1) (Below.size k2)) (Below.size k3)) (Below.size k4)) (Below.size k5)) (Below.size k6)) (Nat.le_trans (Nat.le_trans (Nat.le_trans (Nat.le_trans (Nat.le_trans (Nat.le_trans (Nat.le_trans (Nat.le_trans (Nat.le_trans (Nat.le_trans (Nat.le_trans (Below.size k1) (Below.size k2)) (Below.size k3)) (Below.size k4)) (Below.size k5)) (Below.size k6)) (Below.size k7)) (Below.size k8)) (Below.size k9)) (Below.size k10)) (Below.size k11)) (Below.size k12))) k14 (Nat.le_trans (Nat.le_trans (Nat.le_trans (Nat.le_trans (Nat.le_trans (Nat.le_trans (Nat.le_trans (Nat.le_trans (Nat.le_trans (Nat.le_trans (Nat.le_trans (Nat.le_trans (Below.size k1) (Below.size k2)) (Below.size k3)) (Below.size k4)) (Below.size k5)) (Below.size k6)) (Below.size k7)) (Below.size k8)) (Below.size k9)) (Below.size k10)) (Below.size k11)) (Below.size k12)) (Only.size y13))) y15 (Nat.le_trans (Nat.le_trans (Nat.le_trans (Nat.le_trans (Nat.le_trans (Nat.le_trans (Nat.le_trans (Below.size k1) (Below.size k2)) (Below.size k3)) (Below.size k4)) (Below.size k5)) (Below.size k6)) (Below.size k7)) (Below.size k8)) (Nat.le_trans (Nat.le_trans (Nat.le_trans (Nat.le_trans (Nat.le_trans (Nat.le_trans (Nat.le_trans (Nat.le_trans (Nat.le_trans (Nat.le_trans (Nat.le_trans (Nat.le_trans (Nat.le_trans (Below.size k1) (Below.size k2)) (Below.size k3)) (Below.size k4)) (Below.size k5)) (Below.size k6)) (Below.size k7)) (Below.size k8)) (Below.size k9)) (Below.size k10)) (Below.size k11)) (Below.size k12)) (Only.size y13)) (Below.size k14))) (Keeps.tr k16 k17) (Nat.le_trans (Nat.le_trans (Nat.le_trans (Nat.le_trans (Nat.le_trans (Nat.le_trans (Nat.le_trans (Nat.le_trans (Nat.le_trans (Nat.le_trans (Nat.le_trans (Nat.le_trans (Nat.le_trans (Nat.le_trans (Below.size k1) (Below.size k2)) (Below.size k3)) (Below.size k4)) (Below.size k5)) (Below.size k6)) (Below.size k7)) (Below.size k8)) (Below.size k9)) (Below.size k10)) (Below.size k11)) (Below.size k12)) (Only.size y13)) (Below.size k14)) (Only.size y15))) (Nat.le_trans (Nat.le_trans (Nat.le_trans (Nat.le_trans (Nat.le_trans (Nat.le_trans (Nat.le_trans (Nat.le_trans (Nat.le_trans (Nat.le_trans (Nat.le_trans (Nat.le_trans (Nat.le_trans (Nat.le_trans (Nat.le_trans (Nat.le_trans (Below.size k1) (Below.size k2)) (Below.size k3)) (Below.size k4)) (Below.size k5)) (Below.size k6)) (Below.size k7)) (Below.size k8)) (Below.size k9)) (Below.size k10)) (Below.size k11)) (Below.size k12)) (Only.size y13)) (Below.size k14)) (Only.size y15)) (Below.size k16)) (Below.size k17))) (by omega)).mono ?_; rintro e w18 ⟨x18, rfl, n18, k18⟩; have k18 : Keeps w16.drew w18 := k18; have o18 := OwnI.of_new n18; clear n18)
      | (go_at_call 53; refine (toTx_any x_aT _).mono ?_; rintro e w19 ⟨rfl, k19⟩; have k19 : Keeps w18 w19 := k19)
      | (go_at_call 54; refine (poolAdd_impl (t := x_aT) (OwnI.rd (OwnI.kp o18 k19)) (by omega)).mono ?_; rintro e w20 ⟨x20, rfl, n20, k20⟩; have k20 : Keeps w19 w20 := k20; have o20 := OwnI.of_new n20; clear n20))
  go_wp2_with fail
  refine (eqTxS_any x20 x6 (pAddL l_aL x_aT) (pAddL l_aL x_aT) _ (OwnI.rd o20) (OwnI.rd (OwnI.kp (OwnI.on (OwnI.kp (OwnI.on (OwnI.kp o6 (Keeps.tr (Keeps.tr (Keeps.tr (Keeps.tr (Keeps.tr k7 k8) k9) k10) k11) k12)) y13 (.inl (Nat.le_refl _))) k14) y15 (.inl (Nat.le_trans (Below.size k7) (Below.size k8)))) (Keeps.tr (Keeps.tr (Keeps.tr (Keeps.tr k16 k17) k18) k19) k20))) (by omega) (by omega)).mono ?_
  rintro e w21 ⟨rfl, k21⟩
  have k21 : Keeps w20 w21 := k21
  go_wp2_with fail
  refine (heldTxS_at x9 ((pAddL l_aL x_aT)).length 1 _ m2 _ (OwnI.rd (OwnI.kp o15 (Keeps.tr (Keeps.tr (Keeps.tr (Keeps.tr (Keeps.tr k16 k17) k18) k19) k20) k21))) EM2.out (by omega) (by omega)).mono ?_
  rintro e w22 ⟨rfl, k22⟩
  have k22 : Keeps w21 w22 := k22
  go_wp2_with fail
  go_ret
  exact ⟨rfl, (Below.trans (Below.trans (Below.trans (Below.trans (Keeps.tr (Keeps.tr (Keeps.tr (Keeps.tr (Keeps.tr (Keeps.tr (Keeps.tr (Keeps.tr (Keeps.tr (Keeps.tr (Keeps.tr k1 k2) k3) k4) k5) k6) k7) k8) k9) k10) k11) k12) (Only.below y13 (Nat.le_trans (Nat.le_trans (Nat.le_trans (Nat.le_trans (Nat.le_trans (Below.size k1) (Below.size k2)) (Below.size k3)) (Below.size k4)) (Below.size k5)) (Below.size k6)) (Nat.le_trans (Nat.le_trans (Nat.le_trans (Nat.le_trans (Nat.le_trans (Nat.le_trans (Nat.le_trans (Nat.le_trans (Nat.le_trans (Nat.le_trans (Nat.le_trans (Below.size k1) (Below.size k2)) (Below.size k3)) (Below.size k4)) (Below.size k5)) (Below.size k6)) (Below.size k7)) (Below.size k8)) (Below.size k9)) (Below.size k10)) (Below.size k11)) (Below.size k12)))) (Below.mono k14 (Nat.le_trans (Nat.le_trans (Nat.le_trans (Nat.le_trans (Nat.le_trans (Nat.le_trans (Nat.le_trans (Nat.le_trans (Nat.le_trans (Nat.le_trans (Nat.le_trans (Nat.le_trans (Below.size k1) (Below.size k2)) (Below.size k3)) (Below.size k4)) (Below.size k5)) (Below.size k6)) (Below.size k7)) (Below.size k8)) (Below.size k9)) (Below.size k10)) (Below.size k11)) (Below.size k12)) (Only.size y13)))) (Only.below y15 (Nat.le_trans (Nat.le_trans (Nat.le_trans (Nat.le_trans (Nat.le_trans (Nat.le_trans (Nat.le_trans (Below.size k1) (Below.size k2)) (Below.size k3)) (Below.size k4)) (Below.size k5)) (Below.size k6)) (Below.size k7)) (Below.size k8)) (Nat.le_trans (Nat.le_trans (Nat.le_trans (Nat.le_trans (Nat.le_trans (Nat.le_trans (Nat.le_trans (Nat.le_trans (Nat.le_trans (Nat.le_trans (Nat.le_trans (Nat.le_trans (Nat.le_trans (Below.size k1) (Below.size k2)) (Below.size k3)) (Below.size k4)) (Below.size k5)) (Below.size k6)) (Below.size k7)) (Below.size k8)) (Below.size k9)) (Below.size k10)) (Below.size k11)) (Below.size k12)) (Only.size y13)) (Below.size k14)))) (Below.mono (Keeps.tr (Keeps.tr (Keeps.tr (Keeps.tr (Keeps.tr (Keeps.tr k16 k17) k18) k19) k20) k21) k22) (Nat.le_trans (Nat.le_trans (Nat.le_trans (Nat.le_trans (Nat.le_trans (Nat.le_trans (Nat.le_trans (Nat.le_trans (Nat.le_trans (Nat.le_trans (Nat.le_trans (Nat.le_trans (Nat.le_trans (Nat.le_trans (Below.size k1) (Below.size k2)) (Below.size k3)) (Below.size k4)) (Below.size k5)) (Below.size k6)) (Below.size k7)) (Below.size k8)) (Below.size k9)) (Below.size k10)) (Below.size k11)) (Below.size k12)) (Only.size y13)) (Below.size k14)) (Only.size y15))))⟩

end Go.Proofs.Ytjofodicecjeaaa
