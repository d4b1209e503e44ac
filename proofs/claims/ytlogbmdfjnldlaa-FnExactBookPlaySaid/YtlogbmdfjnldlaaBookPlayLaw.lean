/-
  The law FnExactBookPlay: its walk, out of the contracts.
-/
import Derived.Test.YtlogbmdfjnldlaaEvPlay
import Derived.Test.YtlogbmdfjnldlaaMarkItem
import Derived.Test.YtlogbmdfjnldlaaMark
import Derived.Test.YtlogbmdfjnldlaaIval
namespace Go.Proofs.Ytlogbmdfjnldlaa
set_option maxRecDepth 100000
set_option linter.unusedVariables false
set_option linter.unusedSimpArgs false
open Go.RowKit

set_option maxHeartbeats 4000000 in
theorem law_BookPlay (v_aLines : Value) (l_aLines : List ByteArray) (w : World) (h_aLines : RdS w w.heap.size 1 cStr v_aLines l_aLines) (ok_aLines : ∀ x ∈ l_aLines, okString x) (n_aLines : l_aLines.length ≤ 8796093022207) :
    Calls Try.prog 8 #[v_aLines] w (SaysB true w) := by
  go_enter Try.func8, Try.ntmps8
  go_wp2_with fail
  refine (szStringS_any v_aLines l_aLines _ _ h_aLines ok_aLines (by omega) (by omega) (by omega)).mono ?_
  rintro e w1 ⟨r1, rfl, k1, ra1, rb1, rc1⟩
  have k1 : Keeps w w1 := k1
  by_cases neg1 : r1 < 0
  · go_wp2_with fail
    go_ret
    exact ⟨rfl, k1⟩
  have ST_aLines : strsTot l_aLines ≤ 1048576 := by have h1 := rc1 (by omega); omega
  have L_aLines : l_aLines.length ≤ 1048576 := by have h1 := rc1 (by omega); have h2 := strsTot_ge l_aLines; omega
  have T_aLines := Lib.hid rc1
  clear rc1
  go_wp2_with fail
  refine (toStringS_any v_aLines l_aLines _ (RdS.more (RdS.kp h_aLines k1 (Nat.le_refl _)) (Below.size k1)) (by omega)).mono ?_
  rintro e w2 ⟨x2, rfl, n2, k2⟩
  have k2 : Keeps w1 w2 := k2
  have o2 := OwnI.of_new n2
  clear n2
  go_wp2_with fail
  refine (bookPlay_spec (OwnI.rd o2) ok_aLines (by omega)).mono ?_
  rintro e w3 ⟨x3, rfl, n3, k3⟩
  have k3 : Keeps w2 w3 := k3
  have o3 := OwnI.of_new n3
  clear n3
  have hB10 := plL_le l_aLines
  go_wp2_with fail
  refine (toStringS_any v_aLines l_aLines _ (RdS.more (RdS.kp h_aLines (Keeps.tr (Keeps.tr k1 k2) k3) (Nat.le_refl _)) (Nat.le_trans (Nat.le_trans (Below.size k1) (Below.size k2)) (Below.size k3))) (by omega)).mono ?_
  rintro e w4 ⟨x4, rfl, n4, k4⟩
  have k4 : Keeps w3 w4 := k4
  have o4 := OwnI.of_new n4
  clear n4
  go_wp2_with fail
  refine (bookPlay_impl (OwnI.rd o4) ok_aLines (by omega)).mono ?_
  rintro e w5 ⟨x5, rfl, n5, k5⟩
  have k5 : Keeps w4 w5 := k5
  have o5 := OwnI.of_new n5
  clear n5
  have hB20 := plL_le l_aLines
  go_wp2_with fail
  refine (eqItemS_any x5 x3 (plL l_aLines) (plL l_aLines) _ (OwnI.rd o5) (OwnI.rd (OwnI.kp o3 (Keeps.tr k4 k5))) (by omega) (by omega)).mono ?_
  rintro e w6 ⟨rfl, k6⟩
  have k6 : Keeps w5 w6 := k6
  go_wp2_with fail
  refine (toStringS_any v_aLines l_aLines _ (RdS.more (RdS.kp h_aLines (Keeps.tr (Keeps.tr (Keeps.tr (Keeps.tr (Keeps.tr k1 k2) k3) k4) k5) k6) (Nat.le_refl _)) (Nat.le_trans (Nat.le_trans (Nat.le_trans (Nat.le_trans (Nat.le_trans (Below.size k1) (Below.size k2)) (Below.size k3)) (Below.size k4)) (Below.size k5)) (Below.size k6))) (by omega)).mono ?_
  rintro e w7 ⟨x7, rfl, n7, k7⟩
  have k7 : Keeps w6 w7 := k7
  have o7 := OwnI.of_new n7
  clear n7
  go_wp2_with fail
  refine (eqStringS_any x4 x7 l_aLines l_aLines _ (OwnI.rd (OwnI.kp o4 (Keeps.tr (Keeps.tr k5 k6) k7))) (OwnI.rd o7) (by omega) (by omega)).mono ?_
  rintro e w8 ⟨rfl, k8⟩
  have k8 : Keeps w7 w8 := k8
  obtain ⟨m1, em1⟩ : ∃ m : Nat, m = 1 + 1 * (l_aLines).length := ⟨_, rfl⟩
  have EM1 := Lib.hid em1
  have bm1 : 0 < m1 ∧ m1 ≤ 1048577 := by omega
  clear em1
  go_wp2_with fail
  refine (markStringS_at x4 l_aLines 1 _ m1 _ _ _ (OwnI.kp o4 (Keeps.tr (Keeps.tr (Keeps.tr k5 k6) k7) k8)) EM1.out (by omega) (by omega)).mono ?_
  rintro e w9 ⟨rfl, o9, y9⟩
  go_wp2_with fail
  refine (eqItemS_any x5 x3 (plL l_aLines) (plL l_aLines) _ (OwnI.rd (OwnI.on (OwnI.kp o5 (Keeps.tr (Keeps.tr k6 k7) k8)) y9 (.inr (Nat.le_refl _)))) (OwnI.rd (OwnI.on (OwnI.kp o3 (Keeps.tr (Keeps.tr (Keeps.tr (Keeps.tr k4 k5) k6) k7) k8)) y9 (.inl (Nat.le_refl _)))) (by omega) (by omega)).mono ?_
  rintro e w10 ⟨rfl, k10⟩
  have k10 : Keeps w9 w10 := k10
  obtain ⟨m2, em2⟩ : ∃ m : Nat, m = 1 + 2 * ((plL l_aLines)).length := ⟨_, rfl⟩
  have EM2 := Lib.hid em2
  have bm2 : 0 < m2 ∧ m2 ≤ 2097153 := by omega
  clear em2
  go_wp2_with fail
  refine (markItemS_at x5 (plL l_aLines) 1 _ m2 _ _ _ (OwnI.kp (OwnI.on (OwnI.kp o5 (Keeps.tr (Keeps.tr k6 k7) k8)) y9 (.inr (Nat.le_refl _))) k10) EM2.out (by omega) (by omega)).mono ?_
  rintro e w11 ⟨rfl, o11, y11⟩
  go_wp2_with fail
  refine (heldItemS_at x5 ((plL l_aLines)).length 1 _ m2 _ (OwnI.rd o11) EM2.out (by omega) (by omega)).mono ?_
  rintro e w12 ⟨rfl, k12⟩
  have k12 : Keeps w11 w12 := k12
  go_wp2_with fail
  refine (toStringS_any v_aLines l_aLines _ (RdS.more (RdS.kp (RdS.on (RdS.kp (RdS.on (RdS.kp h_aLines (Keeps.tr (Keeps.tr (Keeps.tr (Keeps.tr (Keeps.tr (Keeps.tr (Keeps.tr k1 k2) k3) k4) k5) k6) k7) k8) (Nat.le_refl _)) y9 (Nat.le_trans (Nat.le_trans (Below.size k1) (Below.size k2)) (Below.size k3)) (Nat.le_trans (Nat.le_trans (Nat.le_trans (Nat.le_trans (Nat.le_trans (Nat.le_trans (Nat.le_trans (Below.size k1) (Below.size k2)) (Below.size k3)) (Below.size k4)) (Below.size k5)) (Below.size k6)) (Below.size k7)) (Below.size k8))) k10 (Nat.le_trans (Nat.le_trans (Nat.le_trans (Nat.le_trans (Nat.le_trans (Nat.le_trans (Nat.le_trans (Nat.le_trans (Below.size k1) (Below.size k2)) (Below.size k3)) (Below.size k4)) (Below.size k5)) (Below.size k6)) (Below.size k7)) (Below.size k8)) (Only.size y9))) y11 (Nat.le_trans (Nat.le_trans (Nat.le_trans (Below.size k1) (Below.size k2)) (Below.size k3)) (Below.size k4)) (Nat.le_trans (Nat.le_trans (Nat.le_trans (Nat.le_trans (Nat.le_trans (Nat.le_trans (Nat.le_trans (Nat.le_trans (Nat.le_trans (Below.size k1) (Below.size k2)) (Below.size k3)) (Below.size k4)) (Below.size k5)) (Below.size k6)) (Below.size k7)) (Below.size k8)) (Only.size y9)) (Below.size k10))) k12 (Nat.le_trans (Nat.le_trans (Nat.le_trans (Nat.le_trans (Nat.le_trans (Nat.le_trans (Nat.le_trans (Nat.le_trans (Nat.le_trans (Nat.le_trans (Below.size k1) (Below.size k2)) (Below.size k3)) (Below.size k4)) (Below.size k5)) (Below.size k6)) (Below.size k7)) (Below.size k8)) (Only.size y9)) (Below.size k10)) (Only.size y11))) (Nat.le_trans (Nat.le_trans (Nat.le_trans (Nat.le_trans (Nat.le_trans (Nat.le_trans (Nat.le_trans (Nat.le_trans (Nat.le_trans (Nat.le_trans (Nat.le_trans (Below.size k1) (Below.size k2)) (Below.size k3)) (Below.size k4)) (Below.size k5)) (Below.size k6)) (Below.size k7)) (Below.size k8)) (Only.size y9)) (Below.size k10)) (Only.size y11)) (Below.size k12))) (by omega)).mono ?_
  rintro e w13 ⟨x13, rfl, n13, k13⟩
  have k13 : Keeps w12 w13 := k13
  have o13 := OwnI.of_new n13
  clear n13
  go_wp2_with fail
  refine (bookPlay_impl (OwnI.rd o13) ok_aLines (by omega)).mono ?_
  rintro e w14 ⟨x14, rfl, n14, k14⟩
  have k14 : Keeps w13 w14 := k14
  have o14 := OwnI.of_new n14
  clear n14
  go_wp2_with fail
  refine (eqItemS_any x14 x3 (plL l_aLines) (plL l_aLines) _ (OwnI.rd o14) (OwnI.rd (OwnI.kp (OwnI.on (OwnI.kp (OwnI.on (OwnI.kp o3 (Keeps.tr (Keeps.tr (Keeps.tr (Keeps.tr k4 k5) k6) k7) k8)) y9 (.inl (Nat.le_refl _))) k10) y11 (.inl (Below.size k4))) (Keeps.tr (Keeps.tr k12 k13) k14))) (by omega) (by omega)).mono ?_
  rintro e w15 ⟨rfl, k15⟩
  have k15 : Keeps w14 w15 := k15
  go_wp2_with fail
  refine (heldItemS_at x5 ((plL l_aLines)).length 1 _ m2 _ (OwnI.rd (OwnI.kp o11 (Keeps.tr (Keeps.tr (Keeps.tr k12 k13) k14) k15))) EM2.out (by omega) (by omega)).mono ?_
  rintro e w16 ⟨rfl, k16⟩
  have k16 : Keeps w15 w16 := k16
  go_wp2_with fail
  go_ret
  exact ⟨rfl, (Below.trans (Below.trans (Below.trans (Below.trans (Keeps.tr (Keeps.tr (Keeps.tr (Keeps.tr (Keeps.tr (Keeps.tr (Keeps.tr k1 k2) k3) k4) k5) k6) k7) k8) (Only.below y9 (Nat.le_trans (Nat.le_trans (Below.size k1) (Below.size k2)) (Below.size k3)) (Nat.le_trans (Nat.le_trans (Nat.le_trans (Nat.le_trans (Nat.le_trans (Nat.le_trans (Nat.le_trans (Below.size k1) (Below.size k2)) (Below.size k3)) (Below.size k4)) (Below.size k5)) (Below.size k6)) (Below.size k7)) (Below.size k8)))) (Below.mono k10 (Nat.le_trans (Nat.le_trans (Nat.le_trans (Nat.le_trans (Nat.le_trans (Nat.le_trans (Nat.le_trans (Nat.le_trans (Below.size k1) (Below.size k2)) (Below.size k3)) (Below.size k4)) (Below.size k5)) (Below.size k6)) (Below.size k7)) (Below.size k8)) (Only.size y9)))) (Only.below y11 (Nat.le_trans (Nat.le_trans (Nat.le_trans (Below.size k1) (Below.size k2)) (Below.size k3)) (Below.size k4)) (Nat.le_trans (Nat.le_trans (Nat.le_trans (Nat.le_trans (Nat.le_trans (Nat.le_trans (Nat.le_trans (Nat.le_trans (Nat.le_trans (Below.size k1) (Below.size k2)) (Below.size k3)) (Below.size k4)) (Below.size k5)) (Below.size k6)) (Below.size k7)) (Below.size k8)) (Only.size y9)) (Below.size k10)))) (Below.mono (Keeps.tr (Keeps.tr (Keeps.tr (Keeps.tr k12 k13) k14) k15) k16) (Nat.le_trans (Nat.le_trans (Nat.le_trans (Nat.le_trans (Nat.le_trans (Nat.le_trans (Nat.le_trans (Nat.le_trans (Nat.le_trans (Nat.le_trans (Below.size k1) (Below.size k2)) (Below.size k3)) (Below.size k4)) (Below.size k5)) (Below.size k6)) (Below.size k7)) (Below.size k8)) (Only.size y9)) (Below.size k10)) (Only.size y11))))⟩

end Go.Proofs.Ytlogbmdfjnldlaa
