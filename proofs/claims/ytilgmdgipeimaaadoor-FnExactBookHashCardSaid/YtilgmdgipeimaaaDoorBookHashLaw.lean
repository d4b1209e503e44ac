/-
  The law FnExactBookHash: its walk, out of the contracts.
-/
import Derived.Test.YtilgmdgipeimaaaDoorEvBookHash
import Derived.Test.YtilgmdgipeimaaaDoorIval
namespace Go.Proofs.YtilgmdgipeimaaaDoor
set_option maxRecDepth 100000
set_option linter.unusedVariables false
set_option linter.unusedSimpArgs false
open Go.RowKit

set_option maxHeartbeats 4000000 in
theorem law_BookHash (v_aL : Value) (l_aL : List TItem) (w : World) (h_aL : RdS w w.heap.size 2 cItem v_aL l_aL) (ok_aL : ∀ x ∈ l_aL, okItem x) (n_aL : l_aL.length ≤ 8796093022207) (gl : GlobOk none0 w) :
    Calls Tryd.prog 6 #[v_aL] w (SaysB true w) := by
  go_enter Tryd.func6, Tryd.ntmps6
  go_wp2_with fail
  refine (szItemS_any v_aL l_aL _ _ h_aL ok_aL (by omega) (by omega) (by omega)).mono ?_
  rintro e w1 ⟨r1, rfl, k1, ra1, rb1, rc1⟩
  have k1 : Keeps w w1 := k1
  by_cases neg1 : r1 < 0
  · go_wp2_with fail
    go_ret
    exact ⟨rfl, k1⟩
  have L_aL : l_aL.length ≤ 1048576 := by have h1 := rc1 (by omega); omega
  have T_aL := Lib.hid rc1
  clear rc1
  go_wp2_with fail
  refine (toItemS_any v_aL l_aL _ (RdS.more (RdS.kp h_aL k1 (Nat.le_refl _)) (Below.size k1)) (by omega)).mono ?_
  rintro e w2 ⟨x2, rfl, n2, k2⟩
  have k2 : Keeps w1 w2 := k2
  have o2 := OwnI.of_new n2
  clear n2
  go_wp2_with fail
  refine (bookHash_spec (GlobOk.belowB gl (Keeps.tr k1 k2)) (OwnI.rd o2) ok_aL (by omega)).mono ?_
  rintro e w3 ⟨rfl, k3⟩
  have k3 : Keeps w2 w3 := k3
  go_wp2_with fail
  refine (toItemS_any v_aL l_aL _ (RdS.more (RdS.kp h_aL (Keeps.tr (Keeps.tr k1 k2) k3) (Nat.le_refl _)) (Nat.le_trans (Nat.le_trans (Below.size k1) (Below.size k2)) (Below.size k3))) (by omega)).mono ?_
  rintro e w4 ⟨x4, rfl, n4, k4⟩
  have k4 : Keeps w3 w4 := k4
  have o4 := OwnI.of_new n4
  clear n4
  go_wp2_with fail
  refine (bookHash_impl (GlobOk.belowB gl (Keeps.tr (Keeps.tr (Keeps.tr k1 k2) k3) k4)) (OwnI.rd o4) ok_aL (by omega)).mono ?_
  rintro e w5 ⟨rfl, k5⟩
  have k5 : Keeps w4 w5 := k5
  go_wp2_with fail
  refine (toItemS_any v_aL l_aL _ (RdS.more (RdS.kp h_aL (Keeps.tr (Keeps.tr (Keeps.tr (Keeps.tr k1 k2) k3) k4) k5) (Nat.le_refl _)) (Nat.le_trans (Nat.le_trans (Nat.le_trans (Nat.le_trans (Below.size k1) (Below.size k2)) (Below.size k3)) (Below.size k4)) (Below.size k5))) (by omega)).mono ?_
  rintro e w6 ⟨x6, rfl, n6, k6⟩
  have k6 : Keeps w5 w6 := k6
  have o6 := OwnI.of_new n6
  clear n6
  go_wp2_with fail
  refine (eqItemS_any x4 x6 l_aL l_aL _ (OwnI.rd (OwnI.kp o4 (Keeps.tr k5 k6))) (OwnI.rd o6) (by omega) (by omega)).mono ?_
  rintro e w7 ⟨rfl, k7⟩
  have k7 : Keeps w6 w7 := k7
  go_wp2_with fail
  go_ret
  exact ⟨rfl, (Keeps.tr (Keeps.tr (Keeps.tr (Keeps.tr (Keeps.tr (Keeps.tr k1 k2) k3) k4) k5) k6) k7)⟩

end Go.Proofs.YtilgmdgipeimaaaDoor
