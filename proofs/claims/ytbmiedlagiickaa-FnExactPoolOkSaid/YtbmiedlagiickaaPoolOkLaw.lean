/-
  The law FnExactPoolOk: its walk, out of the contracts.
-/
import Derived.Test.YtbmiedlagiickaaPoolOk
namespace Go.Proofs.Ytbmiedlagiickaa
open Go.RowKit

set_option maxRecDepth 100000 in
set_option maxHeartbeats 4000000 in
theorem law_PoolOk (v_aL : Value) (l_aL : List TTx) (w : World) (h_aL : RdS w w.heap.size 3 cTx v_aL l_aL) (ok_aL : ∀ x ∈ l_aL, okTx x) (n_aL : l_aL.length ≤ 8796093022207) :
    Calls Try.prog 7 #[v_aL] w (SaysB true w) := by
  go_enter Try.func7, Try.ntmps7
  go_wp2_with fail
  refine (szTxS_any v_aL l_aL _ _ h_aL ok_aL (by omega) (by omega) (by omega)).mono ?_
  rintro e w1 ⟨r1, rfl, k1, ra1, rb1, rc1⟩
  have k1 : Keeps w w1 := k1
  by_cases neg1 : r1 < 0
  · go_wp2_with fail
    go_ret
    exact ⟨rfl, k1⟩
  have L_aL : l_aL.length ≤ 1048576 := by have h1 := rc1 (by omega); omega
  have T_aL := Lib.hid rc1
  clear rc1
  go_wp2_with fail
  refine (toTxS_any v_aL l_aL _ (h_aL.keeps k1) (by omega)).mono ?_
  rintro e w2 ⟨x2, rfl, o2, k2⟩
  have k2 : Keeps w1 w2 := k2
  go_wp2_with fail
  refine (poolOk_spec x2 l_aL _ o2.rd (by omega)).mono ?_
  rintro e w3 ⟨rfl, k3⟩
  have k3 : Keeps w2 w3 := k3
  go_wp2_with fail
  refine (toTxS_any v_aL l_aL _ (h_aL.keeps (Keeps.tr k1 (Keeps.tr k2 k3))) (by omega)).mono ?_
  rintro e w4 ⟨x4, rfl, o4, k4⟩
  have k4 : Keeps w3 w4 := k4
  go_wp2_with fail
  refine (poolOk_impl x4 l_aL _ o4.rd (by omega)).mono ?_
  rintro e w5 ⟨rfl, k5⟩
  have k5 : Keeps w4 w5 := k5
  go_wp2_with fail
  refine (toTxS_any v_aL l_aL _ (h_aL.keeps (Keeps.tr k1 (Keeps.tr k2 (Keeps.tr k3 (Keeps.tr k4 k5))))) (by omega)).mono ?_
  rintro e w6 ⟨x6, rfl, o6, k6⟩
  have k6 : Keeps w5 w6 := k6
  go_wp2_with fail
  refine (eqTxS_any x4 x6 l_aL l_aL _ ((o4.keeps (Keeps.tr k5 k6)).rd) o6.rd (by omega) (by omega)).mono ?_
  rintro e w7 ⟨rfl, k7⟩
  have k7 : Keeps w6 w7 := k7
  go_wp2_with fail
  go_ret
  exact ⟨rfl, (Keeps.tr k1 (Keeps.tr k2 (Keeps.tr k3 (Keeps.tr k4 (Keeps.tr k5 (Keeps.tr k6 k7))))))⟩

end Go.Proofs.Ytbmiedlagiickaa
