/-
  The law FnExactMuchAlike: its walk, out of the contracts.
-/
import Derived.Test.YtbmiedlagiickaaMuch
namespace Go.Proofs.Ytbmiedlagiickaa
open Go.RowKit

set_option maxHeartbeats 400000 in
theorem muchAlike_law (v1 v2 : Value) (xs ys : List ByteArray) (w : World) (h1 : RdS w w.heap.size 1 cStr v1 xs) (h2 : RdS w w.heap.size 1 cStr v2 ys)
    (hs1 : ∀ s ∈ xs, s.size ≤ maxLen) (hs2 : ∀ s ∈ ys, s.size ≤ maxLen) (hn1 : xs.length ≤ 8796093022207) (hn2 : ys.length ≤ 8796093022207) :
    Calls Try.prog 3 #[v1, v2] w fun e w' => e = .returned (.bool true) ∧ Below w.heap.size w w' := by
  go_enter Try.func3, Try.ntmps3
  go_wp2_with fail
  refine (szStringS_any v1 xs _ _ _ h1 hs1 (by omega) (by omega) (by omega)).mono ?_
  rintro e w1 ⟨r1, rfl, rfl, hr1, hr2, -⟩
  by_cases hneg : r1 < 0
  · go_wp2_with fail
    go_ret
    exact ⟨rfl, Below.refl _ _⟩
  go_wp2_with fail
  refine (szStringS_any v2 ys _ _ _ h2 hs2 (by omega) (by omega) (by omega)).mono ?_
  rintro e w1 ⟨r2, rfl, rfl, hr3, hr4, -⟩
  by_cases hneg2 : r2 < 0
  · go_wp2_with fail
    go_ret
    exact ⟨rfl, Below.refl _ _⟩
  go_wp2_with fail
  refine (toStringS_any v1 xs _ h1 (by omega)).mono ?_
  rintro e w1 ⟨x1, rfl, ho1, hb1⟩
  go_wp2_with fail
  have hb1w := Lib.hid hb1
  refine (toStringS_any v2 ys _ ((h2.below hb1).more hb1.size) (by omega)).mono ?_
  rintro e w2 ⟨x2, rfl, ho2, hb2⟩
  go_wp2_with fail
  have hB1 := hb1w.out
  refine (muchAlike_spec x1 x2 xs ys _ _ (ho1.below hb2).rd ho2.rd (by omega) (by omega)).mono ?_
  rintro e w3 ⟨rfl, m3, rfl⟩
  have hb13 := below_drewN (hB1.trans (hb2.mono hB1.size)) m3
  go_wp2_with fail
  refine (toStringS_any v1 xs _ ((h1.below hb13).more hb13.size) (by omega)).mono ?_
  rintro e w4 ⟨x3, rfl, ho3, hb4⟩
  have hb14 := hb13.trans (hb4.mono hb13.size)
  go_wp2_with fail
  refine (toStringS_any v2 ys _ ((h2.below hb14).more hb14.size) (by omega)).mono ?_
  rintro e w5 ⟨x4, rfl, ho4, hb5⟩
  have hb15 := hb14.trans (hb5.mono hb14.size)
  go_wp2_with fail
  refine (muchAlike_impl x3 x4 xs ys _ _ (ho3.below hb5).rd ho4.rd (by omega) (by omega)).mono ?_
  rintro e w6 ⟨rfl, m6, rfl⟩
  have hb16 := below_drewN hb15 m6
  go_wp2_with fail
  refine (toStringS_any v1 xs _ ((h1.below hb16).more hb16.size) (by omega)).mono ?_
  rintro e w7 ⟨x5, rfl, ho5, hb7⟩
  have hb17 := hb16.trans (hb7.mono hb16.size)
  go_wp2_with fail
  refine (eqStringS_any x3 x5 xs xs _ _ ((((ho3.below hb5).rd.drewN m6).below hb7).more hb7.size) ho5.rd (by omega) (by omega)).mono ?_
  rintro e w8 ⟨rfl, m8, rfl⟩
  have hb18 := below_drewN hb17 m8
  have hd1 : decide (xs = xs) = true := by simp
  go_wp2_with fail
  refine (toStringS_any v2 ys _ ((h2.below hb18).more hb18.size) (by omega)).mono ?_
  rintro e w9 ⟨x6, rfl, ho6, hb9⟩
  have hb19 := hb18.trans (hb9.mono hb18.size)
  go_wp2_with fail
  refine (eqStringS_any x4 x6 ys ys _ _ ((((((ho4.rd.drewN m6).below hb7).more hb7.size).drewN m8).below hb9).more hb9.size) ho6.rd (by omega) (by omega)).mono ?_
  rintro e w10 ⟨rfl, m10, rfl⟩
  have hb20 := below_drewN hb19 m10
  go_wp2_with fail
  go_ret
  exact ⟨rfl, hb20⟩

end Go.Proofs.Ytbmiedlagiickaa
