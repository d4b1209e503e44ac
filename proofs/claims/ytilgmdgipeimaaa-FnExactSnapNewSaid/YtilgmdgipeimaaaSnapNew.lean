/-
  SnapNew of spec and impl, by one contract.
-/
import Derived.Test.YtilgmdgipeimaaaSnap
import Derived.Test.YtilgmdgipeimaaaSnapOk
import Derived.RegionTactic
namespace Go.Proofs.Ytilgmdgipeimaaa
set_option maxRecDepth 100000
open Go.RowKit

def newOk (r : ByteArray) (n : Int) : Prop := r.size = 32 ∧ 1 ≤ n ∧ n ≤ 40
instance (r : ByteArray) (n : Int) : Decidable (newOk r n) := by unfold newOk; infer_instance
def snR (r : ByteArray) (n : Int) : ByteArray := if newOk r n then r else emp
def snC (r : ByteArray) (n : Int) : Int := if newOk r n then n else 0
def snH (r : ByteArray) (n : Int) : List ByteArray := if newOk r n then List.replicate n.toNat emp else []
def snG (r : ByteArray) (n : Int) : List Bool := if newOk r n then List.replicate n.toNat false else []

theorem snH_le (r : ByteArray) (n : Int) : (snH r n).length ≤ 40 := by
  unfold snH
  by_cases h : newOk r n
  · rw [if_pos h, List.length_replicate]; have := h.2.2; omega
  · rw [if_neg h]; simp
theorem snG_le (r : ByteArray) (n : Int) : (snG r n).length ≤ 40 := by
  unfold snG
  by_cases h : newOk r n
  · rw [if_pos h, List.length_replicate]; have := h.2.2; omega
  · rw [if_neg h]; simp

set_option maxHeartbeats 4000000 in
theorem snapNew_spec (r : ByteArray) (n : Int) (w : World) (hr : r.size ≤ 140737488351232) :
    Calls Try.prog 7 #[.string r, .int .i64 n] w (NewSnapB w (snR r n) (snC r n) (snH r n) (snG r n) (decide (newOk r n))) := by
  by_cases hok : newOk r n
  · have h1 : snR r n = r := if_pos hok
    have h2 : snC r n = n := if_pos hok
    have h3 : snH r n = List.replicate n.toNat emp := if_pos hok
    have h4 : snG r n = List.replicate n.toNat false := if_pos hok
    rw [h1, h2, h3, h4, decide_eq_true hok]
    obtain ⟨b1, b2, b3⟩ := hok
    clear h1 h2 h3 h4
    obtain ⟨k, rfl⟩ := Int.eq_ofNat_of_zero_le (by omega : 0 ≤ n)
    have d1 : ((r.size : Int) != 32) = false := by simp; omega
    have HB := Lib.hid b1
    clear b1
    rw [Int.toNat_natCast]
    have hm1 := fun W : World => run_mk (P := Try.prog) 22 9 _ [.string ByteArray.empty] 1 16 Try.underlying22 info_str rfl rfl .i64 .i64 k (by omega) (by omega) W
    have hm2 := fun W : World => run_mk (P := Try.prog) 23 4 _ [.bool false] 1 1 Try.underlying23 info_Bool rfl rfl .i64 .i64 k (by omega) (by omega) W
    go_enter Try.func7, Try.ntmps7
    go_wp2_with fail
    refine (l1In_yes _ _ _ _ (by omega) (by omega)).mono ?_
    rintro e w' ⟨rfl, hw⟩
    subst w'
    go_wp2_with fail
    go_region
    · have p1 : k ≤ maxLen := by simp only [maxLen]; omega
      clear hm1 hm2
      go_wp2_with fail
      refine bodyPost_ret (v := .tuple #[.agg #[.string r, .int .i64 k, .slice (some ⟨w.heap.size + 1, 0, none⟩) k k, .slice (some ⟨w.heap.size + 1 + 1, 0, none⟩) k k], .bool true]) (by simp [results, Try.results7, go_sem]) rfl ?_
      refine ⟨_, _, rfl, ⟨w.heap.size + 1, w.heap.size + 2, w.heap.size + 1 + 1, w.heap.size + 1 + 1 + 1, ?_, ?_, by omega, by simp, by omega, by simp, .inl (by omega)⟩, ?_⟩
      · exact own_zeros (t := 9) (zs := [.string ByteArray.empty]) (x := emp) (s := 1) (f := cStr) (Row.drew (Row.alloc (by simpa using Row.new (w.alloc _) 9 (zeros [.string ByteArray.empty] k)) _)) rfl (fun _ => rfl) p1
      · exact own_zeros (t := 4) (zs := [.bool false]) (x := false) (s := 1) (f := cBool) (Row.drew (by simpa using Row.new ((w.alloc _).alloc _) 4 (zeros [.bool false] k))) rfl (fun _ => rfl) p1
      · exact show Below _ _ _ by go_grown
    · have p1 : k ≤ maxLen := by simp only [maxLen]; omega
      clear hm1 hm2
      go_wp2_with fail
      refine bodyPost_ret (v := .tuple #[.agg #[.string r, .int .i64 k, .slice (some ⟨w.heap.size + 1 + 1, 0, none⟩) k k, .slice (some ⟨w.heap.size + 1, 0, none⟩) k k], .bool true]) (by simp [results, Try.results7, go_sem]) rfl ?_
      refine ⟨_, _, rfl, ⟨w.heap.size + 1 + 1, w.heap.size + 1 + 1 + 1, w.heap.size + 1, w.heap.size + 2, ?_, ?_, by omega, by simp, by omega, by simp, .inr (by omega)⟩, ?_⟩
      · exact own_zeros (t := 9) (zs := [.string ByteArray.empty]) (x := emp) (s := 1) (f := cStr) (Row.drew (by simpa using Row.new ((w.alloc _).alloc _) 9 (zeros [.string ByteArray.empty] k))) rfl (fun _ => rfl) p1
      · exact own_zeros (t := 4) (zs := [.bool false]) (x := false) (s := 1) (f := cBool) (Row.drew (Row.alloc (by simpa using Row.new (w.alloc _) 4 (zeros [.bool false] k)) _)) rfl (fun _ => rfl) p1
      · exact show Below _ _ _ by go_grown
  · have h1 : snR r n = emp := if_neg hok
    have h2 : snC r n = 0 := if_neg hok
    have h3 : snH r n = [] := if_neg hok
    have h4 : snG r n = [] := if_neg hok
    rw [h1, h2, h3, h4, decide_eq_false hok]
    clear h1 h2 h3 h4
    have z1 : OwnI (w.alloc (.cells #[.string ByteArray.empty, .int .i64 0, .slice none 0 0, .slice none 0 0] 25)) w.heap.size w.heap.size 1 cStr (.slice none 0 0) [] := ⟨⟨none, 0, rfl, Nat.le_refl _, by simp [maxLen], fun h => absurd rfl h⟩, fun _ h => absurd rfl h⟩
    have z2 : OwnI (w.alloc (.cells #[.string ByteArray.empty, .int .i64 0, .slice none 0 0, .slice none 0 0] 25)) w.heap.size w.heap.size 1 cBool (.slice none 0 0) [] := ⟨⟨none, 0, rfl, Nat.le_refl _, by simp [maxLen], fun h => absurd rfl h⟩, fun _ h => absurd rfl h⟩
    have Z := Lib.hid (And.intro z1 z2)
    clear z1 z2
    by_cases b1 : r.size = 32
    · have d1 : ((r.size : Int) != 32) = false := by simp; omega
      have hn : n < 1 ∨ 40 < n := by unfold newOk at hok; omega
      clear b1 hok
      go_enter Try.func7, Try.ntmps7
      go_wp2_with fail
      refine (l1In_no _ _ _ _ hn).mono ?_
      rintro e w' ⟨rfl, hw⟩
      subst w'
      go_wp2_with fail
      refine bodyPost_ret (v := .tuple #[.agg #[.string emp, .int .i64 0, .slice none 0 0, .slice none 0 0], .bool false]) (by simp [results, Try.results7, go_sem]; rfl) rfl ?_
      exact ⟨_, _, rfl, ⟨_, _, _, _, Z.out.1, Z.out.2, Nat.le_refl _, by simp, Nat.le_refl _, by simp, .inl (Nat.le_refl _)⟩, show Below _ _ _ by go_grown⟩
    · have d1 : ((r.size : Int) != 32) = true := bne_iff_ne.2 (by omega)
      clear b1 hok
      go_enter Try.func7, Try.ntmps7
      go_wp2_with fail
      refine bodyPost_ret (v := .tuple #[.agg #[.string emp, .int .i64 0, .slice none 0 0, .slice none 0 0], .bool false]) (by simp [results, Try.results7, go_sem]; rfl) rfl ?_
      exact ⟨_, _, rfl, ⟨_, _, _, _, Z.out.1, Z.out.2, Nat.le_refl _, by simp, Nat.le_refl _, by simp, .inl (Nat.le_refl _)⟩, show Below _ _ _ by go_grown⟩

set_option maxHeartbeats 4000000 in
theorem snapNew_impl (r : ByteArray) (n : Int) (w : World) (hr : r.size ≤ 140737488351232) :
    Calls Try.prog 8 #[.string r, .int .i64 n] w (NewSnapB w (snR r n) (snC r n) (snH r n) (snG r n) (decide (newOk r n))) := by
  by_cases hok : newOk r n
  · have h1 : snR r n = r := if_pos hok
    have h2 : snC r n = n := if_pos hok
    have h3 : snH r n = List.replicate n.toNat emp := if_pos hok
    have h4 : snG r n = List.replicate n.toNat false := if_pos hok
    rw [h1, h2, h3, h4, decide_eq_true hok]
    obtain ⟨b1, b2, b3⟩ := hok
    clear h1 h2 h3 h4
    obtain ⟨k, rfl⟩ := Int.eq_ofNat_of_zero_le (by omega : 0 ≤ n)
    have d1 : ((r.size : Int) != 32) = false := by simp; omega
    have HB := Lib.hid b1
    clear b1
    rw [Int.toNat_natCast]
    have hm1 := fun W : World => run_mk (P := Try.prog) 22 9 _ [.string ByteArray.empty] 1 16 Try.underlying22 info_str rfl rfl .i64 .i64 k (by omega) (by omega) W
    have hm2 := fun W : World => run_mk (P := Try.prog) 23 4 _ [.bool false] 1 1 Try.underlying23 info_Bool rfl rfl .i64 .i64 k (by omega) (by omega) W
    go_enter Try.func8, Try.ntmps8
    go_wp2_with fail
    refine (within_yes _ _ _ _ (by omega) (by omega)).mono ?_
    rintro e w' ⟨rfl, hw⟩
    subst w'
    go_wp2_with fail
    go_region
    · have p1 : k ≤ maxLen := by simp only [maxLen]; omega
      clear hm1 hm2
      go_wp2_with fail
      refine bodyPost_ret (v := .tuple #[.agg #[.string r, .int .i64 k, .slice (some ⟨w.heap.size + 1, 0, none⟩) k k, .slice (some ⟨w.heap.size + 1 + 1, 0, none⟩) k k], .bool true]) (by simp [results, Try.results8, go_sem]) rfl ?_
      refine ⟨_, _, rfl, ⟨w.heap.size + 1, w.heap.size + 2, w.heap.size + 1 + 1, w.heap.size + 1 + 1 + 1, ?_, ?_, by omega, by simp, by omega, by simp, .inl (by omega)⟩, ?_⟩
      · exact own_zeros (t := 9) (zs := [.string ByteArray.empty]) (x := emp) (s := 1) (f := cStr) (Row.drew (Row.alloc (by simpa using Row.new (w.alloc _) 9 (zeros [.string ByteArray.empty] k)) _)) rfl (fun _ => rfl) p1
      · exact own_zeros (t := 4) (zs := [.bool false]) (x := false) (s := 1) (f := cBool) (Row.drew (by simpa using Row.new ((w.alloc _).alloc _) 4 (zeros [.bool false] k))) rfl (fun _ => rfl) p1
      · exact show Below _ _ _ by go_grown
    · have p1 : k ≤ maxLen := by simp only [maxLen]; omega
      clear hm1 hm2
      go_wp2_with fail
      refine bodyPost_ret (v := .tuple #[.agg #[.string r, .int .i64 k, .slice (some ⟨w.heap.size + 1 + 1, 0, none⟩) k k, .slice (some ⟨w.heap.size + 1, 0, none⟩) k k], .bool true]) (by simp [results, Try.results8, go_sem]) rfl ?_
      refine ⟨_, _, rfl, ⟨w.heap.size + 1 + 1, w.heap.size + 1 + 1 + 1, w.heap.size + 1, w.heap.size + 2, ?_, ?_, by omega, by simp, by omega, by simp, .inr (by omega)⟩, ?_⟩
      · exact own_zeros (t := 9) (zs := [.string ByteArray.empty]) (x := emp) (s := 1) (f := cStr) (Row.drew (by simpa using Row.new ((w.alloc _).alloc _) 9 (zeros [.string ByteArray.empty] k))) rfl (fun _ => rfl) p1
      · exact own_zeros (t := 4) (zs := [.bool false]) (x := false) (s := 1) (f := cBool) (Row.drew (Row.alloc (by simpa using Row.new (w.alloc _) 4 (zeros [.bool false] k)) _)) rfl (fun _ => rfl) p1
      · exact show Below _ _ _ by go_grown
  · have h1 : snR r n = emp := if_neg hok
    have h2 : snC r n = 0 := if_neg hok
    have h3 : snH r n = [] := if_neg hok
    have h4 : snG r n = [] := if_neg hok
    rw [h1, h2, h3, h4, decide_eq_false hok]
    clear h1 h2 h3 h4
    have z1 : OwnI (w.alloc (.cells #[.string ByteArray.empty, .int .i64 0, .slice none 0 0, .slice none 0 0] 25)) w.heap.size w.heap.size 1 cStr (.slice none 0 0) [] := ⟨⟨none, 0, rfl, Nat.le_refl _, by simp [maxLen], fun h => absurd rfl h⟩, fun _ h => absurd rfl h⟩
    have z2 : OwnI (w.alloc (.cells #[.string ByteArray.empty, .int .i64 0, .slice none 0 0, .slice none 0 0] 25)) w.heap.size w.heap.size 1 cBool (.slice none 0 0) [] := ⟨⟨none, 0, rfl, Nat.le_refl _, by simp [maxLen], fun h => absurd rfl h⟩, fun _ h => absurd rfl h⟩
    have Z := Lib.hid (And.intro z1 z2)
    clear z1 z2
    by_cases b1 : r.size = 32
    · have d1 : ((r.size : Int) != 32) = false := by simp; omega
      have hn : n < 1 ∨ 40 < n := by unfold newOk at hok; omega
      clear b1 hok
      go_enter Try.func8, Try.ntmps8
      go_wp2_with fail
      refine (within_no _ _ _ _ hn).mono ?_
      rintro e w' ⟨rfl, hw⟩
      subst w'
      go_wp2_with fail
      refine bodyPost_ret (v := .tuple #[.agg #[.string emp, .int .i64 0, .slice none 0 0, .slice none 0 0], .bool false]) (by simp [results, Try.results8, go_sem]; rfl) rfl ?_
      exact ⟨_, _, rfl, ⟨_, _, _, _, Z.out.1, Z.out.2, Nat.le_refl _, by simp, Nat.le_refl _, by simp, .inl (Nat.le_refl _)⟩, show Below _ _ _ by go_grown⟩
    · have d1 : ((r.size : Int) != 32) = true := bne_iff_ne.2 (by omega)
      clear b1 hok
      go_enter Try.func8, Try.ntmps8
      go_wp2_with fail
      refine bodyPost_ret (v := .tuple #[.agg #[.string emp, .int .i64 0, .slice none 0 0, .slice none 0 0], .bool false]) (by simp [results, Try.results8, go_sem]; rfl) rfl ?_
      exact ⟨_, _, rfl, ⟨_, _, _, _, Z.out.1, Z.out.2, Nat.le_refl _, by simp, Nat.le_refl _, by simp, .inl (Nat.le_refl _)⟩, show Below _ _ _ by go_grown⟩

end Go.Proofs.Ytilgmdgipeimaaa
