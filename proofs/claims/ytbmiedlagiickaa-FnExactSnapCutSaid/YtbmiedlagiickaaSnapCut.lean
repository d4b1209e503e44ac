/-
  SnapCut of spec and impl, by one contract.
-/
import Derived.Test.YtbmiedlagiickaaStr
import Derived.Lib.Strings
namespace Go.Proofs.Ytbmiedlagiickaa
open Go.RowKit

/-- the first k pieces of s -/
def pieces (s : ByteArray) (k : Nat) : List ByteArray := (List.range k).map fun i => s.extract (10 * i) (min (10 * i + 10) s.size)
theorem length_pieces (s : ByteArray) (k : Nat) : (pieces s k).length = k := by simp [pieces]
theorem pieces_next (s : ByteArray) (k : Nat) : pieces s (k + 1) = pieces s k ++ [s.extract (10 * k) (min (10 * k + 10) s.size)] := by
  simp [pieces, List.range_succ]
/-- the pieces of s; none if there are too many -/
def cut (s : ByteArray) : List ByteArray := if 400 < s.size then [] else pieces s ((s.size + 9) / 10)
theorem cut_le (s : ByteArray) : (cut s).length ≤ 40 := by
  unfold cut
  split
  · simp
  · rw [length_pieces]; omega

theorem info_strT : (Try.prog.info? 9).map (fun i => (i.zero, i.size, i.bytes)) = some (some (.string ByteArray.empty), 1, 16) := by kernel_rfl

set_option maxRecDepth 100000 in
set_option maxHeartbeats 1000000 in
theorem snapCut_spec (s : ByteArray) (w : World) (hs : s.size ≤ 140737488351232) : Calls Try.prog 19 #[.string s] w (NewS w 1 cStr (cut s)) := by
  obtain ⟨i0, hi, hz0, hz1, hz2⟩ := info_parts info_strT
  by_cases hbig : 400 < s.size
  · have hc : cut s = [] := if_pos hbig
    rw [hc]
    go_enter Try.func19, Try.ntmps19
    go_wp2_with fail
    go_ret
    exact ⟨_, rfl, OwnS.of_own (own_empty w _ 9 1 (Nat.le_refl _)) rfl (fun _ => rfl), Below.alloc (Below.refl _ _) (Nat.le_refl _) _⟩
  have hc : cut s = pieces s ((s.size + 9) / 10) := if_neg hbig
  rw [hc]
  have HC := Lib.hid hc
  have hle : s.size ≤ 400 := by omega
  clear hc hbig
  go_enter Try.func19, Try.ntmps19
  go_wp2_with fail
  go_loopw [3, 4] (fun v i wr => ∃ k p : Nat, p = 10 * k ∧ p < s.size + 10 ∧ i = .int .i64 p ∧ wr.ownsRow w.heap.size 9 1 v k ((pieces s k).flatMap cStr) ∧ Keeps w wr) (fun _ i _ => s.size + 10 - (intOf i).toNat)
  case atStart => exact ⟨0, 0, rfl, by omega, rfl, own_empty w _ _ _ (Nat.le_refl _), Below.alloc (Below.refl _ _) (Nat.le_refl _) _⟩
  case round =>
    obtain ⟨k, p, hp, hk, rfl, hown, hb⟩ := hrel
    have HP := Lib.hid hp
    have hk40 : k ≤ 41 := by omega
    clear hp
    by_cases hlt : p < s.size
    · by_cases hend : p + 10 ≤ s.size
      · have ep : s.extract p (p + 10) = s.extract (10 * k) (min (10 * k + 10) s.size) := by rw [HP.out, Nat.min_eq_left (by have := HP.out; omega)]
        have EP := Lib.hid ep
        have hd : decide ((s.size : Int) < (p : Int) + 10) = false := decide_eq_false (by omega)
        have hm : min ((p : Int) + 10) (s.size : Int) = (p : Int) + 10 := by omega
        clear ep
        go_wp2_with (at_builtin; refine wp_app1 wr cStr (s.extract p (p + 10)) _ _ 22 w.heap.size 9 1 16 (.string ByteArray.empty) rfl rfl Try.underlying22 info_strT rfl (by decide) _ k (pieces s k) rfl hown rfl rfl (by intro u hu; simp [cStr] at hu; subst hu; rfl) (by omega) (by omega) (Below.size hb) ?_; intro v' w' hown' hb')
        go_roundw
        case rel => exact ⟨k + 1, p + 10, by rw [HP.out]; omega, by omega, by go_num, by rw [pieces_next, ← EP.out]; exact hown', Below.trans hb (Below.mono hb' (Nat.le_refl _))⟩
        case measure => simp [intOf]; omega
      · have ep : s.extract p s.size = s.extract (10 * k) (min (10 * k + 10) s.size) := by rw [HP.out, Nat.min_eq_right (by have := HP.out; omega)]
        have EP := Lib.hid ep
        have hd : decide ((s.size : Int) < (p : Int) + 10) = true := decide_eq_true (by omega)
        have hm : min ((p : Int) + 10) (s.size : Int) = (s.size : Int) := by omega
        clear ep
        go_wp2_with (at_builtin; refine wp_app1 wr cStr (s.extract p s.size) _ _ 22 w.heap.size 9 1 16 (.string ByteArray.empty) rfl rfl Try.underlying22 info_strT rfl (by decide) _ k (pieces s k) rfl hown rfl rfl (by intro u hu; simp [cStr] at hu; subst hu; rfl) (by omega) (by omega) (Below.size hb) ?_; intro v' w' hown' hb')
        go_roundw
        case rel => exact ⟨k + 1, p + 10, by rw [HP.out]; omega, by omega, by go_num, by rw [pieces_next, ← EP.out]; exact hown', Below.trans hb (Below.mono hb' (Nat.le_refl _))⟩
        case measure => simp [intOf]; omega
    · go_wp2_with fail
      go_ret
      have e : k = (s.size + 9) / 10 := by have := HP.out; omega
      subst e
      exact ⟨_, rfl, OwnS.of_own hown (by rw [length_pieces]) (fun _ => rfl), hb⟩

set_option maxRecDepth 100000 in
set_option maxHeartbeats 1000000 in
theorem snapCut_impl (s : ByteArray) (w : World) (hs : s.size ≤ 140737488351232) : Calls Try.prog 20 #[.string s] w (NewS w 1 cStr (cut s)) := by
  obtain ⟨i0, hi, hz0, hz1, hz2⟩ := info_parts info_strT
  by_cases hbig : 400 < s.size
  · have hc : cut s = [] := if_pos hbig
    rw [hc]
    go_enter Try.func20, Try.ntmps20
    go_wp2_with fail
    go_ret
    exact ⟨_, rfl, ⟨none, 0, rfl, Nat.le_refl _, by simp [maxLen], fun h => absurd rfl h⟩, Below.refl _ _⟩
  have hc : cut s = pieces s ((s.size + 9) / 10) := if_neg hbig
  rw [hc]
  have HC := Lib.hid hc
  have hle : s.size ≤ 400 := by omega
  clear hc hbig
  go_enter Try.func20, Try.ntmps20
  go_wp2_with fail
  go_loopw [3, 4] (fun v i wr => ∃ k p : Nat, p = 10 * k ∧ p < s.size + 10 ∧ i = .int .i64 p ∧ wr.ownsRow w.heap.size 9 1 v k ((pieces s k).flatMap cStr) ∧ Keeps w wr) (fun _ i _ => s.size + 10 - (intOf i).toNat)
  case atStart => exact ⟨0, 0, rfl, by omega, rfl, own_empty w _ _ _ (Nat.le_refl _), Below.alloc (Below.refl _ _) (Nat.le_refl _) _⟩
  case round =>
    obtain ⟨k, p, hp, hk, rfl, hown, hb⟩ := hrel
    have HP := Lib.hid hp
    have hk40 : k ≤ 41 := by omega
    clear hp
    by_cases hlt : p < s.size
    · by_cases hend : p + 10 ≤ s.size
      · have ep : s.extract p (p + 10) = s.extract (10 * k) (min (10 * k + 10) s.size) := by rw [HP.out, Nat.min_eq_left (by have := HP.out; omega)]
        have EP := Lib.hid ep
        have hd : decide ((s.size : Int) < (p : Int) + 10) = false := decide_eq_false (by omega)
        have hm : min ((p : Int) + 10) (s.size : Int) = (p : Int) + 10 := by omega
        clear ep
        go_wp2_with (at_builtin; refine wp_app1 wr cStr (s.extract p (p + 10)) _ _ 22 w.heap.size 9 1 16 (.string ByteArray.empty) rfl rfl Try.underlying22 info_strT rfl (by decide) _ k (pieces s k) rfl hown rfl rfl (by intro u hu; simp [cStr] at hu; subst hu; rfl) (by omega) (by omega) (Below.size hb) ?_; intro v' w' hown' hb')
        go_roundw
        case rel => exact ⟨k + 1, p + 10, by rw [HP.out]; omega, by omega, by go_num, by rw [pieces_next, ← EP.out]; exact hown', Below.trans hb (Below.mono hb' (Nat.le_refl _))⟩
        case measure => simp [intOf]; omega
      · have ep : s.extract p s.size = s.extract (10 * k) (min (10 * k + 10) s.size) := by rw [HP.out, Nat.min_eq_right (by have := HP.out; omega)]
        have EP := Lib.hid ep
        have hd : decide ((s.size : Int) < (p : Int) + 10) = true := decide_eq_true (by omega)
        have hm : min ((p : Int) + 10) (s.size : Int) = (s.size : Int) := by omega
        clear ep
        go_wp2_with (at_builtin; refine wp_app1 wr cStr (s.extract p s.size) _ _ 22 w.heap.size 9 1 16 (.string ByteArray.empty) rfl rfl Try.underlying22 info_strT rfl (by decide) _ k (pieces s k) rfl hown rfl rfl (by intro u hu; simp [cStr] at hu; subst hu; rfl) (by omega) (by omega) (Below.size hb) ?_; intro v' w' hown' hb')
        go_roundw
        case rel => exact ⟨k + 1, p + 10, by rw [HP.out]; omega, by omega, by go_num, by rw [pieces_next, ← EP.out]; exact hown', Below.trans hb (Below.mono hb' (Nat.le_refl _))⟩
        case measure => simp [intOf]; omega
    · go_wp2_with fail
      go_ret
      have e : k = (s.size + 9) / 10 := by have := HP.out; omega
      subst e
      exact ⟨_, rfl, OwnS.of_own hown (by rw [length_pieces]) (fun _ => rfl), hb⟩

end Go.Proofs.Ytbmiedlagiickaa
