/-
  MuchAlike of spec and impl, by one contract.
-/
import Derived.Test.YteaohgacgcjkjaaDoorStr
namespace Go.Proofs.YteaohgacgcjkjaaDoor
set_option maxRecDepth 100000
set_option linter.unusedVariables false
set_option linter.unusedSimpArgs false
open Go.RowKit

/-- the length of the longest common prefix -/
def lcp : List ByteArray → List ByteArray → Nat
  | x :: xs, y :: ys => if x = y then lcp xs ys + 1 else 0
  | _, _ => 0

theorem lcp_of (xs ys : List ByteArray) : ∀ k : Nat, xs.take k = ys.take k → (xs.length ≤ k ∨ ys.length ≤ k ∨ ∃ (h1 : k < xs.length) (h2 : k < ys.length), ¬ xs[k] = ys[k]) → k ≤ xs.length → k ≤ ys.length → lcp xs ys = k := by
  induction xs generalizing ys with
  | nil => intro k _ _ h _; simp at h; subst h; simp [lcp]
  | cons x xs ih =>
    intro k ht hend h1 h2
    cases ys with
    | nil => simp at h2; subst h2; simp [lcp]
    | cons y ys =>
      cases k with
      | zero =>
        rcases hend with h | h | ⟨_, _, h⟩
        · simp at h
        · simp at h
        · simp at h; simp [lcp, h]
      | succ k =>
        simp only [List.take_succ_cons, List.cons.injEq] at ht
        obtain ⟨e, ht⟩ := ht
        simp only [List.length_cons] at h1 h2 hend
        rw [lcp, if_pos e, ih ys k ht ?_ (by omega) (by omega)]
        rcases hend with h | h | ⟨a, b, h⟩
        · exact .inl (by omega)
        · exact .inr (.inl (by omega))
        · exact .inr (.inr ⟨by omega, by omega, by simpa using h⟩)

set_option maxHeartbeats 400000 in
theorem muchAlike_spec (v1 v2 : Value) (xs ys : List ByteArray) (B : Nat) (w : World) (h1 : RdS w B 1 cStr v1 xs) (h2 : RdS w B 1 cStr v2 ys) (hn : xs.length ≤ 8796093022207) (hn2 : ys.length ≤ 8796093022207) :
    Calls Tryd.prog 16 #[v1, v2] w (Quiet (.int .i64 (lcp xs ys)) w) := by
  obtain ⟨A1, c1, rfl, hlc1, hcm1, hcell1⟩ := h1
  obtain ⟨A2, c2, rfl, hlc2, hcm2, hcell2⟩ := h2
  go_enter Tryd.func16, Tryd.ntmps16
  go_wp2
  go_loopw [5] (fun i wr => ∃ k m : Nat, k ≤ xs.length ∧ k ≤ ys.length ∧ i = .int .i64 k ∧ wr = w.drewN m ∧ xs.take k = ys.take k) (fun i _ => xs.length - (intOf i).toNat)
  case atStart => exact ⟨0, 0, Nat.zero_le _, Nat.zero_le _, rfl, rfl, by simp⟩
  case round =>
    obtain ⟨k, m, hk, hk2, rfl, rfl, heq⟩ := hrel
    have HE := Lib.hid heq
    clear heq
    by_cases hlt : k < xs.length
    · by_cases hlt2 : k < ys.length
      · obtain ⟨b1, o1, rfl, -, hcA⟩ := hcell1 (by intro e; simp [e] at hlt)
        obtain ⟨b2, o2, rfl, -, hcB⟩ := hcell2 (by intro e; simp [e] at hlt2)
        have hx := hcA k _ (List.getElem?_eq_getElem hlt) 0 _ rfl
        have hy := hcB k _ (List.getElem?_eq_getElem hlt2) 0 _ rfl
        simp only [Nat.mul_one, Nat.add_zero] at hx hy
        clear hcA hcB hcell1 hcell2
        by_cases hxy : xs[k] = ys[k]
        · have hq : (xs[k].toList == ys[k].toList) = true := by rw [ba_beq, hxy]; simp
          have HX := Lib.hid hxy
          clear hxy
          go_wp2
          go_quiet (fail)
          go_wp2
          go_roundw
          case rel => exact ⟨k + 1, _, by omega, by omega, by go_num, rfl, by rw [List.take_succ_eq_append_getElem hlt, List.take_succ_eq_append_getElem hlt2, HE.out, HX.out]⟩
          case measure => simp [intOf]; omega
        · have hq : (xs[k].toList == ys[k].toList) = false := by rw [ba_beq]; simpa using hxy
          have hl := lcp_of xs ys k HE.out (.inr (.inr ⟨hlt, hlt2, hxy⟩)) hk hk2
          have HN := Lib.hid hl
          clear hl hxy
          go_wp2
          go_quiet (fail)
          go_wp2
          go_ret
          exact ⟨ret_int (by rw [HN.out]), _, World.drewN_drewN _ _ _⟩
      · have hl := lcp_of xs ys k HE.out (.inr (.inl (by omega))) hk hk2
        have HN := Lib.hid hl
        clear hl
        have hd : decide ((k : Int) < xs.length) = true := by simp; omega
        have hd2 : decide ((k : Int) < ys.length) = false := by simp; omega
        go_wp2
        go_quiet (fail)
        go_wp2
        go_ret
        exact ⟨ret_int (by rw [HN.out]), _, World.drewN_drewN _ _ _⟩
    · have hl := lcp_of xs ys k HE.out (.inl (by omega)) hk hk2
      have HN := Lib.hid hl
      clear hl
      have hd : decide ((k : Int) < xs.length) = false := by simp; omega
      go_wp2
      go_quiet (fail)
      go_wp2
      go_ret
      exact ⟨ret_int (by rw [HN.out]), _, World.drewN_drewN _ _ _⟩

set_option maxHeartbeats 400000 in
theorem muchAlike_impl (v1 v2 : Value) (xs ys : List ByteArray) (B : Nat) (w : World) (h1 : RdS w B 1 cStr v1 xs) (h2 : RdS w B 1 cStr v2 ys) (hn : xs.length ≤ 8796093022207) (hn2 : ys.length ≤ 8796093022207) :
    Calls Tryd.prog 15 #[v1, v2] w (Quiet (.int .i64 (lcp xs ys)) w) := by
  obtain ⟨A1, c1, rfl, hlc1, hcm1, hcell1⟩ := h1
  obtain ⟨A2, c2, rfl, hlc2, hcm2, hcell2⟩ := h2
  go_enter Tryd.func15, Tryd.ntmps15
  go_wp2
  go_loopw [5] (fun i wr => ∃ k m : Nat, k ≤ xs.length ∧ k ≤ ys.length ∧ i = .int .i64 k ∧ wr = w.drewN m ∧ xs.take k = ys.take k) (fun i _ => xs.length - (intOf i).toNat)
  case atStart => exact ⟨0, 0, Nat.zero_le _, Nat.zero_le _, rfl, rfl, by simp⟩
  case round =>
    obtain ⟨k, m, hk, hk2, rfl, rfl, heq⟩ := hrel
    have HE := Lib.hid heq
    clear heq
    by_cases hlt : k < xs.length
    · by_cases hlt2 : k < ys.length
      · obtain ⟨b1, o1, rfl, -, hcA⟩ := hcell1 (by intro e; simp [e] at hlt)
        obtain ⟨b2, o2, rfl, -, hcB⟩ := hcell2 (by intro e; simp [e] at hlt2)
        have hx := hcA k _ (List.getElem?_eq_getElem hlt) 0 _ rfl
        have hy := hcB k _ (List.getElem?_eq_getElem hlt2) 0 _ rfl
        simp only [Nat.mul_one, Nat.add_zero] at hx hy
        clear hcA hcB hcell1 hcell2
        by_cases hxy : xs[k] = ys[k]
        · have hq : (xs[k].toList == ys[k].toList) = true := by rw [ba_beq, hxy]; simp
          have HX := Lib.hid hxy
          clear hxy
          go_wp2
          go_quiet (fail)
          go_wp2
          go_roundw
          case rel => exact ⟨k + 1, _, by omega, by omega, by go_num, rfl, by rw [List.take_succ_eq_append_getElem hlt, List.take_succ_eq_append_getElem hlt2, HE.out, HX.out]⟩
          case measure => simp [intOf]; omega
        · have hq : (xs[k].toList == ys[k].toList) = false := by rw [ba_beq]; simpa using hxy
          have hl := lcp_of xs ys k HE.out (.inr (.inr ⟨hlt, hlt2, hxy⟩)) hk hk2
          have HN := Lib.hid hl
          clear hl hxy
          go_wp2
          go_quiet (fail)
          go_wp2
          go_ret
          exact ⟨ret_int (by rw [HN.out]), _, World.drewN_drewN _ _ _⟩
      · have hl := lcp_of xs ys k HE.out (.inr (.inl (by omega))) hk hk2
        have HN := Lib.hid hl
        clear hl
        have hd : decide ((k : Int) < xs.length) = true := by simp; omega
        have hd2 : decide ((k : Int) < ys.length) = false := by simp; omega
        go_wp2
        go_quiet (fail)
        go_wp2
        go_ret
        exact ⟨ret_int (by rw [HN.out]), _, World.drewN_drewN _ _ _⟩
    · have hl := lcp_of xs ys k HE.out (.inl (by omega)) hk hk2
      have HN := Lib.hid hl
      clear hl
      have hd : decide ((k : Int) < xs.length) = false := by simp; omega
      go_wp2
      go_quiet (fail)
      go_wp2
      go_ret
      exact ⟨ret_int (by rw [HN.out]), _, World.drewN_drewN _ _ _⟩

end Go.Proofs.YteaohgacgcjkjaaDoor
