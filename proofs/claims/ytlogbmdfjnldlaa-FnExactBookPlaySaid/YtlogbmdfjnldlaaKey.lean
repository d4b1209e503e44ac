/-
  The keys of a ledger: l36Key, isKey and letters, by contracts.
-/
import Derived.Test.YtlogbmdfjnldlaaWithin
namespace Go.Proofs.Ytlogbmdfjnldlaa
set_option maxRecDepth 100000
set_option linter.unusedVariables false
set_option linter.unusedSimpArgs false
open Go.RowKit

def az (c : UInt8) : Prop := 97 ≤ c.toNat ∧ c.toNat ≤ 122
instance (c : UInt8) : Decidable (az c) := by unfold az; infer_instance
def keyOk (s : ByteArray) : Prop := 1 ≤ s.size ∧ s.size ≤ 8 ∧ ∀ c ∈ s.data.toList, az c
instance (s : ByteArray) : Decidable (keyOk s) := by unfold keyOk; infer_instance

theorem ba_mem (s : ByteArray) (k : Nat) (h : k < s.size) : s[k] ∈ s.data.toList := by
  have : s[k] = s.data.toList[k]'(by simpa using h) := by simp [ByteArray.getElem_eq_getElem_data]
  rw [this]
  exact List.getElem_mem _
theorem ba_all {s : ByteArray} {p : UInt8 → Prop} (h : ∀ j (hj : j < s.size), p s[j]) : ∀ c ∈ s.data.toList, p c := by
  intro c hc
  obtain ⟨i, hi, rfl⟩ := List.getElem_of_mem hc
  have hi' : i < s.size := by simpa using hi
  have := h i hi'
  simpa [ByteArray.getElem_eq_getElem_data] using this

set_option maxHeartbeats 1000000 in
theorem l36Key_any (s : ByteArray) (w : World) (hs : s.size ≤ maxLen) : Calls Try.prog 116 #[.string s] w fun e w' => e = .returned (.bool (decide (keyOk s))) ∧ w' = w := by
  unfold maxLen at hs
  by_cases h1 : s.size < 1 ∨ 8 < s.size
  · have hne : decide (keyOk s) = false := decide_eq_false fun e => by have h2 := e.1; have h3 := e.2.1; omega
    rw [hne]
    clear hne
    go_enter Try.func116, Try.ntmps116
    go_wp2_with fail
    refine (l1In_no _ _ _ _ (by omega)).mono ?_
    rintro e w' ⟨rfl, rfl⟩
    go_wp2_with fail
    go_ret
    exact ⟨rfl, rfl⟩
  have h2 : 1 ≤ s.size := by omega
  have h3 : s.size ≤ 8 := by omega
  clear h1
  go_enter Try.func116, Try.ntmps116
  go_wp2_with fail
  refine (l1In_yes _ _ _ _ (by omega) (by omega)).mono ?_
  rintro e w' ⟨rfl, rfl⟩
  go_wp2_with fail
  go_loop [3] (fun i => ∃ k : Nat, k ≤ s.size ∧ i = .int .i64 k ∧ ∀ j (hj : j < s.size), j < k → az s[j]) (fun i => s.size - (intOf i).toNat)
  case atStart => exact ⟨0, Nat.zero_le _, rfl, fun j _ h => by omega⟩
  case round =>
    obtain ⟨k, hk, rfl, hall⟩ := hrel
    have HA := Lib.hid hall
    clear hall
    by_cases hlt : k < s.size
    · by_cases ha : az s[k]
      · have HZ := Lib.hid ha
        have a1 : 97 ≤ s[k].toNat := ha.1
        have a2 : s[k].toNat ≤ 122 := ha.2
        have d1 : decide ((s[k].toNat : Int) < 97) = false := decide_eq_false (by omega)
        have d2 : decide ((122 : Int) < (s[k].toNat : Int)) = false := decide_eq_false (by omega)
        clear ha
        go_wp2_with fail
        go_round
        case rel =>
          refine ⟨k + 1, by omega, by go_num, fun j hj h => ?_⟩
          rcases Nat.lt_or_ge j k with h' | h'
          · exact HA.out j hj h'
          · obtain rfl : j = k := by omega
            exact HZ.out
        case measure => simp [intOf]; omega
      · have hne : decide (keyOk s) = false := decide_eq_false fun e => ha (e.2.2 _ (ba_mem s k hlt))
        have HN := Lib.hid hne
        clear hne
        by_cases c1 : s[k].toNat < 97
        · have d1 : decide ((s[k].toNat : Int) < 97) = true := decide_eq_true (by omega)
          clear ha
          go_wp2_with fail
          go_ret
          exact ⟨ret_bool HN.out.symm, rfl⟩
        · have c2 : 122 < s[k].toNat := by unfold az at ha; omega
          have d1 : decide ((s[k].toNat : Int) < 97) = false := decide_eq_false (by omega)
          have d2 : decide ((122 : Int) < (s[k].toNat : Int)) = true := decide_eq_true (by omega)
          clear ha
          go_wp2_with fail
          go_ret
          exact ⟨ret_bool HN.out.symm, rfl⟩
    · have hok : decide (keyOk s) = true := decide_eq_true ⟨h2, h3, ba_all fun j hj => HA.out j hj (by omega)⟩
      have HN := Lib.hid hok
      clear hok
      go_wp2_with fail
      go_ret
      exact ⟨ret_bool HN.out.symm, rfl⟩
/-- how many letters a string begins with -/
def lettersN (s : ByteArray) : Nat := (s.data.toList.takeWhile fun c => decide (az c)).length
theorem lettersN_le (s : ByteArray) : lettersN s ≤ s.size := by
  unfold lettersN
  have := (List.takeWhile_prefix (l := s.data.toList) fun c => decide (az c)).length_le
  simpa using this
theorem tw_all {α : Type} (p : α → Bool) (l : List α) : (l.takeWhile p).length = l.length ↔ ∀ c ∈ l, p c = true := by
  induction l with
  | nil => simp
  | cons x r ih =>
    rw [List.takeWhile_cons]
    cases hx : p x with
    | true => simp [ih, hx]
    | false => simp [hx]
theorem takeWhile_len {α : Type} (p : α → Bool) (l : List α) : ∀ k : Nat, k ≤ l.length → (∀ j (hj : j < l.length), j < k → p l[j] = true) → (∀ hk : k < l.length, p l[k] = false) → (l.takeWhile p).length = k := by
  induction l with
  | nil => intro k h _ _; simp at h; simp [h]
  | cons x r ih =>
    intro k h h1 h2
    cases k with
    | zero =>
      have := h2 (by simp)
      simp at this
      simp [this]
    | succ k =>
      have hx := h1 0 (by simp) (by omega)
      simp at hx
      rw [List.takeWhile_cons, hx]
      simp only [if_true, List.length_cons]
      rw [ih k (by simpa using h) (fun j hj hjk => by have := h1 (j + 1) (by simpa using hj) (by omega); simpa using this) (fun hk => by have := h2 (by simpa using hk); simpa using this)]
theorem lettersN_of (s : ByteArray) (k : Nat) (hk : k ≤ s.size) (h1 : ∀ j (hj : j < s.size), j < k → az s[j]) (h2 : ∀ h : k < s.size, ¬ az s[k]) : lettersN s = k := by
  unfold lettersN
  refine takeWhile_len _ _ k (by simpa using hk) (fun j hj hjk => ?_) (fun h => ?_)
  · have hj' : j < s.size := by simpa using hj
    have := h1 j hj' hjk
    rw [decide_eq_true_eq]
    simpa [ByteArray.getElem_eq_getElem_data] using this
  · have h' : k < s.size := by simpa using h
    have := h2 h'
    rw [decide_eq_false_iff_not]
    simpa [ByteArray.getElem_eq_getElem_data] using this
theorem lettersN_all (s : ByteArray) : lettersN s = s.size ↔ ∀ c ∈ s.data.toList, az c := by
  have e : s.size = s.data.toList.length := by simp
  unfold lettersN
  rw [e]
  rw [tw_all]
  simp

set_option maxHeartbeats 1000000 in
theorem letters_any (s : ByteArray) (w : World) (hs : s.size ≤ maxLen) : Calls Try.prog 135 #[.string s] w fun e w' => e = .returned (.int .i64 (lettersN s)) ∧ w' = w := by
  unfold maxLen at hs
  go_enter Try.func135, Try.ntmps135
  go_wp2_with fail
  go_loop [3] (fun i => ∃ k : Nat, k ≤ s.size ∧ i = .int .i64 k ∧ ∀ j (hj : j < s.size), j < k → az s[j]) (fun i => s.size - (intOf i).toNat)
  case atStart => exact ⟨0, Nat.zero_le _, rfl, fun j _ h => by omega⟩
  case round =>
    obtain ⟨k, hk, rfl, hall⟩ := hrel
    have HA := Lib.hid hall
    clear hall
    by_cases hlt : k < s.size
    · have d0 : decide ((k : Int) < (s.size : Int)) = true := decide_eq_true (by omega)
      by_cases c1 : s[k].toNat < 97
      · have HN := Lib.hid (lettersN_of s k hk HA.out (fun h e => by unfold az at e; omega))
        have d1 : decide ((97 : Int) ≤ (s[k].toNat : Int)) = false := decide_eq_false (by omega)
        go_wp2_with fail
        go_ret
        exact ⟨ret_int (by rw [HN.out]), rfl⟩
      have d1 : decide ((97 : Int) ≤ (s[k].toNat : Int)) = true := decide_eq_true (by omega)
      by_cases c2 : 122 < s[k].toNat
      · have HN := Lib.hid (lettersN_of s k hk HA.out (fun h e => by unfold az at e; omega))
        have d2 : decide ((s[k].toNat : Int) ≤ 122) = false := decide_eq_false (by omega)
        go_wp2_with fail
        go_ret
        exact ⟨ret_int (by rw [HN.out]), rfl⟩
      have d2 : decide ((s[k].toNat : Int) ≤ 122) = true := decide_eq_true (by omega)
      have HZ := Lib.hid (show az s[k] from ⟨by omega, by omega⟩)
      go_wp2_with fail
      go_round
      case rel =>
        refine ⟨k + 1, by omega, by go_num, fun j hj h => ?_⟩
        rcases Nat.lt_or_ge j k with h' | h'
        · exact HA.out j hj h'
        · obtain rfl : j = k := by omega
          exact HZ.out
      case measure => simp [intOf]; omega
    · have HN := Lib.hid (lettersN_of s k hk HA.out (fun h => absurd h hlt))
      have d0 : decide ((k : Int) < (s.size : Int)) = false := decide_eq_false (by omega)
      go_wp2_with fail
      go_ret
      exact ⟨ret_int (by rw [HN.out]), rfl⟩
set_option maxHeartbeats 1000000 in
theorem isKey_any (s : ByteArray) (w : World) (hs : s.size ≤ maxLen) : Calls Try.prog 134 #[.string s] w fun e w' => e = .returned (.bool (decide (keyOk s))) ∧ w' = w := by
  have hs' := hs
  unfold maxLen at hs
  by_cases h1 : s.size < 1 ∨ 8 < s.size
  · have hne : decide (keyOk s) = false := decide_eq_false fun e => by have h2 := e.1; have h3 := e.2.1; omega
    rw [hne]
    clear hne
    go_enter Try.func134, Try.ntmps134
    go_wp2_with fail
    refine (within_no _ _ _ _ (by omega)).mono ?_
    rintro e w' ⟨rfl, rfl⟩
    go_wp2_with fail
    go_ret
    exact ⟨rfl, rfl⟩
  have h2 : 1 ≤ s.size := by omega
  have h3 : s.size ≤ 8 := by omega
  have HL := Lib.hid hs'
  clear h1 hs'
  by_cases ha : lettersN s = s.size
  · have hne : decide (keyOk s) = true := decide_eq_true ⟨h2, h3, (lettersN_all s).1 ha⟩
    have HB : ((lettersN s : Int) == (s.size : Int)) = true := beq_iff_eq.2 (by omega)
    rw [hne]
    clear hne ha
    go_enter Try.func134, Try.ntmps134
    go_wp2_with fail
    refine (within_yes _ _ _ _ (by omega) (by omega)).mono ?_
    rintro e w' ⟨rfl, rfl⟩
    go_wp2_with fail
    refine (letters_any s _ HL.out).mono ?_
    rintro e w' ⟨rfl, rfl⟩
    go_wp2_with fail
    go_ret
    exact ⟨rfl, rfl⟩
  · have hne : decide (keyOk s) = false := decide_eq_false fun e => ha ((lettersN_all s).2 e.2.2)
    have HB : ((lettersN s : Int) == (s.size : Int)) = false := beq_eq_false_iff_ne.2 (by omega)
    rw [hne]
    clear hne ha
    go_enter Try.func134, Try.ntmps134
    go_wp2_with fail
    refine (within_yes _ _ _ _ (by omega) (by omega)).mono ?_
    rintro e w' ⟨rfl, rfl⟩
    go_wp2_with fail
    refine (letters_any s _ HL.out).mono ?_
    rintro e w' ⟨rfl, rfl⟩
    go_wp2_with fail
    go_ret
    exact ⟨rfl, rfl⟩

end Go.Proofs.Ytlogbmdfjnldlaa
