/-
  Put together: Key EvKey.
-/
import Derived.Test.YtimnogjgokljbaaDoorWithin
import Derived.Test.YtimnogjgokljbaaDoorHEvReadD
section
/-!
  The keys of a ledger: l36Key, isKey and letters, by contracts.
-/
namespace Go.Proofs.YtimnogjgokljbaaDoor
set_option maxRecDepth 100000
set_option linter.unusedVariables false
set_option linter.unusedSimpArgs false
open Go.RowKit

def az (c : UInt8) : Prop := 97 ≤ c.toNat ∧ c.toNat ≤ 122
instance (c : UInt8) : Decidable (az c) := by unfold az; infer_instance
def keyOk (s : ByteArray) : Prop := 1 ≤ s.size ∧ s.size ≤ 8 ∧ ∀ c ∈ s.data.toList, az c
instance (s : ByteArray) : Decidable (keyOk s) := by unfold keyOk; infer_instance

theorem ba_mem (s : ByteArray) (k : Nat) (h : k < s.size) : s[k] ∈ s.data.toList := by
  have : s[k] = s.data.toList[k]'(by simpa using h) := by simp [ByteArray.getElem_eq_getElem_data]
  rw [this]
  exact List.getElem_mem _
theorem ba_all {s : ByteArray} {p : UInt8 → Prop} (h : ∀ j (hj : j < s.size), p s[j]) : ∀ c ∈ s.data.toList, p c := by
  intro c hc
  obtain ⟨i, hi, rfl⟩ := List.getElem_of_mem hc
  have hi' : i < s.size := by simpa using hi
  have := h i hi'
  simpa [ByteArray.getElem_eq_getElem_data] using this

set_option maxHeartbeats 1000000 in
theorem l36Key_any (s : ByteArray) (w : World) (hs : s.size ≤ maxLen) : Calls Tryd.prog 28 #[.string s] w fun e w' => e = .returned (.bool (decide (keyOk s))) ∧ w' = w := by
  unfold maxLen at hs
  by_cases h1 : s.size < 1 ∨ 8 < s.size
  · have hne : decide (keyOk s) = false := decide_eq_false fun e => by have h2 := e.1; have h3 := e.2.1; omega
    rw [hne]
    clear hne
    go_enter Tryd.func28, Tryd.ntmps28
    go_wp2_with fail
    refine (l1In_no _ _ _ _ (by omega)).mono ?_
    rintro e w' ⟨rfl, rfl⟩
    go_wp2_with fail
    go_ret
    exact ⟨rfl, rfl⟩
  have h2 : 1 ≤ s.size := by omega
  have h3 : s.size ≤ 8 := by omega
  clear h1
  go_enter Tryd.func28, Tryd.ntmps28
  go_wp2_with fail
  refine (l1In_yes _ _ _ _ (by omega) (by omega)).mono ?_
  rintro e w' ⟨rfl, rfl⟩
  go_wp2_with fail
  go_loop [3] (fun i => ∃ k : Nat, k ≤ s.size ∧ i = .int .i64 k ∧ ∀ j (hj : j < s.size), j < k → az s[j]) (fun i => s.size - (intOf i).toNat)
  case atStart => exact ⟨0, Nat.zero_le _, rfl, fun j _ h => by omega⟩
  case round =>
    obtain ⟨k, hk, rfl, hall⟩ := hrel
    have HA := Lib.hid hall
    clear hall
    by_cases hlt : k < s.size
    · by_cases ha : az s[k]
      · have HZ := Lib.hid ha
        have a1 : 97 ≤ s[k].toNat := ha.1
        have a2 : s[k].toNat ≤ 122 := ha.2
        have d1 : decide ((s[k].toNat : Int) < 97) = false := decide_eq_false (by omega)
        have d2 : decide ((122 : Int) < (s[k].toNat : Int)) = false := decide_eq_false (by omega)
        clear ha
        go_wp2_with fail
        go_round
        case rel =>
          refine ⟨k + 1, by omega, by go_num, fun j hj h => ?_⟩
          rcases Nat.lt_or_ge j k with h' | h'
          · exact HA.out j hj h'
          · obtain rfl : j = k := by omega
            exact HZ.out
        case measure => simp [intOf]; omega
      · have hne : decide (keyOk s) = false := decide_eq_false fun e => ha (e.2.2 _ (ba_mem s k hlt))
        have HN := Lib.hid hne
        clear hne
        by_cases c1 : s[k].toNat < 97
        · have d1 : decide ((s[k].toNat : Int) < 97) = true := decide_eq_true (by omega)
          clear ha
          go_wp2_with fail
          go_ret
          exact ⟨ret_bool HN.out.symm, rfl⟩
        · have c2 : 122 < s[k].toNat := by unfold az at ha; omega
          have d1 : decide ((s[k].toNat : Int) < 97) = false := decide_eq_false (by omega)
          have d2 : decide ((122 : Int) < (s[k].toNat : Int)) = true := decide_eq_true (by omega)
          clear ha
          go_wp2_with fail
          go_ret
          exact ⟨ret_bool HN.out.symm, rfl⟩
    · have hok : decide (keyOk s) = true := decide_eq_true ⟨h2, h3, ba_all fun j hj => HA.out j hj (by omega)⟩
      have HN := Lib.hid hok
      clear hok
      go_wp2_with fail
      go_ret
      exact ⟨ret_bool HN.out.symm, rfl⟩
/-- how many letters a string begins with -/
def lettersN (s : ByteArray) : Nat := (s.data.toList.takeWhile fun c => decide (az c)).length
theorem lettersN_le (s : ByteArray) : lettersN s ≤ s.size := by
  unfold lettersN
  have := (List.takeWhile_prefix (l := s.data.toList) fun c => decide (az c)).length_le
  simpa using this
theorem tw_all {α : Type} (p : α → Bool) (l : List α) : (l.takeWhile p).length = l.length ↔ ∀ c ∈ l, p c = true := by
  induction l with
  | nil => simp
  | cons x r ih =>
    rw [List.takeWhile_cons]
    cases hx : p x with
    | true => simp [ih, hx]
    | false => simp [hx]
theorem takeWhile_len {α : Type} (p : α → Bool) (l : List α) : ∀ k : Nat, k ≤ l.length → (∀ j (hj : j < l.length), j < k → p l[j] = true) → (∀ hk : k < l.length, p l[k] = false) → (l.takeWhile p).length = k := by
  induction l with
  | nil => intro k h _ _; simp at h; simp [h]
  | cons x r ih =>
    intro k h h1 h2
    cases k with
    | zero =>
      have := h2 (by simp)
      simp at this
      simp [this]
    | succ k =>
      have hx := h1 0 (by simp) (by omega)
      simp at hx
      rw [List.takeWhile_cons, hx]
      simp only [if_true, List.length_cons]
      rw [ih k (by simpa using h) (fun j hj hjk => by have := h1 (j + 1) (by simpa using hj) (by omega); simpa using this) (fun hk => by have := h2 (by simpa using hk); simpa using this)]
theorem lettersN_of (s : ByteArray) (k : Nat) (hk : k ≤ s.size) (h1 : ∀ j (hj : j < s.size), j < k → az s[j]) (h2 : ∀ h : k < s.size, ¬ az s[k]) : lettersN s = k := by
  unfold lettersN
  refine takeWhile_len _ _ k (by simpa using hk) (fun j hj hjk => ?_) (fun h => ?_)
  · have hj' : j < s.size := by simpa using hj
    have := h1 j hj' hjk
    rw [decide_eq_true_eq]
    simpa [ByteArray.getElem_eq_getElem_data] using this
  · have h' : k < s.size := by simpa using h
    have := h2 h'
    rw [decide_eq_false_iff_not]
    simpa [ByteArray.getElem_eq_getElem_data] using this
theorem lettersN_all (s : ByteArray) : lettersN s = s.size ↔ ∀ c ∈ s.data.toList, az c := by
  have e : s.size = s.data.toList.length := by simp
  unfold lettersN
  rw [e]
  rw [tw_all]
  simp

set_option maxHeartbeats 1000000 in
theorem letters_any (s : ByteArray) (w : World) (hs : s.size ≤ maxLen) : Calls Tryd.prog 47 #[.string s] w fun e w' => e = .returned (.int .i64 (lettersN s)) ∧ w' = w := by
  unfold maxLen at hs
  go_enter Tryd.func47, Tryd.ntmps47
  go_wp2_with fail
  go_loop [3] (fun i => ∃ k : Nat, k ≤ s.size ∧ i = .int .i64 k ∧ ∀ j (hj : j < s.size), j < k → az s[j]) (fun i => s.size - (intOf i).toNat)
  case atStart => exact ⟨0, Nat.zero_le _, rfl, fun j _ h => by omega⟩
  case round =>
    obtain ⟨k, hk, rfl, hall⟩ := hrel
    have HA := Lib.hid hall
    clear hall
    by_cases hlt : k < s.size
    · have d0 : decide ((k : Int) < (s.size : Int)) = true := decide_eq_true (by omega)
      by_cases c1 : s[k].toNat < 97
      · have HN := Lib.hid (lettersN_of s k hk HA.out (fun h e => by unfold az at e; omega))
        have d1 : decide ((97 : Int) ≤ (s[k].toNat : Int)) = false := decide_eq_false (by omega)
        go_wp2_with fail
        go_ret
        exact ⟨ret_int (by rw [HN.out]), rfl⟩
      have d1 : decide ((97 : Int) ≤ (s[k].toNat : Int)) = true := decide_eq_true (by omega)
      by_cases c2 : 122 < s[k].toNat
      · have HN := Lib.hid (lettersN_of s k hk HA.out (fun h e => by unfold az at e; omega))
        have d2 : decide ((s[k].toNat : Int) ≤ 122) = false := decide_eq_false (by omega)
        go_wp2_with fail
        go_ret
        exact ⟨ret_int (by rw [HN.out]), rfl⟩
      have d2 : decide ((s[k].toNat : Int) ≤ 122) = true := decide_eq_true (by omega)
      have HZ := Lib.hid (show az s[k] from ⟨by omega, by omega⟩)
      go_wp2_with fail
      go_round
      case rel =>
        refine ⟨k + 1, by omega, by go_num, fun j hj h => ?_⟩
        rcases Nat.lt_or_ge j k with h' | h'
        · exact HA.out j hj h'
        · obtain rfl : j = k := by omega
          exact HZ.out
      case measure => simp [intOf]; omega
    · have HN := Lib.hid (lettersN_of s k hk HA.out (fun h => absurd h hlt))
      have d0 : decide ((k : Int) < (s.size : Int)) = false := decide_eq_false (by omega)
      go_wp2_with fail
      go_ret
      exact ⟨ret_int (by rw [HN.out]), rfl⟩
set_option maxHeartbeats 1000000 in
theorem isKey_any (s : ByteArray) (w : World) (hs : s.size ≤ maxLen) : Calls Tryd.prog 45 #[.string s] w fun e w' => e = .returned (.bool (decide (keyOk s))) ∧ w' = w := by
  have hs' := hs
  unfold maxLen at hs
  by_cases h1 : s.size < 1 ∨ 8 < s.size
  · have hne : decide (keyOk s) = false := decide_eq_false fun e => by have h2 := e.1; have h3 := e.2.1; omega
    rw [hne]
    clear hne
    go_enter Tryd.func45, Tryd.ntmps45
    go_wp2_with fail
    refine (within_no _ _ _ _ (by omega)).mono ?_
    rintro e w' ⟨rfl, rfl⟩
    go_wp2_with fail
    go_ret
    exact ⟨rfl, rfl⟩
  have h2 : 1 ≤ s.size := by omega
  have h3 : s.size ≤ 8 := by omega
  have HL := Lib.hid hs'
  clear h1 hs'
  by_cases ha : lettersN s = s.size
  · have hne : decide (keyOk s) = true := decide_eq_true ⟨h2, h3, (lettersN_all s).1 ha⟩
    have HB : ((lettersN s : Int) == (s.size : Int)) = true := beq_iff_eq.2 (by omega)
    rw [hne]
    clear hne ha
    go_enter Tryd.func45, Tryd.ntmps45
    go_wp2_with fail
    refine (within_yes _ _ _ _ (by omega) (by omega)).mono ?_
    rintro e w' ⟨rfl, rfl⟩
    go_wp2_with fail
    refine (letters_any s _ HL.out).mono ?_
    rintro e w' ⟨rfl, rfl⟩
    go_wp2_with fail
    go_ret
    exact ⟨rfl, rfl⟩
  · have hne : decide (keyOk s) = false := decide_eq_false fun e => ha ((lettersN_all s).2 e.2.2)
    have HB : ((lettersN s : Int) == (s.size : Int)) = false := beq_eq_false_iff_ne.2 (by omega)
    rw [hne]
    clear hne ha
    go_enter Tryd.func45, Tryd.ntmps45
    go_wp2_with fail
    refine (within_yes _ _ _ _ (by omega) (by omega)).mono ?_
    rintro e w' ⟨rfl, rfl⟩
    go_wp2_with fail
    refine (letters_any s _ HL.out).mono ?_
    rintro e w' ⟨rfl, rfl⟩
    go_wp2_with fail
    go_ret
    exact ⟨rfl, rfl⟩

end Go.Proofs.YtimnogjgokljbaaDoor

end
section
/-!
  The words of a book's line: keys, letters, the blank, the sign.
-/
namespace Go.Proofs.YtimnogjgokljbaaDoor
set_option maxRecDepth 100000
set_option linter.unusedVariables false
set_option linter.unusedSimpArgs false
open Go Go.RowKit
set_option maxHeartbeats 4000000
set_option linter.unusedVariables false

theorem says_same {P : Program} {f : FuncId} {args : Array Value} {v : Value} {w : World} (h : Calls P f args w fun e w' => e = .returned v ∧ w' = w) : Calls P f args w fun e w' => e = .returned v ∧ Below w.heap.size w w' :=
  h.mono fun e w' ⟨h1, h2⟩ => ⟨h1, by rw [h2]; exact Below.refl _ _⟩
theorem RepAs.str {w : World} {s : ByteArray} {vs : List Value} (h : RepAs w [aS s] vs) : vs = [.string s] := by
  obtain ⟨v, rfl, h2⟩ := RepAs.one h
  obtain ⟨l, e, h3⟩ := h2
  cases e
  cases h3
  rfl
noncomputable def mLetters := mdl (fun s : ByteArray => s.size ≤ maxLen) (fun s => [aS s]) (fun s => rI (lettersN s))
theorem mLetters_eq (s : ByteArray) (h : s.size ≤ maxLen) : mLetters [aS s] = some (rI (lettersN s)) := mdl_eq (by intro a b h; simpa using h) s h
theorem letters_s : Sound Tryd.prog 47 mLetters := Sound.says (fun _ => rfl) fun s vs w hok hr => by
  rw [RepAs.str hr]
  exact says_same (letters_any s w hok)
noncomputable def mKeyB := mdl (fun s : ByteArray => s.size ≤ maxLen) (fun s => [aS s]) (fun s => rB (decide (keyOk s)))
theorem mKeyB_eq (s : ByteArray) (h : s.size ≤ maxLen) : mKeyB [aS s] = some (rB (decide (keyOk s))) := mdl_eq (by intro a b h; simpa using h) s h
theorem isKey_s : Sound Tryd.prog 45 mKeyB := Sound.says (fun _ => rfl) fun s vs w hok hr => by
  rw [RepAs.str hr]
  exact says_same (isKey_any s w hok)
theorem l36Key_s : Sound Tryd.prog 28 mKeyB := Sound.says (fun _ => rfl) fun s vs w hok hr => by
  rw [RepAs.str hr]
  exact says_same (l36Key_any s w hok)
/-- the first place of a byte with a property; the length where there is none -/
def byI (p : Nat → Bool) (s : ByteArray) : Nat := (bl s).findIdx p
theorem byI_at {p : Nat → Bool} {s : ByteArray} {k : Nat} (hk : k < (bl s).length) (hn : ∀ j, (h : j < k) → p ((bl s)[j]'(by omega)) = false) (hx : p (bl s)[k] = true) : byI p s = k :=
  (List.findIdx_eq hk).2 ⟨hx, fun j hj => hn j hj⟩
theorem byI_no {p : Nat → Bool} {s : ByteArray} (hn : ∀ j, (h : j < (bl s).length) → p (bl s)[j] = false) : byI p s = (bl s).length := by
  unfold byI
  refine List.findIdx_eq_length.2 fun x hx => ?_
  obtain ⟨j, hj, rfl⟩ := List.getElem_of_mem hx
  exact hn j hj
def isSp (d : Nat) : Bool := decide (d = 32)
def isSg (d : Nat) : Bool := decide (d = 61) || decide (d = 43) || decide (d = 62)
noncomputable def mBlank := mdl (fun s : ByteArray => s.size ≤ 9223372036854775807) (fun s => [aS s]) (fun s => rI (byI isSp s))
theorem mBlank_eq (s : ByteArray) (h : s.size ≤ 9223372036854775807) : mBlank [aS s] = some (rI (byI isSp s)) := mdl_eq (by intro a b h; simpa using h) s h
theorem blank_s : Sound Tryd.prog 26 mBlank := by
  refine Sound.mdl Tryd.func26 rfl Tryd.ntmps26 ?_
  rintro s w hs
  refine ⟨by simp, ?_⟩
  replace hs : s.size ≤ 9223372036854775807 := hs
  have hΓ : GSound Tryd.prog (look []) := env_nil
  have hl := bl_len s
  simp only [initS, argPV, List.map_cons, List.map_nil, toPL, Nat.zero_add]
  repeat (first | with_reducible apply W.seq | with_reducible apply W.block | with_reducible apply W.skip | with_reducible apply W.exit | with_reducible apply W.ret | with_reducible apply At.seqN | with_reducible apply At.blkN | with_reducible apply At.blkE | with_reducible apply At.blkR | with_reducible apply At.thenX | with_reducible apply At.thenR | with_reducible apply At.blkX rfl | ((with_reducible apply W.ops); (repeat (first | refine WL.opA hΓ (h := ?_) | refine WL.opX hΓ (h := ?_) | refine WL.opY (h := ?_) | refine WL.opZ (h := ?_))); with_reducible apply WL.nil) | refine W.condT (h := ?_) | refine W.condF (h := ?_))
  refine W.loopA (fun k => k ≤ (bl s).length ∧ ∀ j, (h : j < k) → ∀ hj : j < (bl s).length, isSp (bl s)[j] = false) (fun k : Nat => [.slot 0 (vS s), .slot 3 (vI k)]) (fun k => (bl s).length - k) 0 ⟨Nat.zero_le _, fun j h => by omega⟩ (h := ?_)
  rintro k ⟨hk, hn⟩
  by_cases hlt : k < (bl s).length
  · obtain ⟨b, hb1, hb2⟩ := bl_at hlt
    have hb256 : b.toNat < 256 := b.toNat_lt
    by_cases hsp : (bl s)[k] = 32
    · have hres : byI isSp s = k := byI_at hlt (fun j hj => hn j hj _) (by simp [isSp, hsp])
      rw [← hb2] at hsp
      have hspi : (b.toNat : Int) = 32 := by omega
      clear hn hb2 hsp
      repeat (first | with_reducible apply W.seq | with_reducible apply W.block | with_reducible apply W.skip | with_reducible apply W.exit | with_reducible apply W.ret | with_reducible apply At.seqN | with_reducible apply At.blkN | with_reducible apply At.blkE | with_reducible apply At.blkR | with_reducible apply At.thenX | with_reducible apply At.thenR | with_reducible apply At.blkX rfl | ((with_reducible apply W.ops); (repeat (first | refine WL.opA hΓ (h := ?_) | refine WL.opX hΓ (h := ?_) | refine WL.opY (h := ?_) | refine WL.opZ (h := ?_))); with_reducible apply WL.nil) | refine W.condT (h := ?_) | refine W.condF (h := ?_))
      refine At.retA (by rw [Tryd.results26]) (he := ?_)
      rw [hres]
    · have hnx : ∀ j, (h : j < k + 1) → ∀ hj : j < (bl s).length, isSp (bl s)[j] = false := fun j h hj => by
        rcases Nat.lt_or_ge j k with h1 | h1
        · exact hn j h1 hj
        · have : j = k := by omega
          subst this
          simp [isSp, hsp]
      rw [← hb2] at hsp
      have hspi : ¬ (b.toNat : Int) = 32 := by omega
      clear hn hb2 hsp
      repeat (first | with_reducible apply W.seq | with_reducible apply W.block | with_reducible apply W.skip | with_reducible apply W.exit | with_reducible apply W.ret | with_reducible apply At.seqN | with_reducible apply At.blkN | with_reducible apply At.blkE | with_reducible apply At.blkR | with_reducible apply At.thenX | with_reducible apply At.thenR | with_reducible apply At.blkX rfl | ((with_reducible apply W.ops); (repeat (first | refine WL.opA hΓ (h := ?_) | refine WL.opX hΓ (h := ?_) | refine WL.opY (h := ?_) | refine WL.opZ (h := ?_))); with_reducible apply WL.nil) | refine W.condT (h := ?_) | refine W.condF (h := ?_))
      exact At.roundA (k + 1) ⟨by omega, hnx⟩ (by omega)
  · have hres := byI_no (p := isSp) (s := s) (fun j hj => hn j (by omega) hj)
    clear hn
    repeat (first | with_reducible apply W.seq | with_reducible apply W.block | with_reducible apply W.skip | with_reducible apply W.exit | with_reducible apply W.ret | with_reducible apply At.seqN | with_reducible apply At.blkN | with_reducible apply At.blkE | with_reducible apply At.blkR | with_reducible apply At.thenX | with_reducible apply At.thenR | with_reducible apply At.blkX rfl | ((with_reducible apply W.ops); (repeat (first | refine WL.opA hΓ (h := ?_) | refine WL.opX hΓ (h := ?_) | refine WL.opY (h := ?_) | refine WL.opZ (h := ?_))); with_reducible apply WL.nil) | refine W.condT (h := ?_) | refine W.condF (h := ?_))
    refine At.retA (by rw [Tryd.results26]) (he := ?_)
    rw [hres, hl]
/-- a line's word, sign and rest -/
def cutZ (s : ByteArray) : ByteArray × Nat × ByteArray := if h : byI isSg s < (bl s).length then (s.extract 0 (byI isSg s), (bl s)[byI isSg s], s.extract (byI isSg s + 1) s.size) else (s, 0, ByteArray.empty)
noncomputable def mCut := mdl (fun s : ByteArray => s.size ≤ 9223372036854775807) (fun s => [aS s]) (fun s => .tup [rSc (.string (cutZ s).1), rSc (.int .u8 ((cutZ s).2.1 : Int)), rSc (.string (cutZ s).2.2)])
theorem mCut_eq (s : ByteArray) (h : s.size ≤ 9223372036854775807) : mCut [aS s] = some (.tup [rSc (.string (cutZ s).1), rSc (.int .u8 ((cutZ s).2.1 : Int)), rSc (.string (cutZ s).2.2)]) := mdl_eq (by intro a b h; simpa using h) s h
theorem cut_s : Sound Tryd.prog 25 mCut := by
  refine Sound.mdl Tryd.func25 rfl Tryd.ntmps25 ?_
  rintro s w hs
  refine ⟨by simp, ?_⟩
  replace hs : s.size ≤ 9223372036854775807 := hs
  have hΓ : GSound Tryd.prog (look []) := env_nil
  have hl := bl_len s
  have hem : (⟨#[]⟩ : ByteArray) = ByteArray.empty := rfl
  simp only [initS, argPV, List.map_cons, List.map_nil, toPL, Nat.zero_add]
  repeat (first | with_reducible apply W.seq | with_reducible apply W.block | with_reducible apply W.skip | with_reducible apply W.exit | with_reducible apply W.ret | with_reducible apply At.seqN | with_reducible apply At.blkN | with_reducible apply At.blkE | with_reducible apply At.blkR | with_reducible apply At.thenX | with_reducible apply At.thenR | with_reducible apply At.blkX rfl | ((with_reducible apply W.ops); (repeat (first | refine WL.opA hΓ (h := ?_) | refine WL.opX hΓ (h := ?_) | refine WL.opY (h := ?_) | refine WL.opZ (h := ?_))); with_reducible apply WL.nil) | refine W.condT (h := ?_) | refine W.condF (h := ?_))
  refine W.loopA (fun k => k ≤ (bl s).length ∧ ∀ j, (h : j < k) → ∀ hj : j < (bl s).length, isSg (bl s)[j] = false) (fun k : Nat => [.slot 0 (vS s), .slot 5 (vI k)]) (fun k => (bl s).length - k) 0 ⟨Nat.zero_le _, fun j h => by omega⟩ (h := ?_)
  rintro k ⟨hk, hn⟩
  by_cases hlt : k < (bl s).length
  · obtain ⟨b, hb1, hb2⟩ := bl_at hlt
    have hb256 : b.toNat < 256 := b.toNat_lt
    have hyes : isSg (bl s)[k] = true → cutZ s = (s.extract 0 k, b.toNat, s.extract (k + 1) s.size) := fun h => by
      have hi : byI isSg s = k := byI_at hlt (fun j hj => hn j hj _) h
      unfold cutZ
      rw [dif_pos (by rw [hi]; exact hlt)]
      simp only [hi, hb2]
    have hnx : isSg (bl s)[k] = false → ∀ j, (h : j < k + 1) → ∀ hj : j < (bl s).length, isSg (bl s)[j] = false := fun h0 j h hj => by
      rcases Nat.lt_or_ge j k with h1 | h1
      · exact hn j h1 hj
      · have : j = k := by omega
        subst this
        exact h0
    rw [← hb2] at hyes hnx
    clear hn hb2
    generalize hd : b.toNat = d at *
    by_cases h1 : d = 61
    · have hres := hyes (by simp [isSg, h1])
      have h1i : (d : Int) = 61 := by omega
      clear hyes hnx h1
      repeat (first | with_reducible apply W.seq | with_reducible apply W.block | with_reducible apply W.skip | with_reducible apply W.exit | with_reducible apply W.ret | with_reducible apply At.seqN | with_reducible apply At.blkN | with_reducible apply At.blkE | with_reducible apply At.blkR | with_reducible apply At.thenX | with_reducible apply At.thenR | with_reducible apply At.blkX rfl | ((with_reducible apply W.ops); (repeat (first | refine WL.opA hΓ (h := ?_) | refine WL.opX hΓ (h := ?_) | refine WL.opY (h := ?_) | refine WL.opZ (h := ?_))); with_reducible apply WL.nil) | refine W.condT (h := ?_) | refine W.condF (h := ?_))
      refine W.drawsA hΓ 13 [[], [], [0, 1], [], [], [3, 4], [], [], [7], [6, 7, 8], [0, 1, 2], [0, 1, 2, 3, 4, 5, 10], [0, 1, 2, 3, 4, 5, 6, 7, 8, 9, 10, 11]] (rest := ?rest13) (Es := ?Es13) (st1 := ?st113) (h := ?h13) (hf := ?hf13) (hp := ?hp13) (hd := ?hd13) (hfr := ?hfr13) (hst := ?hst13) (hT := ?hT13)
      case h13 => kernel_rfl
      case hf13 =>
        repeat (first | refine FlowT.opA (h := ?_) | refine FlowT.opX (h := ?_) | refine FlowT.opY (h := ?_) | refine FlowT.opZ (h := ?_))
        exact FlowT.done
      case hp13 => rfl
      case hd13 => rfl
      case hfr13 => rfl
      case hst13 =>
        simp only [pick_nil, pick_all, List.cons_append, List.nil_append]
        rfl
      (repeat (first | refine WL.opA hΓ (h := ?_) | refine WL.opX hΓ (h := ?_) | refine WL.opY (h := ?_) | refine WL.opZ (h := ?_)))
      with_reducible apply WL.nil
      repeat (first | with_reducible apply W.seq | with_reducible apply W.block | with_reducible apply W.skip | with_reducible apply W.exit | with_reducible apply W.ret | with_reducible apply At.seqN | with_reducible apply At.blkN | with_reducible apply At.blkE | with_reducible apply At.blkR | with_reducible apply At.thenX | with_reducible apply At.thenR | with_reducible apply At.blkX rfl | ((with_reducible apply W.ops); (repeat (first | refine WL.opA hΓ (h := ?_) | refine WL.opX hΓ (h := ?_) | refine WL.opY (h := ?_) | refine WL.opZ (h := ?_))); with_reducible apply WL.nil) | refine W.condT (h := ?_) | refine W.condF (h := ?_))
      refine At.retA (by rw [Tryd.results25]) (he := ?_)
      simp [hres, h1i]
    · have h1i : ¬ (d : Int) = 61 := by omega
      by_cases h2 : d = 43
      · have hres := hyes (by simp [isSg, h2])
        have h2i : (d : Int) = 43 := by omega
        clear hyes hnx h2 h1
        repeat (first | with_reducible apply W.seq | with_reducible apply W.block | with_reducible apply W.skip | with_reducible apply W.exit | with_reducible apply W.ret | with_reducible apply At.seqN | with_reducible apply At.blkN | with_reducible apply At.blkE | with_reducible apply At.blkR | with_reducible apply At.thenX | with_reducible apply At.thenR | with_reducible apply At.blkX rfl | ((with_reducible apply W.ops); (repeat (first | refine WL.opA hΓ (h := ?_) | refine WL.opX hΓ (h := ?_) | refine WL.opY (h := ?_) | refine WL.opZ (h := ?_))); with_reducible apply WL.nil) | refine W.condT (h := ?_) | refine W.condF (h := ?_))
        refine W.drawsA hΓ 13 [[], [], [0, 1], [], [], [3, 4], [], [], [7], [6, 7, 8], [0, 1, 2], [0, 1, 2, 3, 4, 5, 10], [0, 1, 2, 3, 4, 5, 6, 7, 8, 9, 10, 11]] (rest := ?rest17) (Es := ?Es17) (st1 := ?st117) (h := ?h17) (hf := ?hf17) (hp := ?hp17) (hd := ?hd17) (hfr := ?hfr17) (hst := ?hst17) (hT := ?hT17)
        case h17 => kernel_rfl
        case hf17 =>
          repeat (first | refine FlowT.opA (h := ?_) | refine FlowT.opX (h := ?_) | refine FlowT.opY (h := ?_) | refine FlowT.opZ (h := ?_))
          exact FlowT.done
        case hp17 => rfl
        case hd17 => rfl
        case hfr17 => rfl
        case hst17 =>
          simp only [pick_nil, pick_all, List.cons_append, List.nil_append]
          rfl
        (repeat (first | refine WL.opA hΓ (h := ?_) | refine WL.opX hΓ (h := ?_) | refine WL.opY (h := ?_) | refine WL.opZ (h := ?_)))
        with_reducible apply WL.nil
        repeat (first | with_reducible apply W.seq | with_reducible apply W.block | with_reducible apply W.skip | with_reducible apply W.exit | with_reducible apply W.ret | with_reducible apply At.seqN | with_reducible apply At.blkN | with_reducible apply At.blkE | with_reducible apply At.blkR | with_reducible apply At.thenX | with_reducible apply At.thenR | with_reducible apply At.blkX rfl | ((with_reducible apply W.ops); (repeat (first | refine WL.opA hΓ (h := ?_) | refine WL.opX hΓ (h := ?_) | refine WL.opY (h := ?_) | refine WL.opZ (h := ?_))); with_reducible apply WL.nil) | refine W.condT (h := ?_) | refine W.condF (h := ?_))
        refine At.retA (by rw [Tryd.results25]) (he := ?_)
        simp [hres, h2i]
      · have h2i : ¬ (d : Int) = 43 := by omega
        by_cases h3 : d = 62
        · have hres := hyes (by simp [isSg, h3])
          have h3i : (d : Int) = 62 := by omega
          clear hyes hnx h3 h2 h1
          repeat (first | with_reducible apply W.seq | with_reducible apply W.block | with_reducible apply W.skip | with_reducible apply W.exit | with_reducible apply W.ret | with_reducible apply At.seqN | with_reducible apply At.blkN | with_reducible apply At.blkE | with_reducible apply At.blkR | with_reducible apply At.thenX | with_reducible apply At.thenR | with_reducible apply At.blkX rfl | ((with_reducible apply W.ops); (repeat (first | refine WL.opA hΓ (h := ?_) | refine WL.opX hΓ (h := ?_) | refine WL.opY (h := ?_) | refine WL.opZ (h := ?_))); with_reducible apply WL.nil) | refine W.condT (h := ?_) | refine W.condF (h := ?_))
          refine W.drawsA hΓ 13 [[], [], [0, 1], [], [], [3, 4], [], [], [7], [6, 7, 8], [0, 1, 2], [0, 1, 2, 3, 4, 5, 10], [0, 1, 2, 3, 4, 5, 6, 7, 8, 9, 10, 11]] (rest := ?rest21) (Es := ?Es21) (st1 := ?st121) (h := ?h21) (hf := ?hf21) (hp := ?hp21) (hd := ?hd21) (hfr := ?hfr21) (hst := ?hst21) (hT := ?hT21)
          case h21 => kernel_rfl
          case hf21 =>
            repeat (first | refine FlowT.opA (h := ?_) | refine FlowT.opX (h := ?_) | refine FlowT.opY (h := ?_) | refine FlowT.opZ (h := ?_))
            exact FlowT.done
          case hp21 => rfl
          case hd21 => rfl
          case hfr21 => rfl
          case hst21 =>
            simp only [pick_nil, pick_all, List.cons_append, List.nil_append]
            rfl
          (repeat (first | refine WL.opA hΓ (h := ?_) | refine WL.opX hΓ (h := ?_) | refine WL.opY (h := ?_) | refine WL.opZ (h := ?_)))
          with_reducible apply WL.nil
          repeat (first | with_reducible apply W.seq | with_reducible apply W.block | with_reducible apply W.skip | with_reducible apply W.exit | with_reducible apply W.ret | with_reducible apply At.seqN | with_reducible apply At.blkN | with_reducible apply At.blkE | with_reducible apply At.blkR | with_reducible apply At.thenX | with_reducible apply At.thenR | with_reducible apply At.blkX rfl | ((with_reducible apply W.ops); (repeat (first | refine WL.opA hΓ (h := ?_) | refine WL.opX hΓ (h := ?_) | refine WL.opY (h := ?_) | refine WL.opZ (h := ?_))); with_reducible apply WL.nil) | refine W.condT (h := ?_) | refine W.condF (h := ?_))
          refine At.retA (by rw [Tryd.results25]) (he := ?_)
          simp [hres, h3i]
        · have h3i : ¬ (d : Int) = 62 := by omega
          have hnx := hnx (by simp [isSg, h1, h2, h3])
          clear hyes h1 h2 h3
          repeat (first | with_reducible apply W.seq | with_reducible apply W.block | with_reducible apply W.skip | with_reducible apply W.exit | with_reducible apply W.ret | with_reducible apply At.seqN | with_reducible apply At.blkN | with_reducible apply At.blkE | with_reducible apply At.blkR | with_reducible apply At.thenX | with_reducible apply At.thenR | with_reducible apply At.blkX rfl | ((with_reducible apply W.ops); (repeat (first | refine WL.opA hΓ (h := ?_) | refine WL.opX hΓ (h := ?_) | refine WL.opY (h := ?_) | refine WL.opZ (h := ?_))); with_reducible apply WL.nil) | refine W.condT (h := ?_) | refine W.condF (h := ?_))
          exact At.roundA (k + 1) ⟨by omega, hnx⟩ (by omega)
  · have hi := byI_no (p := isSg) (s := s) (fun j hj => hn j (by omega) hj)
    have hres : cutZ s = (s, 0, ByteArray.empty) := by unfold cutZ; rw [dif_neg (by omega)]
    clear hn
    repeat (first | with_reducible apply W.seq | with_reducible apply W.block | with_reducible apply W.skip | with_reducible apply W.exit | with_reducible apply W.ret | with_reducible apply At.seqN | with_reducible apply At.blkN | with_reducible apply At.blkE | with_reducible apply At.blkR | with_reducible apply At.thenX | with_reducible apply At.thenR | with_reducible apply At.blkX rfl | ((with_reducible apply W.ops); (repeat (first | refine WL.opA hΓ (h := ?_) | refine WL.opX hΓ (h := ?_) | refine WL.opY (h := ?_) | refine WL.opZ (h := ?_))); with_reducible apply WL.nil) | refine W.condT (h := ?_) | refine W.condF (h := ?_))
    refine At.retA (by rw [Tryd.results25]) (he := ?_)
    simp [hres]
end Go.Proofs.YtimnogjgokljbaaDoor

end
