/-
  What ReadDec computes: the number whose decimal text it is.
-/
import Derived.Test.YtlogbmdfjnldlaaEvDecZ
namespace Go.Proofs.Ytlogbmdfjnldlaa
set_option maxRecDepth 100000
set_option linter.unusedVariables false
set_option linter.unusedSimpArgs false
open Go Go.RowKit
set_option maxHeartbeats 4000000
set_option linter.unusedVariables false

/-- a text's bytes -/
def bl (s : ByteArray) : List Nat := s.data.toList.map UInt8.toNat
theorem bl_len (s : ByteArray) : (bl s).length = s.size := by unfold bl; rw [List.length_map, Array.length_toList]; rfl
theorem bl_bsS {l : List Nat} (h : ∀ d ∈ l, d < 256) : bl (bsS l) = l := by
  unfold bl bsS
  simp only [List.map_map]
  conv => rhs; rw [← List.map_id l]
  refine List.map_congr_left fun d hd => ?_
  have := h d hd
  simp only [Function.comp_apply, UInt8.toNat_ofNat', id_eq]
  omega
theorem bl_at {s : ByteArray} {i : Nat} (h : i < (bl s).length) : ∃ b : UInt8, s.data.toList[i]? = some b ∧ b.toNat = (bl s)[i] := by
  have hi : i < s.data.toList.length := by
    have := h
    unfold bl at this
    rwa [List.length_map] at this
  have h2 : (bl s)[i]? = some (s.data.toList[i]).toNat := by unfold bl; rw [List.getElem?_map, List.getElem?_eq_getElem hi]; rfl
  exact ⟨s.data.toList[i], List.getElem?_eq_getElem hi, (List.getElem?_eq_some_iff.1 h2).2.symm⟩
def isDg (d : Nat) : Prop := 48 ≤ d ∧ d ≤ 57
instance (d : Nat) : Decidable (isDg d) := by unfold isDg; infer_instance
def valD (a : Nat) (l : List Nat) : Nat := l.foldl (fun a d => a * 10 + (d - 48)) a
theorem digF_dg : ∀ k n, ∀ d ∈ digF k n, isDg d
  | 0, n, d, h => by
    have h1 : d = 48 + n % 10 := List.mem_singleton.1 h
    rw [h1]
    unfold isDg; omega
  | k + 1, n, d, h => by
    unfold digF at h
    split at h
    · rw [List.mem_singleton.1 h]
      unfold isDg; omega
    · rcases List.mem_append.1 h with h | h
      · exact digF_dg k _ d h
      · rw [List.mem_singleton.1 h]
        unfold isDg; omega
theorem digF_val : ∀ k n, n < 10 ^ (k + 1) → valD 0 (digF k n) = n
  | 0, n, h => by
    simp [digF, valD]
    simp at h
    omega
  | k + 1, n, h => by
    unfold digF
    split
    · simp [valD]; omega
    · rename_i hn
      have ih := digF_val k (n / 10) (by rw [Nat.pow_succ] at h; omega)
      unfold valD at ih ⊢
      rw [List.foldl_append, ih]
      simp
      omega
theorem digF_max : ∀ k n j, n < 10 ^ (j + 1) → (digF k n).length ≤ j + 1
  | 0, n, j, _ => by simp [digF]
  | k + 1, n, j, h => by
    unfold digF
    split
    · simp
    · rename_i hn
      cases j with
      | zero => simp at h; omega
      | succ j =>
        have := digF_max k (n / 10) j (by rw [Nat.pow_succ] at h; omega)
        simp
        omega
theorem valD_lt : ∀ (l : List Nat) (a : Nat), (∀ d ∈ l, isDg d) → valD a l < (a + 1) * 10 ^ l.length
  | [], a, _ => by simp [valD]
  | d :: l, a, h => by
    have hd := h d List.mem_cons_self
    have ih := valD_lt l (a * 10 + (d - 48)) (fun x hx => h x (List.mem_cons_of_mem _ hx))
    have e : valD a (d :: l) = valD (a * 10 + (d - 48)) l := rfl
    rw [e]
    refine Nat.lt_of_lt_of_le ih ?_
    rw [List.length_cons, Nat.pow_succ]
    unfold isDg at hd
    have : a * 10 + (d - 48) + 1 ≤ (a + 1) * 10 := by omega
    calc (a * 10 + (d - 48) + 1) * 10 ^ l.length ≤ ((a + 1) * 10) * 10 ^ l.length := Nat.mul_le_mul_right _ this
      _ = (a + 1) * (10 ^ l.length * 10) := by rw [Nat.mul_assoc, Nat.mul_comm 10]
theorem valD_snoc (a : Nat) (l : List Nat) (d : Nat) : valD a (l ++ [d]) = valD a l * 10 + (d - 48) := by
  unfold valD
  rw [List.foldl_append]
  rfl
theorem digL_props {n : Nat} (h : n ≤ 999999999) : (∀ d ∈ digL n, isDg d) ∧ valD 0 (digL n) = n ∧ (digL n).length ≤ 9 ∧ 0 < (digL n).length :=
  ⟨digF_dg 9 n, digF_val 9 n (by omega), digF_max 9 n 8 (by omega), digF_pos 9 n⟩
/-- the parts of a number's text -/
theorem decZ_parts {n : Int} (h : okDecZ n) : ∃ (neg : Bool) (l : List Nat), decZ n = (if neg then 45 :: l else l) ∧ (∀ d ∈ l, isDg d) ∧ l.length ≤ 9 ∧ 0 < l.length ∧ n = if neg then -((valD 0 l : Nat) : Int) else ((valD 0 l : Nat) : Int) := by
  obtain ⟨h1, h2⟩ := h
  rcases int_cases n with rfl | ⟨a, ha, rfl⟩ | ⟨a, ha, rfl⟩
  · exact ⟨false, [48], rfl, fun d hd => by rw [List.mem_singleton.1 hd]; decide, by decide, by decide, rfl⟩
  · obtain ⟨p1, p2, p3, p4⟩ := digL_props (n := a) (by omega)
    exact ⟨false, digL a, by rw [decZ_pos ha]; rfl, p1, p3, p4, by rw [p2]; rfl⟩
  · obtain ⟨p1, p2, p3, p4⟩ := digL_props (n := a) (by omega)
    exact ⟨true, digL a, by rw [decZ_neg ha]; rfl, p1, p3, p4, by rw [p2]; rfl⟩
theorem decZ_lt {n : Int} (h : okDecZ n) : ∀ d ∈ decZ n, d < 256 := by
  obtain ⟨neg, l, e, p1, _⟩ := decZ_parts h
  rw [e]
  intro d hd
  have key : ∀ d ∈ l, d < 256 := fun d hd => by have := p1 d hd; unfold isDg at this; omega
  cases neg with
  | false => exact key d hd
  | true =>
    rcases List.mem_cons.1 hd with rfl | hd
    · decide
    · exact key d hd
/-- the sign and the digits of a text -/
def sgn (L : List Nat) : Bool := decide (L.head? = some 45)
def dgs (L : List Nat) : List Nat := if sgn L then L.tail else L
def sval (L : List Nat) : Int := if sgn L then -((valD 0 (dgs L) : Nat) : Int) else ((valD 0 (dgs L) : Nat) : Int)
theorem decZ_sval {n : Int} (h : okDecZ n) : (∀ d ∈ dgs (decZ n), isDg d) ∧ (dgs (decZ n)).length ≤ 9 ∧ 0 < (dgs (decZ n)).length ∧ sval (decZ n) = n := by
  obtain ⟨neg, l, e, p1, p2, p3, p4⟩ := decZ_parts h
  have hs : sgn (decZ n) = neg := by
    rw [e]
    unfold sgn
    cases neg with
    | true => simp
    | false =>
      cases l with
      | nil => cases p3
      | cons d l =>
        have := p1 d List.mem_cons_self
        unfold isDg at this
        simp
        omega
  have hd : dgs (decZ n) = l := by
    unfold dgs
    rw [hs, e]
    cases neg <;> rfl
  have hv : sval (decZ n) = n := by
    unfold sval
    rw [hs, hd]
    exact p4.symm
  rw [hd]
  exact ⟨p1, p2, p3, hv⟩
open Classical in
/-- the number that a text shows -/
noncomputable def readZ (s : ByteArray) : Int × Bool := if ∃ n, okDecZ n ∧ bsS (decZ n) = s then (sval (bl s), true) else (0, false)
theorem readZ_yes {s : ByteArray} {n : Int} (h : okDecZ n) (he : bsS (decZ n) = s) : readZ s = (n, true) := by
  have hb : bl s = decZ n := by rw [← he]; exact bl_bsS (decZ_lt h)
  unfold readZ
  rw [if_pos ⟨n, h, he⟩, hb, (decZ_sval h).2.2.2]
theorem readZ_no {s : ByteArray} (h : ∀ n, okDecZ n → bl s = decZ n → bsS (decZ n) = s → False) : readZ s = (0, false) := by
  unfold readZ
  rw [if_neg]
  rintro ⟨n, h1, h2⟩
  exact h n h1 (by rw [← h2]; exact bl_bsS (decZ_lt h1)) h2
end Go.Proofs.Ytlogbmdfjnldlaa
