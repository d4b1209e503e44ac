/-
  The laws' own functions for a row of texts: its size, copy, equality.
-/
import Derived.Test.YteaohgacgcjkjaaDoorEvGrown
namespace Go.Proofs.YteaohgacgcjkjaaDoor
set_option maxRecDepth 100000
set_option linter.unusedVariables false
set_option linter.unusedSimpArgs false
open Go Go.RowKit
set_option maxHeartbeats 4000000

def szI (tot left : Int) : Int := if tot ≤ left then left - tot else -1
theorem szI_yes {tot left : Int} (h : tot ≤ left) : szI tot left = left - tot := if_pos h
theorem szI_no {tot left : Int} (h : ¬ tot ≤ left) : szI tot left = -1 := if_neg h
def bsz (x : ByteArray) : Int := (x.size : Int)
def strT (l : List ByteArray) : Int := l.length + (l.map bsz).sum
theorem sum_nonneg : ∀ {l : List ByteArray}, 0 ≤ (l.map bsz).sum
  | [] => by simp
  | x :: l => by
    have := sum_nonneg (l := l)
    simp only [List.map_cons, List.sum_cons]
    unfold bsz at *
    omega
theorem sumK_le (l : List ByteArray) (k : Nat) : 0 ≤ sumK bsz l k ∧ sumK bsz l k ≤ (l.map bsz).sum := by
  have h1 := sum_nonneg (l := l.take k)
  have h2 := sum_nonneg (l := l.drop k)
  have h3 : (l.map bsz).sum = ((l.take k).map bsz).sum + ((l.drop k).map bsz).sum := by rw [← List.sum_append, ← List.map_append, List.take_append_drop]
  unfold sumK
  omega
theorem elem_le {l : List ByteArray} {x : ByteArray} (h : x ∈ l) : bsz x ≤ (l.map bsz).sum := by
  obtain ⟨k, hk, rfl⟩ := List.getElem_of_mem h
  have h1 := sumK_succ bsz hk
  have h2 := (sumK_le l k).1
  have h3 := (sumK_le l (k + 1)).2
  omega
theorem okP_of {l : List ByteArray} (h : strT l ≤ 1048576) : okP l := by
  have h1 := sum_nonneg (l := l)
  unfold strT at h
  refine ⟨by omega, fun x hx => ?_⟩
  have := elem_le hx
  unfold bsz at *
  omega
abbrev okSS (x : List ByteArray × Int) : Prop := x.1.length ≤ 9223372036854775807 ∧ (∀ y ∈ x.1, y.size ≤ 9223372036854775807) ∧ 0 ≤ x.2 ∧ x.2 ≤ 1048576
noncomputable def mSzSS := mdl okSS (fun x => [aL cStr x.1, aI x.2]) (fun x => rI (szI (strT x.1) x.2))
theorem mSzSS_eq (l : List ByteArray) (n : Int) (h : okSS (l, n)) : mSzSS [aL cStr l, aI n] = some (rI (szI (strT l) n)) := mdl_eq (by rintro ⟨a, b⟩ ⟨d, e⟩ h; simpa using h) (l, n) h
theorem rowsF_repS (n : Nat) (x : ByteArray) : rowsF cStr (List.replicate n x) = List.replicate n [Leaf.sc (.string x)] := List.map_replicate
theorem padS_len {α : Type} (z : α) (l : List α) {k : Nat} (h : k ≤ l.length) : (l.take k ++ List.replicate (l.length - k) z).length = l.length := by simp; omega
def padT (l : List ByteArray) (k : Nat) : List ByteArray := l.take k ++ List.replicate (l.length - k) ByteArray.empty
theorem padT_len (l : List ByteArray) {k : Nat} (h : k ≤ l.length) : (padT l k).length = l.length := padS_len _ l h
theorem padT_all (l : List ByteArray) : padT l l.length = l := by simp [padT]
theorem padT_zero (l : List ByteArray) : padT l 0 = List.replicate l.length ByteArray.empty := by simp [padT]
theorem padT_get (l : List ByteArray) {k : Nat} (h : k < l.length) : (padT l k)[k]? = some ByteArray.empty := by
  unfold padT
  rw [List.getElem?_append_right (by simp; omega), List.length_take, Nat.min_eq_left (by omega), Nat.sub_self, List.getElem?_replicate, if_pos (by omega)]
theorem padT_set (l : List ByteArray) {k : Nat} (h : k < l.length) : (padT l k).set k l[k] = padT l (k + 1) := by
  have hl : (l.take k).length = k := by rw [List.length_take]; omega
  have hr : l.length - k = (l.length - (k + 1)) + 1 := by omega
  unfold padT
  rw [List.set_append_right _ _ (by omega), hl, Nat.sub_self, hr, List.replicate_succ, List.set_cons_zero, List.take_succ_eq_append_getElem h, List.append_assoc]
  rfl
noncomputable def mToSS := mdl (fun l : List ByteArray => l.length ≤ 1048576) (fun l => [aL cStr l]) (fun l => rL 9 1 cStr l)
theorem mToSS_eq (l : List ByteArray) (h : l.length ≤ 1048576) : mToSS [aL cStr l] = some (rL 9 1 cStr l) := mdl_eq aL_inj1 l h
theorem list_eqS {a b : List ByteArray} (hl : a.length = b.length) (h : ∀ j, j < a.length → a.getD j ByteArray.empty = b.getD j ByteArray.empty) : a = b := by
  refine List.ext_getElem hl fun i h1 h2 => ?_
  have := h i h1
  rwa [List.getD_eq_getElem?_getD, List.getD_eq_getElem?_getD, List.getElem?_eq_getElem h1, List.getElem?_eq_getElem h2] at this
noncomputable def mEqSS := mdl (fun x : List ByteArray × List ByteArray => x.1.length ≤ 8796093022207 ∧ x.2.length ≤ 8796093022207) (fun x => [aL cStr x.1, aL cStr x.2]) (fun x => rB (decide (x.1 = x.2)))
theorem mEqSS_eq (a b : List ByteArray) (h1 : a.length ≤ 8796093022207) (h2 : b.length ≤ 8796093022207) : mEqSS [aL cStr a, aL cStr b] = some (rB (decide (a = b))) := mdl_eq (by rintro ⟨a, b⟩ ⟨d, e⟩ h; simpa using h) (a, b) ⟨h1, h2⟩

end Go.Proofs.YteaohgacgcjkjaaDoor
