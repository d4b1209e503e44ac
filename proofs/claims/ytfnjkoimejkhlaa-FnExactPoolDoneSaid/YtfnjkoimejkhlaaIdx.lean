/-
  Indexes in lists..
-/
import Derived.Test.YtfnjkoimejkhlaaBase
namespace Go.Proofs.Ytfnjkoimejkhlaa
set_option maxRecDepth 100000
open Go.RowKit

/-- the first index at which p holds, or -1 -/
def idxI {α : Type} (p : α → Bool) (l : List α) : Int := if l.any p then (l.findIdx p : Int) else -1
theorem idxI_of {α : Type} (p : α → Bool) (l : List α) (k : Nat) (hk : k < l.length) (h1 : ∀ j (hj : j < l.length), j < k → p l[j] = false) (h2 : p l[k] = true) : idxI p l = k := by
  have ha : l.any p = true := List.any_eq_true.2 ⟨l[k], List.getElem_mem hk, h2⟩
  unfold idxI
  rw [if_pos ha]
  have : l.findIdx p = k := (List.findIdx_eq hk).2 ⟨h2, fun j hj => by have := h1 j (by omega) hj; simpa using this⟩
  rw [this]
theorem idxI_none {α : Type} (p : α → Bool) (l : List α) (h1 : ∀ j (hj : j < l.length), p l[j] = false) : idxI p l = -1 := by
  have ha : l.any p = false := by
    rw [List.any_eq_false]
    intro x hx
    obtain ⟨i, hi, rfl⟩ := List.getElem_of_mem hx
    simp [h1 i hi]
  unfold idxI
  rw [ha]
  rfl
theorem idxI_any {α : Type} (p : α → Bool) (l : List α) : decide ((0 : Int) ≤ idxI p l) = l.any p := by
  unfold idxI
  cases h : l.any p with
  | true => simp
  | false => simp

end Go.Proofs.Ytfnjkoimejkhlaa
