/-
  BookDo of both, in the words of a law.
-/
import Derived.Test.YtlogbmdfjnldlaaEvBookT
namespace Go.Proofs.Ytlogbmdfjnldlaa
set_option maxRecDepth 100000
set_option linter.unusedVariables false
set_option linter.unusedSimpArgs false
open Go Go.RowKit
set_option maxHeartbeats 4000000

theorem cItem_one : ∀ x : TItem, ∀ u ∈ cItem x, u.oneCell' = true := fun x u hu => by simp [cItem] at hu; rcases hu with rfl | rfl <;> rfl
theorem bdL_le2 (l : List TItem) (line : ByteArray) : (bdL l line).length ≤ 12 := by
  unfold bdL
  split
  · rename_i h
    simp only [bdB, Bool.and_eq_true, decide_eq_true_eq] at h
    exact h.2.1
  · split
    · rename_i h
      exact h.1
    · simp
theorem bdL_le (l : List TItem) (line : ByteArray) : (bdL l line).length ≤ 1048576 := Nat.le_trans (bdL_le2 l line) (by decide)
section
variable {v : Value} {w : World} {l : List TItem} {line : ByteArray}
theorem bd_args (h : RdS w w.heap.size 2 cItem v l) : RepAs w (encBD (l, line)) [v, .string line] :=
  RepAs.cons (aL_rep (fun _ => rfl) cItem_one h) (RepAs.cons (aS_rep line) RepAs.nil)
theorem bookDo_spec (h : RdS w w.heap.size 2 cItem v l) (hok : ∀ x ∈ l, okItem x) (hn : l.length ≤ 8796093022207) (hs : line.size ≤ 1048576) : Calls Try.prog 54 #[v, .string line] w (NewT w 2 cItem (bdL l line) [.bool (bdB l line)]) :=
  calls_newT (fun _ => rfl) bdS_s (mdl_eq encBD_inj (l, line) ⟨⟨hok, hn⟩, Nat.le_trans hs (by decide)⟩) (bd_args h)
theorem bookDo_impl (h : RdS w w.heap.size 2 cItem v l) (hok : ∀ x ∈ l, okItem x) (hn : l.length ≤ 8796093022207) (hs : line.size ≤ 1048576) : Calls Try.prog 56 #[v, .string line] w (NewT w 2 cItem (bdL l line) [.bool (bdB l line)]) := by
  have he := mdl_eq (ok := okBD) (g := rBDi) encBD_inj (l, line) ⟨⟨hok, hn⟩, Nat.le_trans hs (by decide)⟩
  by_cases hp : bookOk l
  · simp only [rBDi, if_pos hp] at he
    exact calls_newT (fun _ => rfl) bdI he (bd_args h)
  · simp only [rBDi, if_neg hp] at he
    have e1 : bdB l line = false := by simp [bdB, hp]
    have e2 : bdL l line = [] := by simp [bdL, e1, hp]
    rw [e1, e2]
    exact calls_newTN (rest := [.bool false]) bdI he (bd_args h)
end
end Go.Proofs.Ytlogbmdfjnldlaa
