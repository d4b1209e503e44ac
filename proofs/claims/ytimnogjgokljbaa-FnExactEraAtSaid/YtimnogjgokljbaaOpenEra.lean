/-
  Opening an argument that is a slice of eras.
-/
import Derived.Test.YtimnogjgokljbaaOpen
import Derived.Test.YtimnogjgokljbaaOpenVal
import Derived.Test.YtimnogjgokljbaaEvEraL
import Derived.Lib.SmallJoins
import Derived.Lib.Strings
namespace Go.Proofs.Ytimnogjgokljbaa
set_option maxRecDepth 100000
set_option linter.unusedVariables false
set_option linter.unusedSimpArgs false
open Go.RowKit Go.ChangeShapes Go.WideShapes Go.ChangeAt Go.Deep

theorem cellsEra : Try.prog.cellsOf 50 = 2 := by kernel_rfl
theorem bytesEra : Try.prog.bytesOf 50 = 32 := by kernel_rfl
theorem bytesValE : Try.prog.bytesOf 61 = 16 := by kernel_rfl
theorem cellsValE : Try.prog.cellsOf 61 = 2 := by kernel_rfl
section
variable {H : Type} {enc : TypeId × Value → H} {w : World} {base : Nat} {spare : Nat → Bool} {held : Bool}
theorem rd_lenE {α : Type} {s B : Nat} {f : α → List Value} {v : Value} {l : List α} (h : RdS w B s f v l) : l.length ≤ 9223372036854775807 := by
  obtain ⟨A, c, _, h1, h2, _⟩ := h
  unfold maxLen at h2
  omega
theorem elem_Era {B : Nat} : ∀ n cs y, cs.length = 2 → DataW.trod enc Try.prog w base spare held n 50 cs = some y → (∀ p ∈ y.2, p.block < B) → ∃ x : TEra, EraE w B cs x := by
  intro n cs y hl h hB
  obtain ⟨xs, m, _, hx, _, hlen, hg⟩ := DataW.trod_struct Try.underlying50 h
  match cs, hl with
  | [c0, c1], _ =>
    match xs, hlen with
    | [y0, y1], _ =>
      have hp : y.2 = y0.2 ++ (y1.2 ++ []) := by rw [hx]; rfl
      have g0 : DataW.trod enc Try.prog w base spare held m 3 [c0] = some y0 := hg 0 _ rfl
      obtain ⟨a0, e0, _, w0⟩ := DataW.trod_int Try.underlying3 g0
      simp only [List.cons.injEq, and_true] at e0
      subst e0
      have g1 : DataW.trod enc Try.prog w base spare held m 34 [c1] = some y1 := hg 1 _ rfl
      obtain ⟨v1, l1, e1, r1, _⟩ := open_rows (B := B) (d := y1.1) (ps := y1.2) Try.underlying34 cellsValE (by omega) g1 (fun p hp1 => hB p (by rw [hp]; simp [hp1])) elem_Val
      simp only [List.cons.injEq, and_true] at e1
      subst e1
      exact ⟨(a0, l1), _, rfl, r1.flat.1, rd_lenE r1.flat.1⟩
end
end Go.Proofs.Ytimnogjgokljbaa
