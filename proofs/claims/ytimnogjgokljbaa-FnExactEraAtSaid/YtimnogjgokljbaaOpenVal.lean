/-
  Opening arguments that are flat structs, or slices of such.
-/
import Derived.Test.YtimnogjgokljbaaOpen
import Derived.Lib.SmallJoins
import Derived.Lib.Strings
import Derived.Test.YtimnogjgokljbaaFlatVal
namespace Go.Proofs.Ytimnogjgokljbaa
set_option maxRecDepth 100000
set_option linter.unusedVariables false
set_option linter.unusedSimpArgs false
open Go.RowKit Go.ChangeShapes Go.WideShapes Go.ChangeAt Go.Deep

theorem le_sum_of_Val {n : Nat} {l : List Nat} (h : n ∈ l) : n ≤ l.sum := by
  induction l with
  | nil => cases h
  | cons x r ih =>
    rw [List.sum_cons]
    rcases List.mem_cons.1 h with rfl | h
    · omega
    · have := ih h; omega

section
variable {H : Type} {enc : TypeId × Value → H} {w : World} {base : Nat} {spare : Nat → Bool} {held : Bool}

theorem raw_Val {B : Nat} : ∀ n cs y, cs.length = 2 → DataW.trod enc Try.prog w base spare held n 61 cs = some y → (∀ p ∈ y.2, p.block < B) → ∃ x : TVal, cs = cVal x ∧ okVal x := by
  intro n cs y hl h _
  obtain ⟨xs, m, _, _, _, hlen, hg⟩ := DataW.trod_struct Try.underlying61 h
  match cs, hl with
  | [c0, c1], _ =>
    match xs, hlen with
    | [y0, y1], _ =>
      have g0 : DataW.trod enc Try.prog w base spare held m 3 [c0] = some y0 := hg 0 _ rfl
      obtain ⟨a0, e0, _, w0⟩ := DataW.trod_int Try.underlying3 g0
      simp only [List.cons.injEq, and_true] at e0
      subst e0
      have g1 : DataW.trod enc Try.prog w base spare held m 3 [c1] = some y1 := hg 1 _ rfl
      obtain ⟨a1, e1, _, w1⟩ := DataW.trod_int Try.underlying3 g1
      simp only [List.cons.injEq, and_true] at e1
      subst e1
      exact ⟨(a0, a1), rfl, trivial⟩
theorem elem_Val {B : Nat} : ∀ n cs y, cs.length = 2 → DataW.trod enc Try.prog w base spare held n 61 cs = some y → (∀ p ∈ y.2, p.block < B) → ∃ x : TVal, cs = cVal x ∧ okVal x := raw_Val
theorem open_Val {r : Reach} {b0 : Nat} {v : Value} {d : DataW H} {ps : List MemPlace} (hv : Value.okWide Try.prog w r b0 61 v) (h : DataW.Trod enc Try.prog w base spare held 61 v d ps) :
    ∃ x : TVal, v = .agg #[.int .i64 x.1, .int .i64 x.2] ∧ okVal x := by
  obtain ⟨cs, rfl, hsz⟩ := okWide_struct Try.underlying61 hv
  obtain ⟨l⟩ := cs
  obtain ⟨fuel, hf⟩ := h
  have hc : Try.prog.cellsOf 61 = 2 := by kernel_rfl
  have hl : l.length = 2 := by
    rw [hc] at hsz
    simpa using hsz
  have hf' : DataW.trod enc Try.prog w base spare held fuel 61 l = some (d, ps) := hf
  obtain ⟨x, hx, hok⟩ := raw_Val (B := (ps.map (·.block)).sum + 1) fuel l (d, ps) hl hf' (fun p hp => Nat.lt_succ_of_le (le_sum_of_Val (List.mem_map_of_mem hp)))
  exact ⟨x, by rw [hx]; rfl, hok⟩
end

end Go.Proofs.Ytimnogjgokljbaa
