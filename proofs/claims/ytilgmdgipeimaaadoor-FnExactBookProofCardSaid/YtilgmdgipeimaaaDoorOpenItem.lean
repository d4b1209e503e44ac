/-
  Opening arguments that are flat structs, or slices of such.
-/
import Derived.Test.YtilgmdgipeimaaaDoorOpen
import Derived.Lib.SmallJoins
import Derived.Lib.Strings
import Derived.Test.YtilgmdgipeimaaaDoorFlatItem
namespace Go.Proofs.YtilgmdgipeimaaaDoor
set_option maxRecDepth 100000
set_option linter.unusedVariables false
set_option linter.unusedSimpArgs false
open Go.RowKit Go.ChangeShapes Go.WideShapes Go.ChangeAt Go.Deep

theorem le_sum_of_Item {n : Nat} {l : List Nat} (h : n ∈ l) : n ≤ l.sum := by
  induction l with
  | nil => cases h
  | cons x r ih =>
    rw [List.sum_cons]
    rcases List.mem_cons.1 h with rfl | h
    · omega
    · have := ih h; omega

section
variable {H : Type} {enc : TypeId × Value → H} {w : World} {base : Nat} {spare : Nat → Bool} {held : Bool}

theorem raw_Item {B : Nat} : ∀ n cs y, cs.length = 2 → DataW.trod enc Tryd.prog w base spare held n 80 cs = some y → (∀ p ∈ y.2, p.block < B) → ∃ x : TItem, cs = cItem x ∧ okItem x := by
  intro n cs y hl h _
  obtain ⟨xs, m, _, _, _, hlen, hg⟩ := DataW.trod_struct Tryd.underlying80 h
  match cs, hl with
  | [c0, c1], _ =>
    match xs, hlen with
    | [y0, y1], _ =>
      have g0 : DataW.trod enc Tryd.prog w base spare held m 9 [c0] = some y0 := hg 0 _ rfl
      obtain ⟨a0, e0, _, w0⟩ := DataW.trod_string Tryd.underlying9 g0
      simp only [List.cons.injEq, and_true] at e0
      subst e0
      have g1 : DataW.trod enc Tryd.prog w base spare held m 3 [c1] = some y1 := hg 1 _ rfl
      obtain ⟨a1, e1, _, w1⟩ := DataW.trod_int Tryd.underlying3 g1
      simp only [List.cons.injEq, and_true] at e1
      subst e1
      exact ⟨(a0, a1), rfl, w0⟩
theorem elem_Item {B : Nat} : ∀ n cs y, cs.length = 2 → DataW.trod enc Tryd.prog w base spare held n 80 cs = some y → (∀ p ∈ y.2, p.block < B) → ∃ x : TItem, cs = cItem x ∧ okItem x := raw_Item
theorem open_Item {r : Reach} {b0 : Nat} {v : Value} {d : DataW H} {ps : List MemPlace} (hv : Value.okWide Tryd.prog w r b0 80 v) (h : DataW.Trod enc Tryd.prog w base spare held 80 v d ps) :
    ∃ x : TItem, v = .agg #[.string x.1, .int .i64 x.2] ∧ okItem x := by
  obtain ⟨cs, rfl, hsz⟩ := okWide_struct Tryd.underlying80 hv
  obtain ⟨l⟩ := cs
  obtain ⟨fuel, hf⟩ := h
  have hc : Tryd.prog.cellsOf 80 = 2 := by kernel_rfl
  have hl : l.length = 2 := by
    rw [hc] at hsz
    simpa using hsz
  have hf' : DataW.trod enc Tryd.prog w base spare held fuel 80 l = some (d, ps) := hf
  obtain ⟨x, hx, hok⟩ := raw_Item (B := (ps.map (·.block)).sum + 1) fuel l (d, ps) hl hf' (fun p hp => Nat.lt_succ_of_le (le_sum_of_Item (List.mem_map_of_mem hp)))
  exact ⟨x, by rw [hx]; rfl, hok⟩
end

end Go.Proofs.YtilgmdgipeimaaaDoor
