/-
  Opening an argument that is a Snap.
-/
import Derived.Test.YtilgmdgipeimaaaDoorOpen
import Derived.Lib.SmallJoins
import Derived.Lib.Strings
import Derived.Test.YtilgmdgipeimaaaDoorStr
namespace Go.Proofs.YtilgmdgipeimaaaDoor
set_option maxRecDepth 100000
set_option linter.unusedVariables false
set_option linter.unusedSimpArgs false
open Go.RowKit Go.ChangeShapes Go.WideShapes Go.ChangeAt Go.Deep

theorem cellsStr : Tryd.prog.cellsOf 9 = 1 := by kernel_rfl
theorem cellsBoo : Tryd.prog.cellsOf 4 = 1 := by kernel_rfl
section
variable {H : Type} {enc : TypeId × Value → H} {w : World} {base : Nat} {spare : Nat → Bool} {held : Bool}

theorem rd_len {α : Type} {s B : Nat} {f : α → List Value} {v : Value} {l : List α} (h : RdS w B s f v l) : l.length ≤ 9223372036854775807 := by
  obtain ⟨A, c, _, h1, h2, _⟩ := h
  unfold maxLen at h2
  omega
theorem open_Snap {r : Reach} {b0 : Nat} {v : Value} {d : DataW H} {ps : List MemPlace} {B : Nat} (hv : Value.okWide Tryd.prog w r b0 54 v) (h : DataW.Trod enc Tryd.prog w base spare held 54 v d ps) (hB : ∀ p ∈ ps, p.block < B) :
    ∃ (rr : ByteArray) (c : Int) (vh vg : Value) (lh : List ByteArray) (lg : List Bool), v = .agg #[.string rr, .int .i64 c, vh, vg] ∧ RdS w B 1 cStr vh lh ∧ RdS w B 1 cBool vg lg ∧ (∀ x ∈ lh, okString x) ∧ (∀ x ∈ lg, okBool x) ∧
      rr.size ≤ 9223372036854775807 ∧ lh.length ≤ 9223372036854775807 ∧ lg.length ≤ 9223372036854775807 := by
  obtain ⟨cs, rfl, hsz⟩ := okWide_struct Tryd.underlying54 hv
  obtain ⟨l⟩ := cs
  obtain ⟨fuel, hf⟩ := h
  have hc : Tryd.prog.cellsOf 54 = 4 := by kernel_rfl
  have hl : l.length = 4 := by
    rw [hc] at hsz
    simpa using hsz
  have hf' : DataW.trod enc Tryd.prog w base spare held fuel 54 l = some (d, ps) := hf
  obtain ⟨xs, m, _, hx, _, hlen, hg⟩ := DataW.trod_struct Tryd.underlying54 hf'
  simp only [Prod.mk.injEq] at hx
  obtain ⟨_, rfl⟩ := hx
  match l, hl with
  | [c0, c1, c2, c3], _ =>
    match xs, hlen with
    | [y0, y1, y2, y3], _ =>
      have g0 : DataW.trod enc Tryd.prog w base spare held m 9 [c0] = some y0 := hg 0 _ rfl
      obtain ⟨a0, e0, _, w0⟩ := DataW.trod_string Tryd.underlying9 g0
      simp only [List.cons.injEq, and_true] at e0
      subst e0
      have g1 : DataW.trod enc Tryd.prog w base spare held m 3 [c1] = some y1 := hg 1 _ rfl
      obtain ⟨a1, e1, _, w1⟩ := DataW.trod_int Tryd.underlying3 g1
      simp only [List.cons.injEq, and_true] at e1
      subst e1
      have g2 : DataW.trod enc Tryd.prog w base spare held m 22 [c2] = some y2 := hg 2 _ rfl
      have g3 : DataW.trod enc Tryd.prog w base spare held m 52 [c3] = some y3 := hg 3 _ rfl
      obtain ⟨v2, l2, e2, r2, _⟩ := open_rows (B := B) (d := y2.1) (ps := y2.2) Tryd.underlying22 cellsStr (by omega) g2 (fun p hp => hB p (by simp [hp])) (elem_str Tryd.underlying9)
      obtain ⟨v3, l3, e3, r3, _⟩ := open_rows (B := B) (d := y3.1) (ps := y3.2) Tryd.underlying52 cellsBoo (by omega) g3 (fun p hp => hB p (by simp [hp])) (elem_bool Tryd.underlying4)
      simp only [List.cons.injEq, and_true] at e2 e3
      subst e2; subst e3
      refine ⟨a0, a1, _, _, l2, l3, rfl, r2.flat.1, r3.flat.1, r2.flat.2, r3.flat.2, ?_, rd_len r2.flat.1, rd_len r3.flat.1⟩
      have : a0.size ≤ maxLen := w0
      unfold maxLen at this
      omega
end

end Go.Proofs.YtilgmdgipeimaaaDoor
