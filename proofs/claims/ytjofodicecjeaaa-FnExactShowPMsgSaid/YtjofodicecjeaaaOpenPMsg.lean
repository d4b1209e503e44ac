/-
  Opening an argument that is a PMsg.
-/
import Derived.Test.YtjofodicecjeaaaOpen
import Derived.Lib.SmallJoins
import Derived.Lib.Strings
import Derived.Test.YtjofodicecjeaaaOpenAddr
import Derived.Test.YtjofodicecjeaaaOpenHeader
import Derived.Test.YtjofodicecjeaaaOpenReq
namespace Go.Proofs.Ytjofodicecjeaaa
set_option maxRecDepth 100000
set_option linter.unusedVariables false
set_option linter.unusedSimpArgs false
open Go.RowKit Go.ChangeShapes Go.WideShapes Go.ChangeAt Go.Deep

theorem cellsAddr : Try.prog.cellsOf 174 = 2 := by kernel_rfl
section
variable {H : Type} {enc : TypeId × Value → H} {w : World} {base : Nat} {spare : Nat → Bool} {held : Bool}

theorem rd_lenA {α : Type} {s B : Nat} {f : α → List Value} {v : Value} {l : List α} (h : RdS w B s f v l) : l.length ≤ 9223372036854775807 := by
  obtain ⟨A, c, _, h1, h2, _⟩ := h
  unfold maxLen at h2
  omega
theorem open_PMsg {r : Reach} {b0 : Nat} {v : Value} {d : DataW H} {ps : List MemPlace} {B : Nat} (hv : Value.okWide Try.prog w r b0 55 v) (h : DataW.Trod enc Try.prog w base spare held 55 v d ps) (hB : ∀ p ∈ ps, p.block < B) :
    ∃ (k f : Int) (q : TReq) (hd : THeader) (vl : Value) (l : List TAddr), v = .agg #[.int .i64 k, .int .i64 f, .int .i64 q.1, .int .i64 q.2.1, .int .i64 q.2.2, .int .i64 hd.1, .int .i64 hd.2.1, .string hd.2.2.1, .string hd.2.2.2.1, .string hd.2.2.2.2.1, .string hd.2.2.2.2.2, vl] ∧
      RdS w B 2 cAddr vl l ∧ okHeader hd ∧ l.length ≤ 9223372036854775807 := by
  obtain ⟨cs, rfl, hsz⟩ := okWide_struct Try.underlying55 hv
  obtain ⟨l⟩ := cs
  obtain ⟨fuel, hf⟩ := h
  have hc : Try.prog.cellsOf 55 = 12 := by kernel_rfl
  have hl : l.length = 12 := by
    rw [hc] at hsz
    simpa using hsz
  have hf' : DataW.trod enc Try.prog w base spare held fuel 55 l = some (d, ps) := hf
  obtain ⟨xs, m, _, hx, _, hlen, hg⟩ := DataW.trod_struct Try.underlying55 hf'
  simp only [Prod.mk.injEq] at hx
  obtain ⟨_, rfl⟩ := hx
  match l, hl with
  | [c0, c1, c2, c3, c4, c5, c6, c7, c8, c9, c10, c11], _ =>
    match xs, hlen with
    | [y0, y1, y2, y3, y4], _ =>
      have g0 : DataW.trod enc Try.prog w base spare held m 3 [c0] = some y0 := hg 0 _ rfl
      obtain ⟨a0, e0, _, w0⟩ := DataW.trod_int Try.underlying3 g0
      simp only [List.cons.injEq, and_true] at e0
      subst e0
      have g1 : DataW.trod enc Try.prog w base spare held m 3 [c1] = some y1 := hg 1 _ rfl
      obtain ⟨a1, e1, _, w1⟩ := DataW.trod_int Try.underlying3 g1
      simp only [List.cons.injEq, and_true] at e1
      subst e1
      have g2 : DataW.trod enc Try.prog w base spare held m 50 [c2, c3, c4] = some y2 := hg 2 _ rfl
      have g3 : DataW.trod enc Try.prog w base spare held m 52 [c5, c6, c7, c8, c9, c10] = some y3 := hg 3 _ rfl
      have g4 : DataW.trod enc Try.prog w base spare held m 53 [c11] = some y4 := hg 4 _ rfl
      obtain ⟨q, eq, _⟩ := raw_Req (B := B) _ _ _ rfl g2 (fun p hp => hB p (by simp [hp]))
      obtain ⟨hd, eh, okh⟩ := raw_Header (B := B) _ _ _ rfl g3 (fun p hp => hB p (by simp [hp]))
      obtain ⟨v4, l4, e4, r4, _⟩ := open_rows (B := B) (d := y4.1) (ps := y4.2) Try.underlying53 cellsAddr (by omega) g4 (fun p hp => hB p (by simp [hp])) elem_Addr
      simp only [List.cons.injEq, and_true] at e4
      subst e4
      simp only [cReq, List.cons.injEq, and_true] at eq
      simp only [cHeader, List.cons.injEq, and_true] at eh
      obtain ⟨rfl, rfl, rfl⟩ := eq
      obtain ⟨rfl, rfl, rfl, rfl, rfl, rfl⟩ := eh
      exact ⟨a0, a1, q, hd, _, l4, rfl, r4.flat.1, okh, rd_lenA r4.flat.1⟩
end

end Go.Proofs.Ytjofodicecjeaaa
