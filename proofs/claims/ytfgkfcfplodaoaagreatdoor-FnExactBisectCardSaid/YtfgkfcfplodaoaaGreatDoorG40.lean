/-
  Put together: PDoorFrame POpenVal POpenHeader POpenCSig POpenSkip POpenBisect.
-/
import Derived.Test.YtfgkfcfplodaoaaGreatDoorG0
import Derived.Test.YtfgkfcfplodaoaaGreatDoorHPEv4
import Derived.LaidMore
import Derived.OpenShut
import Derived.ChangeVars
import Derived.Stop.Joined
import Derived.Lib.SmallJoins
import Derived.Lib.Strings
import Derived.Test.YtfgkfcfplodaoaaGreatDoorG8
import Derived.Test.YtfgkfcfplodaoaaGreatDoorG9
import Derived.Test.YtfgkfcfplodaoaaGreatDoorG21
import Derived.Test.YtfgkfcfplodaoaaGreatDoorG29
section
/-!
  The frame of a law's proof where the row lists impl.shaWords.
-/
namespace Go.Proofs.YtfgkfcfplodaoaaGreatDoor
set_option maxRecDepth 100000
set_option linter.unusedVariables false
set_option linter.unusedSimpArgs false
open Go Go.RowKit Go.ChangeShapes Go.WideShapes Go.ChangeAt Go.Deep

theorem gSha : Tryz.prog.globalNamed "loop.example/g00946/impl.shaWords" = some 0 := by kernel_rfl
theorem tSha : (Tryz.prog.globals[0]?).map (·.type) = some 252 := by kernel_rfl
def laidL : List (String × DataW Unit) := [("loop.example/g00946/impl.shaWords", Rows.laid_loop_example_g00946_impl_shaWords)]
theorem door_met (os : Os) (args : Array Value) : laidMetH Tryz.prog laidL ((World.doorLaid Tryz.prog 2000 os).forCall (fun _ _ => 0) ⟨#[], args, []⟩).memory :=
  laidMetH_of_parts3 (fuel := 8) (laidMet_of_run' 8 (by kernel_rfl) (by kernel_rfl)) (by kernel_rfl) (by kernel_rfl)
theorem shaD : (Rows.laid_loop_example_g00946_impl_shaWords : DataW Unit) = .agg (shaW.map fun (n : Nat) => .lit (.int .u32 (n : Int))) := by kernel_rfl
theorem cellsU : Tryz.prog.cellsOf 231 = 1 := by kernel_rfl
theorem glob_of_laid {W : World} (h : laidMetH Tryz.prog laidL W) : GlobOk none0 W := by
  rw [MakeChecks.laidMetH_plain _ _ _ (by kernel_rfl)] at h
  obtain ⟨ps, ⟨g0, t0, cs0, f0, p0, q0, hg0, ht0, hv0, hd0, _⟩, _, _⟩ := h
  obtain rfl := Option.some.inj (gSha.symm.trans hg0)
  obtain rfl := Option.some.inj (tSha.symm.trans ht0)
  obtain ⟨xs, m, rfl, hx, hlen, hn, hel⟩ := DataW.trod_array Tryz.underlying252 hd0
  have hx1 : xs.map (·.1) = shaW.map fun (n : Nat) => DataW.lit (.int .u32 (n : Int)) := by
    have h1 := (Prod.mk.inj hx).1
    rw [shaD] at h1
    injection h1 with h1
    exact h1.symm
  intro g cs hgc
  unfold globs at hgc
  split at hgc
  · rename_i hg
    subst hg
    cases hgc
    have hcell : ∀ (j : Nat) (v : Value), (shaW.map fun (n : Nat) => Value.int .u32 (n : Int))[j]? = some v → v.oneCell' = true ∧ W.cell? ⟨0, j, none⟩ = some v := by
      intro j v hj
      rw [List.getElem?_map] at hj
      obtain ⟨n, hj1, rfl⟩ := Option.map_eq_some_iff.1 hj
      refine ⟨rfl, ?_⟩
      have hj64 : j < 64 := (List.getElem?_eq_some_iff.1 hj1).1
      have hxj : (xs.map (·.1))[j]? = some (DataW.lit (.int .u32 (n : Int))) := by rw [hx1, List.getElem?_map, hj1]; rfl
      rw [List.getElem?_map] at hxj
      obtain ⟨x, hx2, hx3⟩ := Option.map_eq_some_iff.1 hxj
      have he := hel j hj64
      rw [cellsU, Nat.mul_one, hx2] at he
      obtain ⟨k, e1, e2, _⟩ := DataW.trod_int Tryz.underlying231 he
      rw [e2] at hx3
      simp only [DataW.lit.injEq, Lit.int.injEq, true_and] at hx3
      subst hx3
      rw [World.var?_cell hg0 hv0 j]
      have h5 : (cs0.toList.drop j)[0]? = some (.int .u32 (n : Int)) := by
        have h6 : ((cs0.toList.drop j).take 1)[0]? = some (Value.int .u32 (n : Int)) := by rw [e1]; rfl
        rw [List.getElem?_take] at h6
        simpa using h6
      rw [List.getElem?_drop] at h5
      simpa using h5
    have h0 := (hcell 0 _ rfl).2
    refine ⟨rfl, ?_, hcell⟩
    unfold World.cell? at h0
    cases hh : W.heap[0]? with
    | none => rw [hh] at h0; cases h0
    | some o => exact heap_lt hh
  · cases hgc

section
variable {H : Type} {enc : TypeId × Value → H} {P : Program}
/-- A LAW's POST where one variable is listed. -/
theorem law_post1 {fn : Func} {sp : ChangeSpec} {tb : TypeId} {nm : String} (hbt : P.underlying tb = some .bool) (hres : fn.resultTypes = #[tb]) (hvars : sp.vars = [nm]) (hl : laidOutB P = true)
    (hr : ∀ t ∈ fn.params.toList, P.readableRec t = true ∧ t < P.types.size) (hg : ∀ g t, P.globalNamed nm = some g → (P.globals[g]?).map (·.type) = some t → P.readableRec t = true ∧ t < P.types.size) {W W' : World} {args : Array Value} {ds gs : List (DataW H)} {before : List MemPlace}
    (hW : DataW.Whole enc P fn.params.toList sp.vars false W args.toList ds gs before)
    (hfn : (sp.fn H (ds ++ gs)).results = [.lit (.bool true)] ∧ (sp.fn H (ds ++ gs)).args = ds ∧ (sp.fn H (ds ++ gs)).vars = gs) (hb : Below W.heap.size W W') :
    sp.post enc P fn false true false false W args (.bool true) W' := by
  have hW' := hW
  obtain ⟨p, q, hA, hV, rfl, _, _⟩ := hW
  have hlt : ∀ x ∈ p ++ q, x.block < W.heap.size := fun x hx => by simpa using hW'.lt x hx
  have hV1 := hV
  rw [hvars] at hV1
  obtain ⟨g, t, cs, fuel, d, p', rfl, h1, h2, h3, h4, rfl⟩ := trodVars_one hV1
  obtain ⟨r1, r2⟩ := hg g t h1 h2
  obtain ⟨fuel', h4'⟩ := Below.trod (v := .agg cs) hl r1 r2 ⟨fuel, h4⟩ hb (fun x hx => hlt x (List.mem_append_right _ (List.mem_append_right _ hx)))
  have h3' : W'.var? P nm = some cs := by
    have hglt : g < W.heap.size := by
      simp only [World.var?, h1, Option.bind_some] at h3
      cases hh : W.heap[g]? with
      | none => rw [hh] at h3; cases h3
      | some o => exact heap_lt hh
    simp only [World.var?, h1, Option.bind_some] at h3 ⊢
    rw [hb.block g hglt]
    exact h3
  refine ⟨_, _, _, [], p, MemPlace.row ⟨g, 0, none⟩ cs.size ++ p', hW', ?_, ?_, ?_, hb.frame _, fun h => by cases h⟩
  · rw [hfn.1, hres]
    exact trodAll_mk1 (shut_bool hbt true)
  · rw [hfn.2.1]
    exact below_trodAll hl hb _ _ _ _ hr hA (fun x hx => hlt x (List.mem_append_left _ hx))
  · rw [hfn.2.2, hvars]
    exact trodVars_mk1 h1 h2 h3' h4'
end
theorem gShaRead : ∀ g t, Tryz.prog.globalNamed "loop.example/g00946/impl.shaWords" = some g → (Tryz.prog.globals[g]?).map (·.type) = some t → Tryz.prog.readableRec t = true ∧ t < Tryz.prog.types.size := by
  intro g t hg ht
  obtain rfl := Option.some.inj (gSha.symm.trans hg)
  obtain rfl := Option.some.inj (tSha.symm.trans ht)
  exact ⟨by kernel_rfl, of_decide_eq_true (by kernel_rfl)⟩

end Go.Proofs.YtfgkfcfplodaoaaGreatDoor

end
section
/-!
  Opening arguments that are flat structs, or slices of such.
-/
namespace Go.Proofs.YtfgkfcfplodaoaaGreatDoor
set_option maxRecDepth 100000
set_option linter.unusedVariables false
set_option linter.unusedSimpArgs false
open Go.RowKit Go.ChangeShapes Go.WideShapes Go.ChangeAt Go.Deep

section
variable {H : Type} {enc : TypeId × Value → H} {w : World} {base : Nat} {spare : Nat → Bool} {held : Bool}

theorem raw_Val {B : Nat} : ∀ n cs y, cs.length = 2 → DataW.trod enc Tryz.prog w base spare held n 176 cs = some y → (∀ p ∈ y.2, p.block < B) → ∃ x : TVal, cs = cVal x ∧ okVal x := by
  intro n cs y hl h _
  obtain ⟨xs, m, _, _, _, hlen, hg⟩ := DataW.trod_struct Tryz.underlying176 h
  match cs, hl with
  | [c0, c1], _ =>
    match xs, hlen with
    | [y0, y1], _ =>
      have g0 : DataW.trod enc Tryz.prog w base spare held m 3 [c0] = some y0 := hg 0 _ rfl
      obtain ⟨a0, e0, _, w0⟩ := DataW.trod_int Tryz.underlying3 g0
      simp only [List.cons.injEq, and_true] at e0
      subst e0
      have g1 : DataW.trod enc Tryz.prog w base spare held m 3 [c1] = some y1 := hg 1 _ rfl
      obtain ⟨a1, e1, _, w1⟩ := DataW.trod_int Tryz.underlying3 g1
      simp only [List.cons.injEq, and_true] at e1
      subst e1
      exact ⟨(a0, a1), rfl, trivial⟩
theorem elem_Val {B : Nat} : ∀ n cs y, cs.length = 2 → DataW.trod enc Tryz.prog w base spare held n 176 cs = some y → (∀ p ∈ y.2, p.block < B) → ∃ x : TVal, cs = cVal x ∧ okVal x := raw_Val
end

end Go.Proofs.YtfgkfcfplodaoaaGreatDoor

end
section
/-!
  Opening arguments that are flat structs, or slices of such.
-/
namespace Go.Proofs.YtfgkfcfplodaoaaGreatDoor
set_option maxRecDepth 100000
set_option linter.unusedVariables false
set_option linter.unusedSimpArgs false
open Go.RowKit Go.ChangeShapes Go.WideShapes Go.ChangeAt Go.Deep

section
variable {H : Type} {enc : TypeId × Value → H} {w : World} {base : Nat} {spare : Nat → Bool} {held : Bool}

theorem raw_Header {B : Nat} : ∀ n cs y, cs.length = 6 → DataW.trod enc Tryz.prog w base spare held n 57 cs = some y → (∀ p ∈ y.2, p.block < B) → ∃ x : THeader, cs = cHeader x ∧ okHeader x := by
  intro n cs y hl h _
  obtain ⟨xs, m, _, _, _, hlen, hg⟩ := DataW.trod_struct Tryz.underlying57 h
  match cs, hl with
  | [c0, c1, c2, c3, c4, c5], _ =>
    match xs, hlen with
    | [y0, y1, y2, y3, y4, y5], _ =>
      have g0 : DataW.trod enc Tryz.prog w base spare held m 3 [c0] = some y0 := hg 0 _ rfl
      obtain ⟨a0, e0, _, w0⟩ := DataW.trod_int Tryz.underlying3 g0
      simp only [List.cons.injEq, and_true] at e0
      subst e0
      have g1 : DataW.trod enc Tryz.prog w base spare held m 3 [c1] = some y1 := hg 1 _ rfl
      obtain ⟨a1, e1, _, w1⟩ := DataW.trod_int Tryz.underlying3 g1
      simp only [List.cons.injEq, and_true] at e1
      subst e1
      have g2 : DataW.trod enc Tryz.prog w base spare held m 9 [c2] = some y2 := hg 2 _ rfl
      obtain ⟨a2, e2, _, w2⟩ := DataW.trod_string Tryz.underlying9 g2
      simp only [List.cons.injEq, and_true] at e2
      subst e2
      have g3 : DataW.trod enc Tryz.prog w base spare held m 9 [c3] = some y3 := hg 3 _ rfl
      obtain ⟨a3, e3, _, w3⟩ := DataW.trod_string Tryz.underlying9 g3
      simp only [List.cons.injEq, and_true] at e3
      subst e3
      have g4 : DataW.trod enc Tryz.prog w base spare held m 9 [c4] = some y4 := hg 4 _ rfl
      obtain ⟨a4, e4, _, w4⟩ := DataW.trod_string Tryz.underlying9 g4
      simp only [List.cons.injEq, and_true] at e4
      subst e4
      have g5 : DataW.trod enc Tryz.prog w base spare held m 9 [c5] = some y5 := hg 5 _ rfl
      obtain ⟨a5, e5, _, w5⟩ := DataW.trod_string Tryz.underlying9 g5
      simp only [List.cons.injEq, and_true] at e5
      subst e5
      exact ⟨(a0, a1, a2, a3, a4, a5), rfl, ⟨w2, w3, w4, w5⟩⟩
end

end Go.Proofs.YtfgkfcfplodaoaaGreatDoor

end
section
/-!
  Opening arguments that are flat structs, or slices of such.
-/
namespace Go.Proofs.YtfgkfcfplodaoaaGreatDoor
set_option maxRecDepth 100000
set_option linter.unusedVariables false
set_option linter.unusedSimpArgs false
open Go.RowKit Go.ChangeShapes Go.WideShapes Go.ChangeAt Go.Deep

section
variable {H : Type} {enc : TypeId × Value → H} {w : World} {base : Nat} {spare : Nat → Bool} {held : Bool}

theorem raw_CSig {B : Nat} : ∀ n cs y, cs.length = 2 → DataW.trod enc Tryz.prog w base spare held n 228 cs = some y → (∀ p ∈ y.2, p.block < B) → ∃ x : TCSig, cs = cCSig x ∧ okCSig x := by
  intro n cs y hl h _
  obtain ⟨xs, m, _, _, _, hlen, hg⟩ := DataW.trod_struct Tryz.underlying228 h
  match cs, hl with
  | [c0, c1], _ =>
    match xs, hlen with
    | [y0, y1], _ =>
      have g0 : DataW.trod enc Tryz.prog w base spare held m 3 [c0] = some y0 := hg 0 _ rfl
      obtain ⟨a0, e0, _, w0⟩ := DataW.trod_int Tryz.underlying3 g0
      simp only [List.cons.injEq, and_true] at e0
      subst e0
      have g1 : DataW.trod enc Tryz.prog w base spare held m 9 [c1] = some y1 := hg 1 _ rfl
      obtain ⟨a1, e1, _, w1⟩ := DataW.trod_string Tryz.underlying9 g1
      simp only [List.cons.injEq, and_true] at e1
      subst e1
      exact ⟨(a0, a1), rfl, w1⟩
theorem elem_CSig {B : Nat} : ∀ n cs y, cs.length = 2 → DataW.trod enc Tryz.prog w base spare held n 228 cs = some y → (∀ p ∈ y.2, p.block < B) → ∃ x : TCSig, cs = cCSig x ∧ okCSig x := raw_CSig
end

end Go.Proofs.YtfgkfcfplodaoaaGreatDoor

end
section
/-!
  Opening arguments that are a trust, an anchor, a block.
-/
namespace Go.Proofs.YtfgkfcfplodaoaaGreatDoor
set_option maxRecDepth 100000
set_option linter.unusedVariables false
set_option linter.unusedSimpArgs false
open Go.RowKit Go.ChangeShapes Go.WideShapes Go.ChangeAt Go.Deep

theorem cellsValK : Tryz.prog.cellsOf 176 = 2 := by kernel_rfl
theorem cellsCSigK : Tryz.prog.cellsOf 228 = 2 := by kernel_rfl
section
variable {H : Type} {enc : TypeId × Value → H} {w : World} {base : Nat} {spare : Nat → Bool} {held : Bool}

theorem rd_lenK {α : Type} {s B : Nat} {f : α → List Value} {v : Value} {l : List α} (h : RdS w B s f v l) : l.length ≤ 9223372036854775807 := by
  obtain ⟨A, c, _, h1, h2, _⟩ := h
  unfold maxLen at h2
  omega
theorem open_Trust {r : Reach} {b0 : Nat} {v : Value} {d : DataW H} {ps : List MemPlace} (hv : Value.okWide Tryz.prog w r b0 56 v) (h : DataW.Trod enc Tryz.prog w base spare held 56 v d ps) :
    ∃ (p s : Int), v = .agg #[.int .i64 p, .int .i64 s] := by
  obtain ⟨cs, rfl, hsz⟩ := okWide_struct Tryz.underlying56 hv
  obtain ⟨l⟩ := cs
  obtain ⟨fuel, hf⟩ := h
  have hc : Tryz.prog.cellsOf 56 = 2 := by kernel_rfl
  have hl : l.length = 2 := by
    rw [hc] at hsz
    simpa using hsz
  have hf' : DataW.trod enc Tryz.prog w base spare held fuel 56 l = some (d, ps) := hf
  obtain ⟨xs, m, _, hx, _, hlen, hg⟩ := DataW.trod_struct Tryz.underlying56 hf'
  match l, hl with
  | [c0, c1], _ =>
    match xs, hlen with
    | [y0, y1], _ =>
      have g0 : DataW.trod enc Tryz.prog w base spare held m 3 [c0] = some y0 := hg 0 _ rfl
      obtain ⟨a0, e0, _, w0⟩ := DataW.trod_int Tryz.underlying3 g0
      simp only [List.cons.injEq, and_true] at e0
      subst e0
      have g1 : DataW.trod enc Tryz.prog w base spare held m 3 [c1] = some y1 := hg 1 _ rfl
      obtain ⟨a1, e1, _, w1⟩ := DataW.trod_int Tryz.underlying3 g1
      simp only [List.cons.injEq, and_true] at e1
      subst e1
      exact ⟨a0, a1, rfl⟩
theorem open_Anchor {r : Reach} {b0 : Nat} {v : Value} {d : DataW H} {ps : List MemPlace} {B : Nat} (hv : Value.okWide Tryz.prog w r b0 60 v) (h : DataW.Trod enc Tryz.prog w base spare held 60 v d ps) (hB : ∀ p ∈ ps, p.block < B) :
    ∃ (hd : THeader) (vl : Value) (l : List TVal), v = .agg #[.int .i64 hd.1, .int .i64 hd.2.1, .string hd.2.2.1, .string hd.2.2.2.1, .string hd.2.2.2.2.1, .string hd.2.2.2.2.2, vl] ∧
      RdS w B 2 cVal vl l ∧ okHeader hd ∧ l.length ≤ 9223372036854775807 := by
  obtain ⟨cs, rfl, hsz⟩ := okWide_struct Tryz.underlying60 hv
  obtain ⟨l⟩ := cs
  obtain ⟨fuel, hf⟩ := h
  have hc : Tryz.prog.cellsOf 60 = 7 := by kernel_rfl
  have hl : l.length = 7 := by
    rw [hc] at hsz
    simpa using hsz
  have hf' : DataW.trod enc Tryz.prog w base spare held fuel 60 l = some (d, ps) := hf
  obtain ⟨xs, m, _, hx, _, hlen, hg⟩ := DataW.trod_struct Tryz.underlying60 hf'
  simp only [Prod.mk.injEq] at hx
  obtain ⟨_, rfl⟩ := hx
  match l, hl with
  | [c0, c1, c2, c3, c4, c5, c6], _ =>
    match xs, hlen with
    | [y0, y1], _ =>
      have g0 : DataW.trod enc Tryz.prog w base spare held m 57 [c0, c1, c2, c3, c4, c5] = some y0 := hg 0 _ rfl
      have g1 : DataW.trod enc Tryz.prog w base spare held m 58 [c6] = some y1 := hg 1 _ rfl
      obtain ⟨hd, eh, okh⟩ := raw_Header (B := B) _ _ _ rfl g0 (fun p hp => hB p (by simp [hp]))
      obtain ⟨v1, l1, e1, r1, _⟩ := open_rows (B := B) (d := y1.1) (ps := y1.2) Tryz.underlying58 cellsValK (by omega) g1 (fun p hp => hB p (by simp [hp])) elem_Val
      simp only [List.cons.injEq, and_true] at e1
      subst e1
      simp only [cHeader, List.cons.injEq, and_true] at eh
      obtain ⟨rfl, rfl, rfl, rfl, rfl, rfl⟩ := eh
      exact ⟨hd, _, l1, rfl, r1.flat.1, okh, rd_lenK r1.flat.1⟩
end
end Go.Proofs.YtfgkfcfplodaoaaGreatDoor

end
section
/-!
  Opening an argument that is a slice of blocks; an anchor's height is a number of 64 bits.
-/
namespace Go.Proofs.YtfgkfcfplodaoaaGreatDoor
set_option maxRecDepth 100000
set_option linter.unusedVariables false
set_option linter.unusedSimpArgs false
open Go.RowKit Go.ChangeShapes Go.WideShapes Go.ChangeAt Go.Deep

theorem cellsBlock : Tryz.prog.cellsOf 139 = 12 := by kernel_rfl
/-- a slice's element that reads as a block -/
def BkE (w : World) (B : Nat) (cs : List Value) (b : TBlock) : Prop := ∃ v1 v2 v3, cs = [.int .i64 b.1.1, .int .i64 b.1.2.1, .string b.1.2.2.1, .string b.1.2.2.2.1, .string b.1.2.2.2.2.1, .string b.1.2.2.2.2.2, v1, v2, .int .i64 b.2.2.2.1, .int .i64 b.2.2.2.2.1, .string b.2.2.2.2.2.1, v3] ∧
  RdS w B 2 cVal v1 b.2.1 ∧ RdS w B 2 cVal v2 b.2.2.1 ∧ RdS w B 2 cCSig v3 b.2.2.2.2.2.2 ∧ okBkZ b
section
variable {H : Type} {enc : TypeId × Value → H} {w : World} {base : Nat} {spare : Nat → Bool} {held : Bool}
theorem elem_Block {B : Nat} : ∀ n cs y, cs.length = 12 → DataW.trod enc Tryz.prog w base spare held n 139 cs = some y → (∀ p ∈ y.2, p.block < B) → ∃ x : TBlock, BkE w B cs x := by
  intro n cs y hl h hB
  obtain ⟨xs, m, _, hx, _, hlen, hg⟩ := DataW.trod_struct Tryz.underlying139 h
  match cs, hl with
  | [c0, c1, c2, c3, c4, c5, c6, c7, c8, c9, c10, c11], _ =>
    match xs, hlen with
    | [y0, y1, y2, y3], _ =>
      have hy : y.2 = y0.2 ++ (y1.2 ++ (y2.2 ++ (y3.2 ++ []))) := by rw [hx]; rfl
      have g0 : DataW.trod enc Tryz.prog w base spare held m 57 [c0, c1, c2, c3, c4, c5] = some y0 := hg 0 _ rfl
      have g1 : DataW.trod enc Tryz.prog w base spare held m 58 [c6] = some y1 := hg 1 _ rfl
      have g2 : DataW.trod enc Tryz.prog w base spare held m 58 [c7] = some y2 := hg 2 _ rfl
      have g3 : DataW.trod enc Tryz.prog w base spare held m 137 [c8, c9, c10, c11] = some y3 := hg 3 _ rfl
      obtain ⟨hd, eh, okh⟩ := raw_Header (B := B) _ _ _ rfl g0 (fun p hp => hB p (by rw [hy]; simp [hp]))
      obtain ⟨v1, l1, e1, r1, _⟩ := open_rows (B := B) (d := y1.1) (ps := y1.2) Tryz.underlying58 cellsValK (by omega) g1 (fun p hp => hB p (by rw [hy]; simp [hp])) elem_Val
      obtain ⟨v2, l2, e2, r2, _⟩ := open_rows (B := B) (d := y2.1) (ps := y2.2) Tryz.underlying58 cellsValK (by omega) g2 (fun p hp => hB p (by rw [hy]; simp [hp])) elem_Val
      obtain ⟨zs, m3, _, hx3, _, hlen3, hg3⟩ := DataW.trod_struct Tryz.underlying137 g3
      match zs, hlen3 with
      | [z0, z1, z2, z3], _ =>
        have hp3 : ∀ p ∈ z3.2, p ∈ y3.2 := fun p hp => by rw [hx3]; simp [hp]
        have k0 : DataW.trod enc Tryz.prog w base spare held m3 3 [c8] = some z0 := hg3 0 _ rfl
        obtain ⟨a0, e80, _, w80⟩ := DataW.trod_int Tryz.underlying3 k0
        simp only [List.cons.injEq, and_true] at e80
        subst e80
        have k1 : DataW.trod enc Tryz.prog w base spare held m3 3 [c9] = some z1 := hg3 1 _ rfl
        obtain ⟨a1, e81, _, w81⟩ := DataW.trod_int Tryz.underlying3 k1
        simp only [List.cons.injEq, and_true] at e81
        subst e81
        have k2 : DataW.trod enc Tryz.prog w base spare held m3 9 [c10] = some z2 := hg3 2 _ rfl
        obtain ⟨a2, e82, _, w82⟩ := DataW.trod_string Tryz.underlying9 k2
        simp only [List.cons.injEq, and_true] at e82
        subst e82
        have k3 : DataW.trod enc Tryz.prog w base spare held m3 135 [c11] = some z3 := hg3 3 _ rfl
        obtain ⟨v3, l3, e3, r3, _⟩ := open_rows (B := B) (d := z3.1) (ps := z3.2) Tryz.underlying135 cellsCSigK (by omega) k3 (fun p hp => hB p (by rw [hy]; simp [hp3 p hp])) elem_CSig
        simp only [List.cons.injEq, and_true] at e1 e2 e3
        subst e1; subst e2; subst e3
        simp only [cHeader, List.cons.injEq, and_true] at eh
        obtain ⟨rfl, rfl, rfl, rfl, rfl, rfl⟩ := eh
        refine ⟨(hd, l1, l2, (a0, a1, a2, l3)), _, _, _, rfl, r1.flat.1, r2.flat.1, r3.flat.1, okh, rd_lenK r1.flat.1, rd_lenK r2.flat.1, ?_, rd_lenK r3.flat.1, r3.flat.2⟩
        have : a2.size ≤ maxLen := w82
        unfold maxLen at this
        exact this
theorem anchor_lo {r : Reach} {b0 : Nat} {v : Value} {d : DataW H} {ps : List MemPlace} (hv : Value.okWide Tryz.prog w r b0 60 v) (h : DataW.Trod enc Tryz.prog w base spare held 60 v d ps) {a : Int} {r1 r2 r3 r4 r5 r6 : Value} (he : v = .agg #[.int .i64 a, r1, r2, r3, r4, r5, r6]) : okInt a := by
  subst he
  obtain ⟨fuel, hf⟩ := h
  have hf' : DataW.trod enc Tryz.prog w base spare held fuel 60 [.int .i64 a, r1, r2, r3, r4, r5, r6] = some (d, ps) := hf
  obtain ⟨xs, m, _, hx, _, hlen, hg⟩ := DataW.trod_struct Tryz.underlying60 hf'
  match xs, hlen with
  | [y0, y1], _ =>
    have g0 : DataW.trod enc Tryz.prog w base spare held m 57 [.int .i64 a, r1, r2, r3, r4, r5] = some y0 := hg 0 _ rfl
    obtain ⟨zs, m2, _, _, _, hlen2, hg2⟩ := DataW.trod_struct Tryz.underlying57 g0
    match zs, hlen2 with
    | [z0, z1, z2, z3, z4, z5], _ =>
      have k0 : DataW.trod enc Tryz.prog w base spare held m2 3 [.int .i64 a] = some z0 := hg2 0 _ rfl
      obtain ⟨a0, e0, _, w0⟩ := DataW.trod_int Tryz.underlying3 k0
      simp only [List.cons.injEq, Value.int.injEq, and_true, true_and] at e0
      subst e0
      exact okInt_of w0
end
theorem okInt_rng {n : Int} (h : okInt n) : -9223372036854775808 ≤ n ∧ n ≤ 9223372036854775807 := by
  unfold okInt Lit.wf at h
  simp only [Bool.and_eq_true, decide_eq_true_eq] at h
  have e1 : IntKind.i64.min = -9223372036854775808 := rfl
  have e2 : IntKind.i64.max = 9223372036854775807 := rfl
  rw [e1, e2] at h
  exact h
theorem cVal_onB : ∀ x : TVal, ∀ u ∈ cVal x, u.oneCell' = true := fun x u hu => by simp [cVal] at hu; rcases hu with rfl | rfl <;> rfl
theorem cCSig_onB : ∀ x : TCSig, ∀ u ∈ cCSig x, u.oneCell' = true := fun x u hu => by simp [cCSig] at hu; rcases hu with rfl | rfl <;> rfl
theorem bk_rep {w : World} {v : Value} {l : List TBlock} (h : RdR w w.heap.size 12 (BkE w w.heap.size) v l) : RepL w none0 (.sl (bkRows l)) v ∧ okBSz l := by
  obtain ⟨A, c, rfl, hlc, hcm, hn⟩ := h
  have hll : l.length ≤ 9223372036854775807 := by unfold maxLen at hcm; omega
  by_cases hne : l = []
  · subst hne
    exact ⟨.emp hcm, hll, fun e he => by cases he⟩
  · obtain ⟨b, off, rfl, hb, hc⟩ := hn hne
    have hex : ∀ i, ∃ f : Nat → Value, ∀ e, l[i]? = some e → (∀ j x, (bkRow e)[j]? = some x → w.cell? ⟨b, off + i * 12 + j, none⟩ = some (f j) ∧ RepL w none0 x (f j)) ∧ okBkZ e := fun i => by
      by_cases hi : i < l.length
      · obtain ⟨cs, _, ⟨v1, v2, v3, rfl, h1, h2, h3, h4⟩, h5⟩ := hc i l[i] (List.getElem?_eq_getElem hi)
        refine ⟨fun j => ([.int .i64 l[i].1.1, .int .i64 l[i].1.2.1, .string l[i].1.2.2.1, .string l[i].1.2.2.2.1, .string l[i].1.2.2.2.2.1, .string l[i].1.2.2.2.2.2, v1, v2, .int .i64 l[i].2.2.2.1, .int .i64 l[i].2.2.2.2.1, .string l[i].2.2.2.2.2.1, v3] : List Value).getD j undef, fun e he => ?_⟩
        rw [List.getElem?_eq_getElem hi] at he
        cases he
        refine ⟨fun j x hx => ?_, h4⟩
        have hj : j < 12 := (List.getElem?_eq_some_iff.1 hx).1
        refine ⟨h5 j _ (by match j, hj with | 0, _ => rfl | 1, _ => rfl | 2, _ => rfl | 3, _ => rfl | 4, _ => rfl | 5, _ => rfl | 6, _ => rfl | 7, _ => rfl | 8, _ => rfl | 9, _ => rfl | 10, _ => rfl | 11, _ => rfl), ?_⟩
        match j, hj with
        | 0, _ => cases hx; exact .sc rfl
        | 1, _ => cases hx; exact .sc rfl
        | 2, _ => cases hx; exact .sc rfl
        | 3, _ => cases hx; exact .sc rfl
        | 4, _ => cases hx; exact .sc rfl
        | 5, _ => cases hx; exact .sc rfl
        | 6, _ => cases hx; exact h1.rep (fun _ => rfl) cVal_onB
        | 7, _ => cases hx; exact h2.rep (fun _ => rfl) cVal_onB
        | 8, _ => cases hx; exact .sc rfl
        | 9, _ => cases hx; exact .sc rfl
        | 10, _ => cases hx; exact .sc rfl
        | 11, _ => cases hx; exact h3.rep (fun _ => rfl) cCSig_onB
      · refine ⟨fun _ => undef, fun e he => ?_⟩
        rw [List.getElem?_eq_none (by omega)] at he
        cases he
    obtain ⟨f, hf⟩ := Classical.axiomOfChoice hex
    refine ⟨?_, hll, fun e he => ?_⟩
    · have := RepL.sl (w := w) (γ := none0) (rows := bkRows l) (b := b) (off := off) (s := 12) (cap := c) f rfl hb (by rw [bkRows_len]; exact hlc) hcm (bkRows_wid l) (fun i row j x hi hj => ?_) (fun i row j x hi hj => ?_)
      · rw [bkRows_len] at this
        exact this
      all_goals
        have hlt : i < l.length := by have := (List.getElem?_eq_some_iff.1 hi).1; rwa [bkRows_len] at this
        rw [bkRows_get hlt] at hi
        cases hi
      · exact ((hf i _ (List.getElem?_eq_getElem hlt)).1 j x hj).1
      · exact ((hf i _ (List.getElem?_eq_getElem hlt)).1 j x hj).2
    · obtain ⟨i, hi, rfl⟩ := List.getElem_of_mem he
      exact (hf i _ (List.getElem?_eq_getElem hi)).2
end Go.Proofs.YtfgkfcfplodaoaaGreatDoor

end
