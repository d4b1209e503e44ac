/-
  Put together: DoorFrame OpenVal OpenHeader OpenCSig OpenSkip.
-/
import Derived.Test.YtimnogjgokljbaaGreatDoorG0
import Derived.Test.YtimnogjgokljbaaGreatDoorHEv4
import Derived.LaidMore
import Derived.OpenShut
import Derived.ChangeVars
import Derived.Stop.Joined
import Derived.Lib.SmallJoins
import Derived.Lib.Strings
import Derived.Test.YtimnogjgokljbaaGreatDoorG8
import Derived.Test.YtimnogjgokljbaaGreatDoorG9
import Derived.Test.YtimnogjgokljbaaGreatDoorHFlatCSig
section
/-!
  The frame of a law's proof where the row lists impl.shaWords.
-/
namespace Go.Proofs.YtimnogjgokljbaaGreatDoor
set_option maxRecDepth 100000
set_option linter.unusedVariables false
set_option linter.unusedSimpArgs false
open Go Go.RowKit Go.ChangeShapes Go.WideShapes Go.ChangeAt Go.Deep

theorem gSha : Tryz.prog.globalNamed "loop.example/g00946/impl.shaWords" = some 0 := by kernel_rfl
theorem tSha : (Tryz.prog.globals[0]?).map (·.type) = some 188 := by kernel_rfl
def laidL : List (String × DataW Unit) := [("loop.example/g00946/impl.shaWords", Rows.laid_loop_example_g00946_impl_shaWords)]
theorem door_met (os : Os) (args : Array Value) : laidMetH Tryz.prog laidL ((World.doorLaid Tryz.prog 2000 os).forCall (fun _ _ => 0) ⟨#[], args, []⟩).memory :=
  laidMetH_of_parts3 (fuel := 8) (laidMet_of_run' 8 (by kernel_rfl) (by kernel_rfl)) (by kernel_rfl) (by kernel_rfl)
theorem shaD : (Rows.laid_loop_example_g00946_impl_shaWords : DataW Unit) = .agg (shaW.map fun (n : Nat) => .lit (.int .u32 (n : Int))) := by kernel_rfl
theorem cellsU : Tryz.prog.cellsOf 177 = 1 := by kernel_rfl
theorem glob_of_laid {W : World} (h : laidMetH Tryz.prog laidL W) : GlobOk none0 W := by
  rw [MakeChecks.laidMetH_plain _ _ _ (by kernel_rfl)] at h
  obtain ⟨ps, ⟨g0, t0, cs0, f0, p0, q0, hg0, ht0, hv0, hd0, _⟩, _, _⟩ := h
  obtain rfl := Option.some.inj (gSha.symm.trans hg0)
  obtain rfl := Option.some.inj (tSha.symm.trans ht0)
  obtain ⟨xs, m, rfl, hx, hlen, hn, hel⟩ := DataW.trod_array Tryz.underlying188 hd0
  have hx1 : xs.map (·.1) = shaW.map fun (n : Nat) => DataW.lit (.int .u32 (n : Int)) := by
    have h1 := (Prod.mk.inj hx).1
    rw [shaD] at h1
    injection h1 with h1
    exact h1.symm
  intro g cs hgc
  unfold globs at hgc
  split at hgc
  · rename_i hg
    subst hg
    cases hgc
    have hcell : ∀ (j : Nat) (v : Value), (shaW.map fun (n : Nat) => Value.int .u32 (n : Int))[j]? = some v → v.oneCell' = true ∧ W.cell? ⟨0, j, none⟩ = some v := by
      intro j v hj
      rw [List.getElem?_map] at hj
      obtain ⟨n, hj1, rfl⟩ := Option.map_eq_some_iff.1 hj
      refine ⟨rfl, ?_⟩
      have hj64 : j < 64 := (List.getElem?_eq_some_iff.1 hj1).1
      have hxj : (xs.map (·.1))[j]? = some (DataW.lit (.int .u32 (n : Int))) := by rw [hx1, List.getElem?_map, hj1]; rfl
      rw [List.getElem?_map] at hxj
      obtain ⟨x, hx2, hx3⟩ := Option.map_eq_some_iff.1 hxj
      have he := hel j hj64
      rw [cellsU, Nat.mul_one, hx2] at he
      obtain ⟨k, e1, e2, _⟩ := DataW.trod_int Tryz.underlying177 he
      rw [e2] at hx3
      simp only [DataW.lit.injEq, Lit.int.injEq, true_and] at hx3
      subst hx3
      rw [World.var?_cell hg0 hv0 j]
      have h5 : (cs0.toList.drop j)[0]? = some (.int .u32 (n : Int)) := by
        have h6 : ((cs0.toList.drop j).take 1)[0]? = some (Value.int .u32 (n : Int)) := by rw [e1]; rfl
        rw [List.getElem?_take] at h6
        simpa using h6
      rw [List.getElem?_drop] at h5
      simpa using h5
    have h0 := (hcell 0 _ rfl).2
    refine ⟨rfl, ?_, hcell⟩
    unfold World.cell? at h0
    cases hh : W.heap[0]? with
    | none => rw [hh] at h0; cases h0
    | some o => exact heap_lt hh
  · cases hgc

section
variable {H : Type} {enc : TypeId × Value → H} {P : Program}
/-- A LAW's POST where one variable is listed. -/
theorem law_post1 {fn : Func} {sp : ChangeSpec} {tb : TypeId} {nm : String} (hbt : P.underlying tb = some .bool) (hres : fn.resultTypes = #[tb]) (hvars : sp.vars = [nm]) (hl : laidOutB P = true)
    (hr : ∀ t ∈ fn.params.toList, P.readableRec t = true ∧ t < P.types.size) (hg : ∀ g t, P.globalNamed nm = some g → (P.globals[g]?).map (·.type) = some t → P.readableRec t = true ∧ t < P.types.size) {W W' : World} {args : Array Value} {ds gs : List (DataW H)} {before : List MemPlace}
    (hW : DataW.Whole enc P fn.params.toList sp.vars false W args.toList ds gs before)
    (hfn : (sp.fn H (ds ++ gs)).results = [.lit (.bool true)] ∧ (sp.fn H (ds ++ gs)).args = ds ∧ (sp.fn H (ds ++ gs)).vars = gs) (hb : Below W.heap.size W W') :
    sp.post enc P fn false true false false W args (.bool true) W' := by
  have hW' := hW
  obtain ⟨p, q, hA, hV, rfl, _, _⟩ := hW
  have hlt : ∀ x ∈ p ++ q, x.block < W.heap.size := fun x hx => by simpa using hW'.lt x hx
  have hV1 := hV
  rw [hvars] at hV1
  obtain ⟨g, t, cs, fuel, d, p', rfl, h1, h2, h3, h4, rfl⟩ := trodVars_one hV1
  obtain ⟨r1, r2⟩ := hg g t h1 h2
  obtain ⟨fuel', h4'⟩ := Below.trod (v := .agg cs) hl r1 r2 ⟨fuel, h4⟩ hb (fun x hx => hlt x (List.mem_append_right _ (List.mem_append_right _ hx)))
  have h3' : W'.var? P nm = some cs := by
    have hglt : g < W.heap.size := by
      simp only [World.var?, h1, Option.bind_some] at h3
      cases hh : W.heap[g]? with
      | none => rw [hh] at h3; cases h3
      | some o => exact heap_lt hh
    simp only [World.var?, h1, Option.bind_some] at h3 ⊢
    rw [hb.block g hglt]
    exact h3
  refine ⟨_, _, _, [], p, MemPlace.row ⟨g, 0, none⟩ cs.size ++ p', hW', ?_, ?_, ?_, hb.frame _, fun h => by cases h⟩
  · rw [hfn.1, hres]
    exact trodAll_mk1 (shut_bool hbt true)
  · rw [hfn.2.1]
    exact below_trodAll hl hb _ _ _ _ hr hA (fun x hx => hlt x (List.mem_append_left _ hx))
  · rw [hfn.2.2, hvars]
    exact trodVars_mk1 h1 h2 h3' h4'
end
theorem gShaRead : ∀ g t, Tryz.prog.globalNamed "loop.example/g00946/impl.shaWords" = some g → (Tryz.prog.globals[g]?).map (·.type) = some t → Tryz.prog.readableRec t = true ∧ t < Tryz.prog.types.size := by
  intro g t hg ht
  obtain rfl := Option.some.inj (gSha.symm.trans hg)
  obtain rfl := Option.some.inj (tSha.symm.trans ht)
  exact ⟨by kernel_rfl, of_decide_eq_true (by kernel_rfl)⟩

end Go.Proofs.YtimnogjgokljbaaGreatDoor

end
section
/-!
  Opening arguments that are flat structs, or slices of such.
-/
namespace Go.Proofs.YtimnogjgokljbaaGreatDoor
set_option maxRecDepth 100000
set_option linter.unusedVariables false
set_option linter.unusedSimpArgs false
open Go.RowKit Go.ChangeShapes Go.WideShapes Go.ChangeAt Go.Deep

theorem le_sum_of_Val {n : Nat} {l : List Nat} (h : n ∈ l) : n ≤ l.sum := by
  induction l with
  | nil => cases h
  | cons x r ih =>
    rw [List.sum_cons]
    rcases List.mem_cons.1 h with rfl | h
    · omega
    · have := ih h; omega

section
variable {H : Type} {enc : TypeId × Value → H} {w : World} {base : Nat} {spare : Nat → Bool} {held : Bool}

theorem raw_Val {B : Nat} : ∀ n cs y, cs.length = 2 → DataW.trod enc Tryz.prog w base spare held n 134 cs = some y → (∀ p ∈ y.2, p.block < B) → ∃ x : TVal, cs = cVal x ∧ okVal x := by
  intro n cs y hl h _
  obtain ⟨xs, m, _, _, _, hlen, hg⟩ := DataW.trod_struct Tryz.underlying134 h
  match cs, hl with
  | [c0, c1], _ =>
    match xs, hlen with
    | [y0, y1], _ =>
      have g0 : DataW.trod enc Tryz.prog w base spare held m 3 [c0] = some y0 := hg 0 _ rfl
      obtain ⟨a0, e0, _, w0⟩ := DataW.trod_int Tryz.underlying3 g0
      simp only [List.cons.injEq, and_true] at e0
      subst e0
      have g1 : DataW.trod enc Tryz.prog w base spare held m 3 [c1] = some y1 := hg 1 _ rfl
      obtain ⟨a1, e1, _, w1⟩ := DataW.trod_int Tryz.underlying3 g1
      simp only [List.cons.injEq, and_true] at e1
      subst e1
      exact ⟨(a0, a1), rfl, trivial⟩
theorem elem_Val {B : Nat} : ∀ n cs y, cs.length = 2 → DataW.trod enc Tryz.prog w base spare held n 134 cs = some y → (∀ p ∈ y.2, p.block < B) → ∃ x : TVal, cs = cVal x ∧ okVal x := raw_Val
theorem open_Val {r : Reach} {b0 : Nat} {v : Value} {d : DataW H} {ps : List MemPlace} (hv : Value.okWide Tryz.prog w r b0 134 v) (h : DataW.Trod enc Tryz.prog w base spare held 134 v d ps) :
    ∃ x : TVal, v = .agg #[.int .i64 x.1, .int .i64 x.2] ∧ okVal x := by
  obtain ⟨cs, rfl, hsz⟩ := okWide_struct Tryz.underlying134 hv
  obtain ⟨l⟩ := cs
  obtain ⟨fuel, hf⟩ := h
  have hc : Tryz.prog.cellsOf 134 = 2 := by kernel_rfl
  have hl : l.length = 2 := by
    rw [hc] at hsz
    simpa using hsz
  have hf' : DataW.trod enc Tryz.prog w base spare held fuel 134 l = some (d, ps) := hf
  obtain ⟨x, hx, hok⟩ := raw_Val (B := (ps.map (·.block)).sum + 1) fuel l (d, ps) hl hf' (fun p hp => Nat.lt_succ_of_le (le_sum_of_Val (List.mem_map_of_mem hp)))
  exact ⟨x, by rw [hx]; rfl, hok⟩
end

end Go.Proofs.YtimnogjgokljbaaGreatDoor

end
section
/-!
  Opening arguments that are flat structs, or slices of such.
-/
namespace Go.Proofs.YtimnogjgokljbaaGreatDoor
set_option maxRecDepth 100000
set_option linter.unusedVariables false
set_option linter.unusedSimpArgs false
open Go.RowKit Go.ChangeShapes Go.WideShapes Go.ChangeAt Go.Deep

theorem le_sum_of_Header {n : Nat} {l : List Nat} (h : n ∈ l) : n ≤ l.sum := by
  induction l with
  | nil => cases h
  | cons x r ih =>
    rw [List.sum_cons]
    rcases List.mem_cons.1 h with rfl | h
    · omega
    · have := ih h; omega

section
variable {H : Type} {enc : TypeId × Value → H} {w : World} {base : Nat} {spare : Nat → Bool} {held : Bool}

theorem raw_Header {B : Nat} : ∀ n cs y, cs.length = 6 → DataW.trod enc Tryz.prog w base spare held n 25 cs = some y → (∀ p ∈ y.2, p.block < B) → ∃ x : THeader, cs = cHeader x ∧ okHeader x := by
  intro n cs y hl h _
  obtain ⟨xs, m, _, _, _, hlen, hg⟩ := DataW.trod_struct Tryz.underlying25 h
  match cs, hl with
  | [c0, c1, c2, c3, c4, c5], _ =>
    match xs, hlen with
    | [y0, y1, y2, y3, y4, y5], _ =>
      have g0 : DataW.trod enc Tryz.prog w base spare held m 3 [c0] = some y0 := hg 0 _ rfl
      obtain ⟨a0, e0, _, w0⟩ := DataW.trod_int Tryz.underlying3 g0
      simp only [List.cons.injEq, and_true] at e0
      subst e0
      have g1 : DataW.trod enc Tryz.prog w base spare held m 3 [c1] = some y1 := hg 1 _ rfl
      obtain ⟨a1, e1, _, w1⟩ := DataW.trod_int Tryz.underlying3 g1
      simp only [List.cons.injEq, and_true] at e1
      subst e1
      have g2 : DataW.trod enc Tryz.prog w base spare held m 9 [c2] = some y2 := hg 2 _ rfl
      obtain ⟨a2, e2, _, w2⟩ := DataW.trod_string Tryz.underlying9 g2
      simp only [List.cons.injEq, and_true] at e2
      subst e2
      have g3 : DataW.trod enc Tryz.prog w base spare held m 9 [c3] = some y3 := hg 3 _ rfl
      obtain ⟨a3, e3, _, w3⟩ := DataW.trod_string Tryz.underlying9 g3
      simp only [List.cons.injEq, and_true] at e3
      subst e3
      have g4 : DataW.trod enc Tryz.prog w base spare held m 9 [c4] = some y4 := hg 4 _ rfl
      obtain ⟨a4, e4, _, w4⟩ := DataW.trod_string Tryz.underlying9 g4
      simp only [List.cons.injEq, and_true] at e4
      subst e4
      have g5 : DataW.trod enc Tryz.prog w base spare held m 9 [c5] = some y5 := hg 5 _ rfl
      obtain ⟨a5, e5, _, w5⟩ := DataW.trod_string Tryz.underlying9 g5
      simp only [List.cons.injEq, and_true] at e5
      subst e5
      exact ⟨(a0, a1, a2, a3, a4, a5), rfl, ⟨w2, w3, w4, w5⟩⟩
theorem elem_Header {B : Nat} : ∀ n cs y, cs.length = 6 → DataW.trod enc Tryz.prog w base spare held n 25 cs = some y → (∀ p ∈ y.2, p.block < B) → ∃ x : THeader, cs = cHeader x ∧ okHeader x := raw_Header
theorem open_Header {r : Reach} {b0 : Nat} {v : Value} {d : DataW H} {ps : List MemPlace} (hv : Value.okWide Tryz.prog w r b0 25 v) (h : DataW.Trod enc Tryz.prog w base spare held 25 v d ps) :
    ∃ x : THeader, v = .agg #[.int .i64 x.1, .int .i64 x.2.1, .string x.2.2.1, .string x.2.2.2.1, .string x.2.2.2.2.1, .string x.2.2.2.2.2] ∧ okHeader x := by
  obtain ⟨cs, rfl, hsz⟩ := okWide_struct Tryz.underlying25 hv
  obtain ⟨l⟩ := cs
  obtain ⟨fuel, hf⟩ := h
  have hc : Tryz.prog.cellsOf 25 = 6 := by kernel_rfl
  have hl : l.length = 6 := by
    rw [hc] at hsz
    simpa using hsz
  have hf' : DataW.trod enc Tryz.prog w base spare held fuel 25 l = some (d, ps) := hf
  obtain ⟨x, hx, hok⟩ := raw_Header (B := (ps.map (·.block)).sum + 1) fuel l (d, ps) hl hf' (fun p hp => Nat.lt_succ_of_le (le_sum_of_Header (List.mem_map_of_mem hp)))
  exact ⟨x, by rw [hx]; rfl, hok⟩
end

end Go.Proofs.YtimnogjgokljbaaGreatDoor

end
section
/-!
  Opening arguments that are flat structs, or slices of such.
-/
namespace Go.Proofs.YtimnogjgokljbaaGreatDoor
set_option maxRecDepth 100000
set_option linter.unusedVariables false
set_option linter.unusedSimpArgs false
open Go.RowKit Go.ChangeShapes Go.WideShapes Go.ChangeAt Go.Deep

theorem le_sum_of_CSig {n : Nat} {l : List Nat} (h : n ∈ l) : n ≤ l.sum := by
  induction l with
  | nil => cases h
  | cons x r ih =>
    rw [List.sum_cons]
    rcases List.mem_cons.1 h with rfl | h
    · omega
    · have := ih h; omega

section
variable {H : Type} {enc : TypeId × Value → H} {w : World} {base : Nat} {spare : Nat → Bool} {held : Bool}

theorem raw_CSig {B : Nat} : ∀ n cs y, cs.length = 2 → DataW.trod enc Tryz.prog w base spare held n 155 cs = some y → (∀ p ∈ y.2, p.block < B) → ∃ x : TCSig, cs = cCSig x ∧ okCSig x := by
  intro n cs y hl h _
  obtain ⟨xs, m, _, _, _, hlen, hg⟩ := DataW.trod_struct Tryz.underlying155 h
  match cs, hl with
  | [c0, c1], _ =>
    match xs, hlen with
    | [y0, y1], _ =>
      have g0 : DataW.trod enc Tryz.prog w base spare held m 3 [c0] = some y0 := hg 0 _ rfl
      obtain ⟨a0, e0, _, w0⟩ := DataW.trod_int Tryz.underlying3 g0
      simp only [List.cons.injEq, and_true] at e0
      subst e0
      have g1 : DataW.trod enc Tryz.prog w base spare held m 9 [c1] = some y1 := hg 1 _ rfl
      obtain ⟨a1, e1, _, w1⟩ := DataW.trod_string Tryz.underlying9 g1
      simp only [List.cons.injEq, and_true] at e1
      subst e1
      exact ⟨(a0, a1), rfl, w1⟩
theorem elem_CSig {B : Nat} : ∀ n cs y, cs.length = 2 → DataW.trod enc Tryz.prog w base spare held n 155 cs = some y → (∀ p ∈ y.2, p.block < B) → ∃ x : TCSig, cs = cCSig x ∧ okCSig x := raw_CSig
theorem open_CSig {r : Reach} {b0 : Nat} {v : Value} {d : DataW H} {ps : List MemPlace} (hv : Value.okWide Tryz.prog w r b0 155 v) (h : DataW.Trod enc Tryz.prog w base spare held 155 v d ps) :
    ∃ x : TCSig, v = .agg #[.int .i64 x.1, .string x.2] ∧ okCSig x := by
  obtain ⟨cs, rfl, hsz⟩ := okWide_struct Tryz.underlying155 hv
  obtain ⟨l⟩ := cs
  obtain ⟨fuel, hf⟩ := h
  have hc : Tryz.prog.cellsOf 155 = 2 := by kernel_rfl
  have hl : l.length = 2 := by
    rw [hc] at hsz
    simpa using hsz
  have hf' : DataW.trod enc Tryz.prog w base spare held fuel 155 l = some (d, ps) := hf
  obtain ⟨x, hx, hok⟩ := raw_CSig (B := (ps.map (·.block)).sum + 1) fuel l (d, ps) hl hf' (fun p hp => Nat.lt_succ_of_le (le_sum_of_CSig (List.mem_map_of_mem hp)))
  exact ⟨x, by rw [hx]; rfl, hok⟩
end

end Go.Proofs.YtimnogjgokljbaaGreatDoor

end
section
/-!
  Opening arguments that are a trust, an anchor, a block.
-/
namespace Go.Proofs.YtimnogjgokljbaaGreatDoor
set_option maxRecDepth 100000
set_option linter.unusedVariables false
set_option linter.unusedSimpArgs false
open Go.RowKit Go.ChangeShapes Go.WideShapes Go.ChangeAt Go.Deep

theorem cellsValK : Tryz.prog.cellsOf 134 = 2 := by kernel_rfl
theorem cellsCSigK : Tryz.prog.cellsOf 155 = 2 := by kernel_rfl
section
variable {H : Type} {enc : TypeId × Value → H} {w : World} {base : Nat} {spare : Nat → Bool} {held : Bool}

theorem rd_lenK {α : Type} {s B : Nat} {f : α → List Value} {v : Value} {l : List α} (h : RdS w B s f v l) : l.length ≤ 9223372036854775807 := by
  obtain ⟨A, c, _, h1, h2, _⟩ := h
  unfold maxLen at h2
  omega
theorem open_Trust {r : Reach} {b0 : Nat} {v : Value} {d : DataW H} {ps : List MemPlace} (hv : Value.okWide Tryz.prog w r b0 23 v) (h : DataW.Trod enc Tryz.prog w base spare held 23 v d ps) :
    ∃ (p s : Int), v = .agg #[.int .i64 p, .int .i64 s] := by
  obtain ⟨cs, rfl, hsz⟩ := okWide_struct Tryz.underlying23 hv
  obtain ⟨l⟩ := cs
  obtain ⟨fuel, hf⟩ := h
  have hc : Tryz.prog.cellsOf 23 = 2 := by kernel_rfl
  have hl : l.length = 2 := by
    rw [hc] at hsz
    simpa using hsz
  have hf' : DataW.trod enc Tryz.prog w base spare held fuel 23 l = some (d, ps) := hf
  obtain ⟨xs, m, _, hx, _, hlen, hg⟩ := DataW.trod_struct Tryz.underlying23 hf'
  match l, hl with
  | [c0, c1], _ =>
    match xs, hlen with
    | [y0, y1], _ =>
      have g0 : DataW.trod enc Tryz.prog w base spare held m 3 [c0] = some y0 := hg 0 _ rfl
      obtain ⟨a0, e0, _, w0⟩ := DataW.trod_int Tryz.underlying3 g0
      simp only [List.cons.injEq, and_true] at e0
      subst e0
      have g1 : DataW.trod enc Tryz.prog w base spare held m 3 [c1] = some y1 := hg 1 _ rfl
      obtain ⟨a1, e1, _, w1⟩ := DataW.trod_int Tryz.underlying3 g1
      simp only [List.cons.injEq, and_true] at e1
      subst e1
      exact ⟨a0, a1, rfl⟩
theorem open_Anchor {r : Reach} {b0 : Nat} {v : Value} {d : DataW H} {ps : List MemPlace} {B : Nat} (hv : Value.okWide Tryz.prog w r b0 28 v) (h : DataW.Trod enc Tryz.prog w base spare held 28 v d ps) (hB : ∀ p ∈ ps, p.block < B) :
    ∃ (hd : THeader) (vl : Value) (l : List TVal), v = .agg #[.int .i64 hd.1, .int .i64 hd.2.1, .string hd.2.2.1, .string hd.2.2.2.1, .string hd.2.2.2.2.1, .string hd.2.2.2.2.2, vl] ∧
      RdS w B 2 cVal vl l ∧ okHeader hd ∧ l.length ≤ 9223372036854775807 := by
  obtain ⟨cs, rfl, hsz⟩ := okWide_struct Tryz.underlying28 hv
  obtain ⟨l⟩ := cs
  obtain ⟨fuel, hf⟩ := h
  have hc : Tryz.prog.cellsOf 28 = 7 := by kernel_rfl
  have hl : l.length = 7 := by
    rw [hc] at hsz
    simpa using hsz
  have hf' : DataW.trod enc Tryz.prog w base spare held fuel 28 l = some (d, ps) := hf
  obtain ⟨xs, m, _, hx, _, hlen, hg⟩ := DataW.trod_struct Tryz.underlying28 hf'
  simp only [Prod.mk.injEq] at hx
  obtain ⟨_, rfl⟩ := hx
  match l, hl with
  | [c0, c1, c2, c3, c4, c5, c6], _ =>
    match xs, hlen with
    | [y0, y1], _ =>
      have g0 : DataW.trod enc Tryz.prog w base spare held m 25 [c0, c1, c2, c3, c4, c5] = some y0 := hg 0 _ rfl
      have g1 : DataW.trod enc Tryz.prog w base spare held m 26 [c6] = some y1 := hg 1 _ rfl
      obtain ⟨hd, eh, okh⟩ := raw_Header (B := B) _ _ _ rfl g0 (fun p hp => hB p (by simp [hp]))
      obtain ⟨v1, l1, e1, r1, _⟩ := open_rows (B := B) (d := y1.1) (ps := y1.2) Tryz.underlying26 cellsValK (by omega) g1 (fun p hp => hB p (by simp [hp])) elem_Val
      simp only [List.cons.injEq, and_true] at e1
      subst e1
      simp only [cHeader, List.cons.injEq, and_true] at eh
      obtain ⟨rfl, rfl, rfl, rfl, rfl, rfl⟩ := eh
      exact ⟨hd, _, l1, rfl, r1.flat.1, okh, rd_lenK r1.flat.1⟩
theorem open_Block {r : Reach} {b0 : Nat} {v : Value} {d : DataW H} {ps : List MemPlace} {B : Nat} (hv : Value.okWide Tryz.prog w r b0 33 v) (h : DataW.Trod enc Tryz.prog w base spare held 33 v d ps) (hB : ∀ p ∈ ps, p.block < B) :
    ∃ (hd : THeader) (v1 v2 : Value) (l1 l2 : List TVal) (ch cr : Int) (ci : ByteArray) (v3 : Value) (l3 : List TCSig), v = .agg #[.int .i64 hd.1, .int .i64 hd.2.1, .string hd.2.2.1, .string hd.2.2.2.1, .string hd.2.2.2.2.1, .string hd.2.2.2.2.2, v1, v2, .int .i64 ch, .int .i64 cr, .string ci, v3] ∧
      RdS w B 2 cVal v1 l1 ∧ RdS w B 2 cVal v2 l2 ∧ RdS w B 2 cCSig v3 l3 ∧ (∀ x ∈ l3, okCSig x) ∧ okHeader hd ∧ l1.length ≤ 9223372036854775807 ∧ l2.length ≤ 9223372036854775807 ∧ l3.length ≤ 9223372036854775807 ∧ ci.size ≤ 9223372036854775807 := by
  obtain ⟨cs, rfl, hsz⟩ := okWide_struct Tryz.underlying33 hv
  obtain ⟨l⟩ := cs
  obtain ⟨fuel, hf⟩ := h
  have hc : Tryz.prog.cellsOf 33 = 12 := by kernel_rfl
  have hl : l.length = 12 := by
    rw [hc] at hsz
    simpa using hsz
  have hf' : DataW.trod enc Tryz.prog w base spare held fuel 33 l = some (d, ps) := hf
  obtain ⟨xs, m, _, hx, _, hlen, hg⟩ := DataW.trod_struct Tryz.underlying33 hf'
  simp only [Prod.mk.injEq] at hx
  obtain ⟨_, rfl⟩ := hx
  match l, hl with
  | [c0, c1, c2, c3, c4, c5, c6, c7, c8, c9, c10, c11], _ =>
    match xs, hlen with
    | [y0, y1, y2, y3], _ =>
      have g0 : DataW.trod enc Tryz.prog w base spare held m 25 [c0, c1, c2, c3, c4, c5] = some y0 := hg 0 _ rfl
      have g1 : DataW.trod enc Tryz.prog w base spare held m 26 [c6] = some y1 := hg 1 _ rfl
      have g2 : DataW.trod enc Tryz.prog w base spare held m 26 [c7] = some y2 := hg 2 _ rfl
      have g3 : DataW.trod enc Tryz.prog w base spare held m 31 [c8, c9, c10, c11] = some y3 := hg 3 _ rfl
      obtain ⟨hd, eh, okh⟩ := raw_Header (B := B) _ _ _ rfl g0 (fun p hp => hB p (by simp [hp]))
      obtain ⟨v1, l1, e1, r1, _⟩ := open_rows (B := B) (d := y1.1) (ps := y1.2) Tryz.underlying26 cellsValK (by omega) g1 (fun p hp => hB p (by simp [hp])) elem_Val
      obtain ⟨v2, l2, e2, r2, _⟩ := open_rows (B := B) (d := y2.1) (ps := y2.2) Tryz.underlying26 cellsValK (by omega) g2 (fun p hp => hB p (by simp [hp])) elem_Val
      obtain ⟨zs, m3, _, hx3, _, hlen3, hg3⟩ := DataW.trod_struct Tryz.underlying31 g3
      match zs, hlen3 with
      | [z0, z1, z2, z3], _ =>
        have hp3 : ∀ p ∈ z3.2, p ∈ y3.2 := fun p hp => by rw [hx3]; simp [hp]
        have k0 : DataW.trod enc Tryz.prog w base spare held m3 3 [c8] = some z0 := hg3 0 _ rfl
        obtain ⟨a0, e80, _, w80⟩ := DataW.trod_int Tryz.underlying3 k0
        simp only [List.cons.injEq, and_true] at e80
        subst e80
        have k1 : DataW.trod enc Tryz.prog w base spare held m3 3 [c9] = some z1 := hg3 1 _ rfl
        obtain ⟨a1, e81, _, w81⟩ := DataW.trod_int Tryz.underlying3 k1
        simp only [List.cons.injEq, and_true] at e81
        subst e81
        have k2 : DataW.trod enc Tryz.prog w base spare held m3 9 [c10] = some z2 := hg3 2 _ rfl
        obtain ⟨a2, e82, _, w82⟩ := DataW.trod_string Tryz.underlying9 k2
        simp only [List.cons.injEq, and_true] at e82
        subst e82
        have k3 : DataW.trod enc Tryz.prog w base spare held m3 29 [c11] = some z3 := hg3 3 _ rfl
        obtain ⟨v3, l3, e3, r3, _⟩ := open_rows (B := B) (d := z3.1) (ps := z3.2) Tryz.underlying29 cellsCSigK (by omega) k3 (fun p hp => hB p (by simp [hp3 p hp])) elem_CSig
        simp only [List.cons.injEq, and_true] at e1 e2 e3
        subst e1; subst e2; subst e3
        simp only [cHeader, List.cons.injEq, and_true] at eh
        obtain ⟨rfl, rfl, rfl, rfl, rfl, rfl⟩ := eh
        refine ⟨hd, _, _, l1, l2, a0, a1, a2, _, l3, rfl, r1.flat.1, r2.flat.1, r3.flat.1, r3.flat.2, okh, rd_lenK r1.flat.1, rd_lenK r2.flat.1, rd_lenK r3.flat.1, ?_⟩
        have : a2.size ≤ maxLen := w82
        unfold maxLen at this
        omega
end
end Go.Proofs.YtimnogjgokljbaaGreatDoor

end
