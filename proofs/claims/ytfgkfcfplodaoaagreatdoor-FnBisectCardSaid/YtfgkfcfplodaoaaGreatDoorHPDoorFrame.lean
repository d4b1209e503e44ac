/-
  The frame of a law's proof where the row lists impl.shaWords.
-/
import Derived.Test.YtfgkfcfplodaoaaGreatDoorG0
import Derived.Test.YtfgkfcfplodaoaaGreatDoorHPEv4
import Derived.LaidMore
import Derived.OpenShut
import Derived.ChangeVars
import Derived.Stop.Joined
namespace Go.Proofs.YtfgkfcfplodaoaaGreatDoor
set_option maxRecDepth 100000
set_option linter.unusedVariables false
set_option linter.unusedSimpArgs false
open Go Go.RowKit Go.ChangeShapes Go.WideShapes Go.ChangeAt Go.Deep

theorem gSha : Tryz.prog.globalNamed "loop.example/g00946/impl.shaWords" = some 0 := by kernel_rfl
theorem tSha : (Tryz.prog.globals[0]?).map (·.type) = some 252 := by kernel_rfl
def laidL : List (String × DataW Unit) := [("loop.example/g00946/impl.shaWords", Rows.laid_loop_example_g00946_impl_shaWords)]
theorem door_met (os : Os) (args : Array Value) : laidMetH Tryz.prog laidL ((World.doorLaid Tryz.prog 2000 os).forCall (fun _ _ => 0) ⟨#[], args, []⟩).memory :=
  laidMetH_of_parts3 (fuel := 8) (laidMet_of_run' 8 (by kernel_rfl) (by kernel_rfl)) (by kernel_rfl) (by kernel_rfl)
theorem shaD : (Rows.laid_loop_example_g00946_impl_shaWords : DataW Unit) = .agg (shaW.map fun (n : Nat) => .lit (.int .u32 (n : Int))) := by kernel_rfl
theorem cellsU : Tryz.prog.cellsOf 231 = 1 := by kernel_rfl
theorem glob_of_laid {W : World} (h : laidMetH Tryz.prog laidL W) : GlobOk none0 W := by
  rw [MakeChecks.laidMetH_plain _ _ _ (by kernel_rfl)] at h
  obtain ⟨ps, ⟨g0, t0, cs0, f0, p0, q0, hg0, ht0, hv0, hd0, _⟩, _, _⟩ := h
  obtain rfl := Option.some.inj (gSha.symm.trans hg0)
  obtain rfl := Option.some.inj (tSha.symm.trans ht0)
  obtain ⟨xs, m, rfl, hx, hlen, hn, hel⟩ := DataW.trod_array Tryz.underlying252 hd0
  have hx1 : xs.map (·.1) = shaW.map fun (n : Nat) => DataW.lit (.int .u32 (n : Int)) := by
    have h1 := (Prod.mk.inj hx).1
    rw [shaD] at h1
    injection h1 with h1
    exact h1.symm
  intro g cs hgc
  unfold globs at hgc
  split at hgc
  · rename_i hg
    subst hg
    cases hgc
    have hcell : ∀ (j : Nat) (v : Value), (shaW.map fun (n : Nat) => Value.int .u32 (n : Int))[j]? = some v → v.oneCell' = true ∧ W.cell? ⟨0, j, none⟩ = some v := by
      intro j v hj
      rw [List.getElem?_map] at hj
      obtain ⟨n, hj1, rfl⟩ := Option.map_eq_some_iff.1 hj
      refine ⟨rfl, ?_⟩
      have hj64 : j < 64 := (List.getElem?_eq_some_iff.1 hj1).1
      have hxj : (xs.map (·.1))[j]? = some (DataW.lit (.int .u32 (n : Int))) := by rw [hx1, List.getElem?_map, hj1]; rfl
      rw [List.getElem?_map] at hxj
      obtain ⟨x, hx2, hx3⟩ := Option.map_eq_some_iff.1 hxj
      have he := hel j hj64
      rw [cellsU, Nat.mul_one, hx2] at he
      obtain ⟨k, e1, e2, _⟩ := DataW.trod_int Tryz.underlying231 he
      rw [e2] at hx3
      simp only [DataW.lit.injEq, Lit.int.injEq, true_and] at hx3
      subst hx3
      rw [World.var?_cell hg0 hv0 j]
      have h5 : (cs0.toList.drop j)[0]? = some (.int .u32 (n : Int)) := by
        have h6 : ((cs0.toList.drop j).take 1)[0]? = some (Value.int .u32 (n : Int)) := by rw [e1]; rfl
        rw [List.getElem?_take] at h6
        simpa using h6
      rw [List.getElem?_drop] at h5
      simpa using h5
    have h0 := (hcell 0 _ rfl).2
    refine ⟨rfl, ?_, hcell⟩
    unfold World.cell? at h0
    cases hh : W.heap[0]? with
    | none => rw [hh] at h0; cases h0
    | some o => exact heap_lt hh
  · cases hgc

section
variable {H : Type} {enc : TypeId × Value → H} {P : Program}
/-- A LAW's POST where one variable is listed. -/
theorem law_post1 {fn : Func} {sp : ChangeSpec} {tb : TypeId} {nm : String} (hbt : P.underlying tb = some .bool) (hres : fn.resultTypes = #[tb]) (hvars : sp.vars = [nm]) (hl : laidOutB P = true)
    (hr : ∀ t ∈ fn.params.toList, P.readableRec t = true ∧ t < P.types.size) (hg : ∀ g t, P.globalNamed nm = some g → (P.globals[g]?).map (·.type) = some t → P.readableRec t = true ∧ t < P.types.size) {W W' : World} {args : Array Value} {ds gs : List (DataW H)} {before : List MemPlace}
    (hW : DataW.Whole enc P fn.params.toList sp.vars false W args.toList ds gs before)
    (hfn : (sp.fn H (ds ++ gs)).results = [.lit (.bool true)] ∧ (sp.fn H (ds ++ gs)).args = ds ∧ (sp.fn H (ds ++ gs)).vars = gs) (hb : Below W.heap.size W W') :
    sp.post enc P fn false true false false W args (.bool true) W' := by
  have hW' := hW
  obtain ⟨p, q, hA, hV, rfl, _, _⟩ := hW
  have hlt : ∀ x ∈ p ++ q, x.block < W.heap.size := fun x hx => by simpa using hW'.lt x hx
  have hV1 := hV
  rw [hvars] at hV1
  obtain ⟨g, t, cs, fuel, d, p', rfl, h1, h2, h3, h4, rfl⟩ := trodVars_one hV1
  obtain ⟨r1, r2⟩ := hg g t h1 h2
  obtain ⟨fuel', h4'⟩ := Below.trod (v := .agg cs) hl r1 r2 ⟨fuel, h4⟩ hb (fun x hx => hlt x (List.mem_append_right _ (List.mem_append_right _ hx)))
  have h3' : W'.var? P nm = some cs := by
    have hglt : g < W.heap.size := by
      simp only [World.var?, h1, Option.bind_some] at h3
      cases hh : W.heap[g]? with
      | none => rw [hh] at h3; cases h3
      | some o => exact heap_lt hh
    simp only [World.var?, h1, Option.bind_some] at h3 ⊢
    rw [hb.block g hglt]
    exact h3
  refine ⟨_, _, _, [], p, MemPlace.row ⟨g, 0, none⟩ cs.size ++ p', hW', ?_, ?_, ?_, hb.frame _, fun h => by cases h⟩
  · rw [hfn.1, hres]
    exact trodAll_mk1 (shut_bool hbt true)
  · rw [hfn.2.1]
    exact below_trodAll hl hb _ _ _ _ hr hA (fun x hx => hlt x (List.mem_append_left _ hx))
  · rw [hfn.2.2, hvars]
    exact trodVars_mk1 h1 h2 h3' h4'
end
theorem gShaRead : ∀ g t, Tryz.prog.globalNamed "loop.example/g00946/impl.shaWords" = some g → (Tryz.prog.globals[g]?).map (·.type) = some t → Tryz.prog.readableRec t = true ∧ t < Tryz.prog.types.size := by
  intro g t hg ht
  obtain rfl := Option.some.inj (gSha.symm.trans hg)
  obtain rfl := Option.some.inj (tSha.symm.trans ht)
  exact ⟨by kernel_rfl, of_decide_eq_true (by kernel_rfl)⟩

end Go.Proofs.YtfgkfcfplodaoaaGreatDoor
