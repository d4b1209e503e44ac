/-
  FnExactSnapPut returns true for all arguments: the program's SnapPut returns what the reference's returns. No condition beyond the row's own reach.
-/
import Derived.Test.YtilgmdgipeimaaaDoorOpen
import Derived.Test.YtilgmdgipeimaaaDoorSnapPutLaw
import Derived.Lib.Strings
import Derived.Test.YtilgmdgipeimaaaDoorDoorFrame
import Derived.Test.YtilgmdgipeimaaaDoorTie
import Derived.Test.YtilgmdgipeimaaaDoorCards
import Derived.SevenTiedAt
import Derived.Test.YtilgmdgipeimaaaDoorOpenSnap
namespace Go.Proofs.YtilgmdgipeimaaaDoor.fnExactSnapPut
set_option maxRecDepth 100000
set_option linter.unusedVariables false
set_option linter.unusedSimpArgs false
open Go Go.RowKit Go.ChangeShapes Go.WideShapes Go.ChangeAt Go.Deep
open Go.ChangeMaps (open_string)

theorem own : ownKnob Tryd.prog.godebug = none := by kernel_rfl
theorem laidOut : laidOutB Tryd.prog = true := by kernel_rfl
theorem cellsString : Tryd.prog.cellsOf 9 = 1 := by kernel_rfl
theorem bytesString : Tryd.prog.bytesOf 9 = 16 := by kernel_rfl
theorem readable : ∀ t ∈ Tryd.f9.params.toList, Tryd.prog.readableRec t = true ∧ t < Tryd.prog.types.size := by
  rw [Tryd.params9]
  intro t ht
  simp only [List.mem_cons, List.not_mem_nil, or_false] at ht
  rcases ht with rfl | rfl | rfl | rfl
  · exact ⟨by kernel_rfl, of_decide_eq_true (by kernel_rfl)⟩
  · exact ⟨by kernel_rfl, of_decide_eq_true (by kernel_rfl)⟩
  · exact ⟨by kernel_rfl, of_decide_eq_true (by kernel_rfl)⟩
  · exact ⟨by kernel_rfl, of_decide_eq_true (by kernel_rfl)⟩

theorem lifted (os : Os) (started : os.Started) (H : Type) (enc : TypeId × Value → H) :
    ReturnsInHanded {} Tryd.checked os 9 .any (fun w args => (Rows.fnExactSnapPutSpec.pre enc Tryd.prog Tryd.f9 Rows.fnExactSnapPutRow.domain false w args ∧ laidMetH Tryd.prog Rows.fnExactSnapPutRow.laid w) ∧ sizedMet enc Tryd.prog Tryd.f9 (OpenSpec.ofChange Rows.fnExactSnapPutSpec) false w args) (Rows.fnExactSnapPutSpec.post enc Tryd.prog Tryd.f9 false true false false) := by
  refine returnsInHanded_of_change_and (C := Tryd.checked) (X := fun w _ => laidMetH Tryd.prog Rows.fnExactSnapPutRow.laid w) (fun _ _ _ hh h => h.of_heap hh) own started (by kernel_rfl) Tryd.func9
    (ChangeSpec.witness_shaped (enc := enc) (C := Tryd.checked) (os := os) (X := fun w _ => laidMetH Tryd.prog Rows.fnExactSnapPutRow.laid w) false (World.doorLaid Tryd.prog 2000 os) #[.agg #[.string ByteArray.empty, .int .i64 0, .slice none 0 0, .slice none 0 0], .int .i64 0, .string ByteArray.empty, .slice none 0 0] 8 rfl (World.shaped_of_RefB (by kernel_rfl) (by kernel_rfl)) (by kernel_rfl) (by kernel_rfl) (by kernel_rfl) (door_met os _)) ?_
  intro W base args ds gs before hval0 hW _ hsz0 hL _
  have gl : GlobOk none0 W := glob_of_laid hL
  have hsz : (DataW.weightsEach Tryd.prog (Tryd.f9.params.toList ++ Rows.fnExactSnapPutSpec.plain.varTypes Tryd.prog) (ds ++ gs)).all (· ≤ reachBytes) = true := hsz0
  have hval : ∀ (j : Nat) t v, Tryd.f9.params[j]? = some t → args[j]? = some v → Value.okWide Tryd.prog W .any base t v := hval0
  clear hsz0 hval0
  have hW' := hW
  obtain ⟨p, q, hA0, hV, rfl, _, _⟩ := hW
  have gsOne : ∃ g, gs = [g] := by
    obtain ⟨_, _, _, _, d, _, e, _⟩ := trodVars_one (show DataW.TrodVars enc Tryd.prog W (fun _ => true) ["loop.example/g00946/impl.shaWords"] gs q from hV)
    exact ⟨d, e⟩
  clear hV
  have hA : DataW.TrodAll enc Tryd.prog W 0 (fun _ => true) true Tryd.f9.params.toList args.toList ds p := hA0
  clear hA0
  rw [Tryd.params9] at hA hval hsz
  obtain ⟨v0, vs0, d0, ds0, p0, q0, hargs, rfl, rfl, h0, r0⟩ := trodAll_cons hA
  obtain ⟨v1, vs1, d1, ds1, p1, q1, rfl, rfl, rfl, h1, r1⟩ := trodAll_cons r0
  obtain ⟨v2, vs2, d2, ds2, p2, q2, rfl, rfl, rfl, h2, r2⟩ := trodAll_cons r1
  obtain ⟨v3, vs3, d3, ds3, p3, q3, rfl, rfl, rfl, h3, r3⟩ := trodAll_cons r2
  obtain ⟨rfl, rfl, rfl⟩ := trodAll_nil r3
  obtain rfl : args = #[v0, v1, v2, v3] := by cases args; simp_all
  have hfn : (Rows.fnExactSnapPutSpec.fn H ([d0, d1, d2, d3] ++ gs)).results = [.lit (.bool true)] ∧ (Rows.fnExactSnapPutSpec.fn H ([d0, d1, d2, d3] ++ gs)).args = [d0, d1, d2, d3] ∧ (Rows.fnExactSnapPutSpec.fn H ([d0, d1, d2, d3] ++ gs)).vars = gs := by
    obtain ⟨g1, hg1⟩ : ∃ g, gs = [g] := gsOne
    rw [hg1]
    exact ⟨rfl, rfl, rfl⟩
  have hlt : ∀ x ∈ (p0 ++ (p1 ++ (p2 ++ (p3 ++ [])))), x.block < W.heap.size := fun x hx => by simpa using hW'.lt x (List.mem_append_left _ hx)
  obtain ⟨r0r, c0, vh0, vg0, lh0, lg0, rfl, y0a, y0b, y0c, y0d, y0e, y0f, y0g⟩ := open_Snap (hval 0 54 v0 rfl rfl) h0 (B := W.heap.size) (fun x hx => hlt x (by simp [hx]))
  obtain ⟨a1, rfl, rfl, rfl, wf1⟩ := open_int Tryd.underlying3 (hval 1 3 v1 rfl rfl) h1
  obtain ⟨a2, rfl, rfl, rfl, sm2⟩ := open_string Tryd.underlying9 (hval 2 9 v2 rfl rfl) h2
  have z2 : a2.size ≤ 140737488351232 := by have h := sized_string hsz (j := 2) rfl rfl; simp only [reachBytes] at h; rw [Lib.size_eq]; exact h
  obtain ⟨l3, e3, b3⟩ := arg_rows Tryd.underlying22 cellsString (by omega) (hval 3 22 v3 rfl rfl) h3 (B := W.heap.size) (fun x hx => hlt x (by simp [hx])) (elem_str Tryd.underlying9)
  have z3 := arg_reach hsz (j := 3) rfl rfl Tryd.underlying22 b3
  rw [bytesString] at z3
  refine (law_SnapPut r0r c0 vh0 vg0 lh0 lg0 a1 a2 v3 l3 W y0a y0b y0c y0d y0e y0f y0g (okInt_of wf1) z2 e3.flat.1 e3.flat.2 (by omega) gl).mono fun e W' ⟨he, hb⟩ => ?_
  subst he
  exact ⟨_, rfl, law_post1 Tryd.underlying4 rfl rfl laidOut readable gShaRead hW' hfn hb⟩

theorem holds : Rows.FnExactSnapPutSaid :=
  OpenClaim.holds_of_wide 9 Tryd.f9 rfl rfl rfl rfl rfl rfl rfl ⟨rfl, rfl, rfl, rfl, rfl⟩ rfl rfl rfl rfl rfl (by kernel_rfl) Tryd.func9 (by kernel_rfl)
    (of_decide_eq_true (by kernel_rfl)) (by unfold Func.isWrapper; first | (rw [if_pos (by decide +kernel)]; kernel_rfl) | (rw [if_neg (by decide +kernel)]; exact ⟨rfl, rfl⟩))
    (fun os started H enc _ => lifted os started H enc)

theorem card : Rows.FnExactSnapPutCardSaid :=
  Claim7.holds_tied_plain_at .later [] [.data] true (true, "941e1db741b46e2bb057b10968c4dbe18d2dbb6860cfd14855932dacfd3eb7ec") false
    holds (fun _ h => by cases h) (by kernel_rfl) (fun _ h => by cases h) Go.Proofs.YtilgmdgipeimaaaDoor.fnExactSnapPut_row_tie rfl ⟨rfl, rfl⟩ (by kernel_rfl) rfl
    (fun f fn hf hfn => by
      obtain rfl : f = 9 := Option.some.inj ((show Tryd.prog.funcNamed "loop.example/g00946/laws.FnExactSnapPut" = some 9 by kernel_rfl).symm.trans hf) |>.symm
      obtain rfl : fn = Tryd.f9 := (Option.some.inj (Tryd.func9.symm.trans hfn)).symm
      exact ⟨by kernel_rfl, fun j t ht => by
        rw [Tryd.params9] at ht
        have hm : t ∈ [54, 3, 9, 22] := by simpa using Array.mem_of_getElem? ht
        have hall : ([54, 3, 9, 22].all fun u => !Tryd.prog.wantsStandIn u) = true := by kernel_rfl
        exact (show Tryd.prog.wantsStandIn t = false by simpa using List.all_eq_true.1 hall t hm)⟩)
    (by kernel_rfl)

end Go.Proofs.YtilgmdgipeimaaaDoor.fnExactSnapPut
