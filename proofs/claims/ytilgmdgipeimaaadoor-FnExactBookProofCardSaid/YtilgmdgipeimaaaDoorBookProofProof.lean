/-
  FnExactBookProof returns true for all arguments: the program's BookProof returns what the reference's returns. No condition beyond the row's own reach.
-/
import Derived.Test.YtilgmdgipeimaaaDoorOpen
import Derived.Test.YtilgmdgipeimaaaDoorBookProofLaw
import Derived.Lib.Strings
import Derived.Test.YtilgmdgipeimaaaDoorDoorFrame
import Derived.Test.YtilgmdgipeimaaaDoorTie
import Derived.Test.YtilgmdgipeimaaaDoorCards
import Derived.SevenTiedAt
import Derived.Test.YtilgmdgipeimaaaDoorOpenItem
namespace Go.Proofs.YtilgmdgipeimaaaDoor.fnExactBookProof
set_option maxRecDepth 100000
set_option linter.unusedVariables false
set_option linter.unusedSimpArgs false
open Go Go.RowKit Go.ChangeShapes Go.WideShapes Go.ChangeAt Go.Deep
open Go.ChangeMaps (open_string)

theorem own : ownKnob Tryd.prog.godebug = none := by kernel_rfl
theorem laidOut : laidOutB Tryd.prog = true := by kernel_rfl
theorem cellsItem : Tryd.prog.cellsOf 80 = 2 := by kernel_rfl
theorem bytesItem : Tryd.prog.bytesOf 80 = 24 := by kernel_rfl
theorem readable : ∀ t ∈ Tryd.f8.params.toList, Tryd.prog.readableRec t = true ∧ t < Tryd.prog.types.size := by
  rw [Tryd.params8]
  intro t ht
  simp only [List.mem_cons, List.not_mem_nil, or_false] at ht
  rcases ht with rfl | rfl
  · exact ⟨by kernel_rfl, of_decide_eq_true (by kernel_rfl)⟩
  · exact ⟨by kernel_rfl, of_decide_eq_true (by kernel_rfl)⟩

theorem lifted (os : Os) (started : os.Started) (H : Type) (enc : TypeId × Value → H) :
    ReturnsInHanded {} Tryd.checked os 8 .any (fun w args => (Rows.fnExactBookProofSpec.pre enc Tryd.prog Tryd.f8 Rows.fnExactBookProofRow.domain false w args ∧ laidMetH Tryd.prog Rows.fnExactBookProofRow.laid w) ∧ sizedMet enc Tryd.prog Tryd.f8 (OpenSpec.ofChange Rows.fnExactBookProofSpec) false w args) (Rows.fnExactBookProofSpec.post enc Tryd.prog Tryd.f8 false true false false) := by
  refine returnsInHanded_of_change_and (C := Tryd.checked) (X := fun w _ => laidMetH Tryd.prog Rows.fnExactBookProofRow.laid w) (fun _ _ _ hh h => h.of_heap hh) own started (by kernel_rfl) Tryd.func8
    (ChangeSpec.witness_shaped (enc := enc) (C := Tryd.checked) (os := os) (X := fun w _ => laidMetH Tryd.prog Rows.fnExactBookProofRow.laid w) false (World.doorLaid Tryd.prog 2000 os) #[.slice none 0 0, .string ByteArray.empty] 8 rfl (World.shaped_of_RefB (by kernel_rfl) (by kernel_rfl)) (by kernel_rfl) (by kernel_rfl) (by kernel_rfl) (door_met os _)) ?_
  intro W base args ds gs before hval0 hW _ hsz0 hL _
  have gl : GlobOk none0 W := glob_of_laid hL
  have hsz : (DataW.weightsEach Tryd.prog (Tryd.f8.params.toList ++ Rows.fnExactBookProofSpec.plain.varTypes Tryd.prog) (ds ++ gs)).all (· ≤ reachBytes) = true := hsz0
  have hval : ∀ (j : Nat) t v, Tryd.f8.params[j]? = some t → args[j]? = some v → Value.okWide Tryd.prog W .any base t v := hval0
  clear hsz0 hval0
  have hW' := hW
  obtain ⟨p, q, hA0, hV, rfl, _, _⟩ := hW
  have gsOne : ∃ g, gs = [g] := by
    obtain ⟨_, _, _, _, d, _, e, _⟩ := trodVars_one (show DataW.TrodVars enc Tryd.prog W (fun _ => true) ["loop.example/g00946/impl.shaWords"] gs q from hV)
    exact ⟨d, e⟩
  clear hV
  have hA : DataW.TrodAll enc Tryd.prog W 0 (fun _ => true) true Tryd.f8.params.toList args.toList ds p := hA0
  clear hA0
  rw [Tryd.params8] at hA hval hsz
  obtain ⟨v0, vs0, d0, ds0, p0, q0, hargs, rfl, rfl, h0, r0⟩ := trodAll_cons hA
  obtain ⟨v1, vs1, d1, ds1, p1, q1, rfl, rfl, rfl, h1, r1⟩ := trodAll_cons r0
  obtain ⟨rfl, rfl, rfl⟩ := trodAll_nil r1
  obtain rfl : args = #[v0, v1] := by cases args; simp_all
  have hfn : (Rows.fnExactBookProofSpec.fn H ([d0, d1] ++ gs)).results = [.lit (.bool true)] ∧ (Rows.fnExactBookProofSpec.fn H ([d0, d1] ++ gs)).args = [d0, d1] ∧ (Rows.fnExactBookProofSpec.fn H ([d0, d1] ++ gs)).vars = gs := by
    obtain ⟨g1, hg1⟩ : ∃ g, gs = [g] := gsOne
    rw [hg1]
    exact ⟨rfl, rfl, rfl⟩
  have hlt : ∀ x ∈ (p0 ++ (p1 ++ [])), x.block < W.heap.size := fun x hx => by simpa using hW'.lt x (List.mem_append_left _ hx)
  obtain ⟨l0, e0, b0⟩ := arg_rows Tryd.underlying32 cellsItem (by omega) (hval 0 32 v0 rfl rfl) h0 (B := W.heap.size) (fun x hx => hlt x (by simp [hx])) elem_Item
  have z0 := arg_reach hsz (j := 0) rfl rfl Tryd.underlying32 b0
  rw [bytesItem] at z0
  obtain ⟨a1, rfl, rfl, rfl, sm1⟩ := open_string Tryd.underlying9 (hval 1 9 v1 rfl rfl) h1
  have z1 : a1.size ≤ 140737488351232 := by have h := sized_string hsz (j := 1) rfl rfl; simp only [reachBytes] at h; rw [Lib.size_eq]; exact h
  refine (law_BookProof v0 l0 a1 W e0.flat.1 e0.flat.2 (by omega) z1 gl).mono fun e W' ⟨he, hb⟩ => ?_
  subst he
  exact ⟨_, rfl, law_post1 Tryd.underlying4 rfl rfl laidOut readable gShaRead hW' hfn hb⟩

theorem holds : Rows.FnExactBookProofSaid :=
  OpenClaim.holds_of_wide 8 Tryd.f8 rfl rfl rfl rfl rfl rfl rfl ⟨rfl, rfl, rfl, rfl, rfl⟩ rfl rfl rfl rfl rfl (by kernel_rfl) Tryd.func8 (by kernel_rfl)
    (of_decide_eq_true (by kernel_rfl)) (by unfold Func.isWrapper; first | (rw [if_pos (by decide +kernel)]; kernel_rfl) | (rw [if_neg (by decide +kernel)]; exact ⟨rfl, rfl⟩))
    (fun os started H enc _ => lifted os started H enc)

theorem card : Rows.FnExactBookProofCardSaid :=
  Claim7.holds_tied_plain_at .later [] [.data] true (true, "941e1db741b46e2bb057b10968c4dbe18d2dbb6860cfd14855932dacfd3eb7ec") false
    holds (fun _ h => by cases h) (by kernel_rfl) (fun _ h => by cases h) Go.Proofs.YtilgmdgipeimaaaDoor.fnExactBookProof_row_tie rfl ⟨rfl, rfl⟩ (by kernel_rfl) rfl
    (fun f fn hf hfn => by
      obtain rfl : f = 8 := Option.some.inj ((show Tryd.prog.funcNamed "loop.example/g00946/laws.FnExactBookProof" = some 8 by kernel_rfl).symm.trans hf) |>.symm
      obtain rfl : fn = Tryd.f8 := (Option.some.inj (Tryd.func8.symm.trans hfn)).symm
      exact ⟨by kernel_rfl, fun j t ht => by
        rw [Tryd.params8] at ht
        have hm : t ∈ [32, 9] := by simpa using Array.mem_of_getElem? ht
        have hall : ([32, 9].all fun u => !Tryd.prog.wantsStandIn u) = true := by kernel_rfl
        exact (show Tryd.prog.wantsStandIn t = false by simpa using List.all_eq_true.1 hall t hm)⟩)
    (by kernel_rfl)

end Go.Proofs.YtilgmdgipeimaaaDoor.fnExactBookProof
