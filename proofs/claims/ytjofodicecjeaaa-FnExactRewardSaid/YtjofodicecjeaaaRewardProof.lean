/-
  FnExactReward returns true for all arguments: the program's Reward returns what the reference's returns. No condition beyond the row's own reach.
-/
import Derived.Test.YtjofodicecjeaaaOpen
import Derived.Test.YtjofodicecjeaaaRewardLaw
import Derived.Lib.Strings
import Derived.Test.YtjofodicecjeaaaOpenAcct
import Derived.Test.YtjofodicecjeaaaOpenVal
namespace Go.Proofs.Ytjofodicecjeaaa.fnExactReward
set_option maxRecDepth 100000
set_option linter.unusedVariables false
set_option linter.unusedSimpArgs false
open Go.RowKit Go.ChangeShapes Go.WideShapes Go.ChangeAt Go.Deep
open Go.ChangeMaps (open_string)

theorem own : ownKnob Try.prog.godebug = none := by kernel_rfl
theorem laidOut : laidOutB Try.prog = true := by kernel_rfl
theorem cellsAcct : Try.prog.cellsOf 162 = 2 := by kernel_rfl
theorem bytesAcct : Try.prog.bytesOf 162 = 16 := by kernel_rfl
theorem cellsVal : Try.prog.cellsOf 112 = 2 := by kernel_rfl
theorem bytesVal : Try.prog.bytesOf 112 = 16 := by kernel_rfl
theorem readable : ∀ t ∈ Try.f14.params.toList, Try.prog.readableRec t = true ∧ t < Try.prog.types.size := by
  rw [Try.params14]
  intro t ht
  simp only [List.mem_cons, List.not_mem_nil, or_false] at ht
  rcases ht with rfl | rfl | rfl
  · exact ⟨by kernel_rfl, of_decide_eq_true (by kernel_rfl)⟩
  · exact ⟨by kernel_rfl, of_decide_eq_true (by kernel_rfl)⟩
  · exact ⟨by kernel_rfl, of_decide_eq_true (by kernel_rfl)⟩

theorem lifted (os : Os) (started : os.Started) (H : Type) (enc : TypeId × Value → H) :
    ReturnsInHanded {} Try.checked os 14 .any (Rows.fnExactRewardSpec.pre6 enc Try.prog Try.f14 Rows.fnExactRewardRow.domain false) (Rows.fnExactRewardSpec.post enc Try.prog Try.f14 false true false false) := by
  refine returnsInHanded_of_change_sized (C := Try.checked) own started (by kernel_rfl) Try.func14
    (ChangeSpec.witness6 (enc := enc) (C := Try.checked) false ⟨#[], #[.slice none 0 0, .slice none 0 0, .int .i64 0], []⟩ 8 (by kernel_rfl) (by kernel_rfl) (by kernel_rfl) (by kernel_rfl)) ?_
  intro W base args ds gs before hval0 hW _ hsz0 _
  have hsz : (DataW.weightsEach Try.prog (Try.f14.params.toList ++ Rows.fnExactRewardSpec.plain.varTypes Try.prog) (ds ++ gs)).all (· ≤ reachBytes) = true := hsz0
  have hval : ∀ (j : Nat) t v, Try.f14.params[j]? = some t → args[j]? = some v → Value.okWide Try.prog W .any base t v := hval0
  clear hsz0 hval0
  have hW' := hW
  obtain ⟨p, q, hA0, hV, rfl, _, _⟩ := hW
  obtain ⟨rfl, rfl⟩ := trodVars_none hV
  have hA : DataW.TrodAll enc Try.prog W 0 (fun _ => true) true Try.f14.params.toList args.toList ds p := hA0
  clear hA0
  rw [Try.params14] at hA hval hsz
  obtain ⟨v0, vs0, d0, ds0, p0, q0, hargs, rfl, rfl, h0, r0⟩ := trodAll_cons hA
  obtain ⟨v1, vs1, d1, ds1, p1, q1, rfl, rfl, rfl, h1, r1⟩ := trodAll_cons r0
  obtain ⟨v2, vs2, d2, ds2, p2, q2, rfl, rfl, rfl, h2, r2⟩ := trodAll_cons r1
  obtain ⟨rfl, rfl, rfl⟩ := trodAll_nil r2
  obtain rfl : args = #[v0, v1, v2] := by cases args; simp_all
  have hlt : ∀ x ∈ (p0 ++ (p1 ++ (p2 ++ []))) ++ [], x.block < W.heap.size := fun x hx => by simpa using hW'.lt x hx
  obtain ⟨l0, e0, b0⟩ := arg_rows Try.underlying87 cellsAcct (by omega) (hval 0 87 v0 rfl rfl) h0 (B := W.heap.size) (fun x hx => hlt x (by simp [hx])) elem_Acct
  have z0 := arg_reach hsz (j := 0) rfl rfl Try.underlying87 b0
  rw [bytesAcct] at z0
  obtain ⟨l1, e1, b1⟩ := arg_rows Try.underlying36 cellsVal (by omega) (hval 1 36 v1 rfl rfl) h1 (B := W.heap.size) (fun x hx => hlt x (by simp [hx])) elem_Val
  have z1 := arg_reach hsz (j := 1) rfl rfl Try.underlying36 b1
  rw [bytesVal] at z1
  obtain ⟨a2, rfl, rfl, rfl, wf2⟩ := open_int Try.underlying3 (hval 2 3 v2 rfl rfl) h2
  refine (law_Reward v0 l0 v1 l1 a2 W e0.flat.1 e0.flat.2 (by omega) e1.flat.1 e1.flat.2 (by omega) (okInt_of wf2)).mono fun e W' ⟨he, hb⟩ => ?_
  subst he
  exact ⟨_, rfl, law_post Try.underlying4 rfl rfl laidOut readable hW' ⟨rfl, rfl, rfl⟩ hb⟩

theorem holds : Rows.FnExactRewardSaid :=
  OpenClaim.holds_of_wide 14 Try.f14 rfl rfl rfl rfl rfl rfl rfl ⟨rfl, rfl, rfl, rfl, rfl⟩ rfl rfl rfl rfl rfl (by kernel_rfl) Try.func14 (by kernel_rfl)
    (of_decide_eq_true (by kernel_rfl)) (by unfold Func.isWrapper; first | (rw [if_pos (by decide +kernel)]; kernel_rfl) | (rw [if_neg (by decide +kernel)]; exact ⟨rfl, rfl⟩))
    (fun os started H enc _ => lifted os started H enc)

end Go.Proofs.Ytjofodicecjeaaa.fnExactReward
