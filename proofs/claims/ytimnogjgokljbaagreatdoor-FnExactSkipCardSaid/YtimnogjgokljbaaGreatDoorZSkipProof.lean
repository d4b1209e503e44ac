/-
  FnExactSkip returns true for all arguments: the program's Skip returns what the reference's returns. No condition beyond the row's own reach.
-/
import Derived.Test.YtimnogjgokljbaaGreatDoorG0
import Derived.Test.YtimnogjgokljbaaGreatDoorHEvSkipL
import Derived.Lib.Strings
import Derived.Test.YtimnogjgokljbaaGreatDoorG39
import Derived.Test.YtimnogjgokljbaaGreatDoorTie
import Derived.Test.YtimnogjgokljbaaGreatDoorCards
import Derived.SevenTiedAt
namespace Go.Proofs.YtimnogjgokljbaaGreatDoor.fnExactSkip
set_option maxRecDepth 100000
set_option linter.unusedVariables false
set_option linter.unusedSimpArgs false
open Go Go.RowKit Go.ChangeShapes Go.WideShapes Go.ChangeAt Go.Deep
open Go.ChangeMaps (open_string)

theorem repLs_cons_ {w : World} {γ : Nat → Option Nat} {l : Leaf} {u : Value} {ls : List Leaf} {us : List Value} (h : RepL w γ l u) (hs : RepLs w γ ls us) : RepLs w γ (l :: ls) (u :: us) :=
  ⟨by rw [List.length_cons, List.length_cons, hs.1], fun j x hj => by
    cases j with
    | zero => cases hj; exact ⟨u, rfl, h⟩
    | succ j => exact hs.2 j x hj⟩
theorem repLs_nil_ {w : World} {γ : Nat → Option Nat} : RepLs w γ [] [] := ⟨rfl, fun j x hj => by cases hj⟩
theorem skip_args {w : World} {tp ts : Int} {hd1 hd2 : THeader} {va1 vb1 vb2 vb3 : Value} {la1 lb1 lb2 : List TVal} {lb3 : List TCSig} {ch cr : Int} {ci : ByteArray} {now : Int} (h1 : RdS w w.heap.size 2 cVal va1 la1) (h2 : RdS w w.heap.size 2 cVal vb1 lb1) (h3 : RdS w w.heap.size 2 cVal vb2 lb2) (h4 : RdS w w.heap.size 2 cCSig vb3 lb3) :
    RepAs w (aSk ((tp, ts), (hd1, la1), (hd2, lb1, lb2, (ch, cr, ci, lb3)), now)) [.agg #[.int .i64 tp, .int .i64 ts], .agg #[.int .i64 hd1.1, .int .i64 hd1.2.1, .string hd1.2.2.1, .string hd1.2.2.2.1, .string hd1.2.2.2.2.1, .string hd1.2.2.2.2.2, va1], .agg #[.int .i64 hd2.1, .int .i64 hd2.2.1, .string hd2.2.2.1, .string hd2.2.2.2.1, .string hd2.2.2.2.2.1, .string hd2.2.2.2.2.2, vb1, vb2, .int .i64 ch, .int .i64 cr, .string ci, vb3], .int .i64 now] := by
  have hs : ∀ {v : Value}, v.oneCell' = true → RepL w none0 (.sc v) v := fun h => .sc h
  have r1 : RepL w none0 (.sl (rowsF cVal la1)) va1 := RdS.rep (s := 2) (fun _ => rfl) cVal_one h1
  have r2 : RepL w none0 (.sl (rowsF cVal lb1)) vb1 := RdS.rep (s := 2) (fun _ => rfl) cVal_one h2
  have r3 : RepL w none0 (.sl (rowsF cVal lb2)) vb2 := RdS.rep (s := 2) (fun _ => rfl) cVal_one h3
  have r4 : RepL w none0 (.sl (rowsF cCSig lb3)) vb3 := RdS.rep (s := 2) (fun _ => rfl) cCSig_one h4
  refine RepAs.cons ⟨[.int .i64 tp, .int .i64 ts], rfl, ?_⟩ (RepAs.cons ⟨[.int .i64 hd1.1, .int .i64 hd1.2.1, .string hd1.2.2.1, .string hd1.2.2.2.1, .string hd1.2.2.2.2.1, .string hd1.2.2.2.2.2, va1], rfl, ?_⟩ (RepAs.cons ⟨[.int .i64 hd2.1, .int .i64 hd2.2.1, .string hd2.2.2.1, .string hd2.2.2.2.1, .string hd2.2.2.2.2.1, .string hd2.2.2.2.2.2, vb1, vb2, .int .i64 ch, .int .i64 cr, .string ci, vb3], rfl, ?_⟩ (RepAs.cons (repA_sc rfl) RepAs.nil)))
  · exact repLs_cons_ (hs rfl) (repLs_cons_ (hs rfl) repLs_nil_)
  · exact repLs_cons_ (hs rfl) (repLs_cons_ (hs rfl) (repLs_cons_ (hs rfl) (repLs_cons_ (hs rfl) (repLs_cons_ (hs rfl) (repLs_cons_ (hs rfl) (repLs_cons_ r1 repLs_nil_))))))
  · exact repLs_cons_ (hs rfl) (repLs_cons_ (hs rfl) (repLs_cons_ (hs rfl) (repLs_cons_ (hs rfl) (repLs_cons_ (hs rfl) (repLs_cons_ (hs rfl) (repLs_cons_ r2 (repLs_cons_ r3 (repLs_cons_ (hs rfl) (repLs_cons_ (hs rfl) (repLs_cons_ (hs rfl) (repLs_cons_ r4 repLs_nil_)))))))))))

theorem own : ownKnob Tryz.prog.godebug = none := by kernel_rfl
theorem laidOut : laidOutB Tryz.prog = true := by kernel_rfl
theorem readable : ∀ t ∈ Tryz.f3.params.toList, Tryz.prog.readableRec t = true ∧ t < Tryz.prog.types.size := by
  rw [Tryz.params3]
  intro t ht
  simp only [List.mem_cons, List.not_mem_nil, or_false] at ht
  rcases ht with rfl | rfl | rfl | rfl
  · exact ⟨by kernel_rfl, of_decide_eq_true (by kernel_rfl)⟩
  · exact ⟨by kernel_rfl, of_decide_eq_true (by kernel_rfl)⟩
  · exact ⟨by kernel_rfl, of_decide_eq_true (by kernel_rfl)⟩
  · exact ⟨by kernel_rfl, of_decide_eq_true (by kernel_rfl)⟩

theorem lifted (os : Os) (started : os.Started) (H : Type) (enc : TypeId × Value → H) :
    ReturnsInHanded {} Tryz.checked os 3 .any (fun w args => (Rows.fnExactSkipSpec.pre enc Tryz.prog Tryz.f3 Rows.fnExactSkipRow.domain false w args ∧ laidMetH Tryz.prog Rows.fnExactSkipRow.laid w) ∧ sizedMet enc Tryz.prog Tryz.f3 (OpenSpec.ofChange Rows.fnExactSkipSpec) false w args) (Rows.fnExactSkipSpec.post enc Tryz.prog Tryz.f3 false true false false) := by
  refine returnsInHanded_of_change_and (C := Tryz.checked) (X := fun w _ => laidMetH Tryz.prog Rows.fnExactSkipRow.laid w) (fun _ _ _ hh h => h.of_heap hh) own started (by kernel_rfl) Tryz.func3
    (ChangeSpec.witness_shaped (enc := enc) (C := Tryz.checked) (os := os) (X := fun w _ => laidMetH Tryz.prog Rows.fnExactSkipRow.laid w) false (World.doorLaid Tryz.prog 2000 os) #[.agg #[.int .i64 0, .int .i64 0], .agg #[.int .i64 0, .int .i64 0, .string ByteArray.empty, .string ByteArray.empty, .string ByteArray.empty, .string ByteArray.empty, .slice none 0 0], .agg #[.int .i64 0, .int .i64 0, .string ByteArray.empty, .string ByteArray.empty, .string ByteArray.empty, .string ByteArray.empty, .slice none 0 0, .slice none 0 0, .int .i64 0, .int .i64 0, .string ByteArray.empty, .slice none 0 0], .int .i64 0] 8 rfl (World.shaped_of_RefB (by kernel_rfl) (by kernel_rfl)) (by kernel_rfl) (by kernel_rfl) (by kernel_rfl) (door_met os _)) ?_
  intro W base args ds gs before hval0 hW _ hsz0 hL _
  have gl : GlobOk none0 W := glob_of_laid hL
  have hsz : (DataW.weightsEach Tryz.prog (Tryz.f3.params.toList ++ Rows.fnExactSkipSpec.plain.varTypes Tryz.prog) (ds ++ gs)).all (· ≤ reachBytes) = true := hsz0
  have hval : ∀ (j : Nat) t v, Tryz.f3.params[j]? = some t → args[j]? = some v → Value.okWide Tryz.prog W .any base t v := hval0
  clear hsz0 hval0
  have hW' := hW
  obtain ⟨p, q, hA0, hV, rfl, _, _⟩ := hW
  have gsOne : ∃ g, gs = [g] := by
    obtain ⟨_, _, _, _, d, _, e, _⟩ := trodVars_one (show DataW.TrodVars enc Tryz.prog W (fun _ => true) ["loop.example/g00946/impl.shaWords"] gs q from hV)
    exact ⟨d, e⟩
  clear hV
  have hA : DataW.TrodAll enc Tryz.prog W 0 (fun _ => true) true Tryz.f3.params.toList args.toList ds p := hA0
  clear hA0
  rw [Tryz.params3] at hA hval hsz
  obtain ⟨v0, vs0, d0, ds0, p0, q0, hargs, rfl, rfl, h0, r0⟩ := trodAll_cons hA
  obtain ⟨v1, vs1, d1, ds1, p1, q1, rfl, rfl, rfl, h1, r1⟩ := trodAll_cons r0
  obtain ⟨v2, vs2, d2, ds2, p2, q2, rfl, rfl, rfl, h2, r2⟩ := trodAll_cons r1
  obtain ⟨v3, vs3, d3, ds3, p3, q3, rfl, rfl, rfl, h3, r3⟩ := trodAll_cons r2
  obtain ⟨rfl, rfl, rfl⟩ := trodAll_nil r3
  obtain rfl : args = #[v0, v1, v2, v3] := by cases args; simp_all
  have hfn : (Rows.fnExactSkipSpec.fn H ([d0, d1, d2, d3] ++ gs)).results = [.lit (.bool true)] ∧ (Rows.fnExactSkipSpec.fn H ([d0, d1, d2, d3] ++ gs)).args = [d0, d1, d2, d3] ∧ (Rows.fnExactSkipSpec.fn H ([d0, d1, d2, d3] ++ gs)).vars = gs := by
    obtain ⟨g1, hg1⟩ : ∃ g, gs = [g] := gsOne
    rw [hg1]
    exact ⟨rfl, rfl, rfl⟩
  have hlt : ∀ x ∈ (p0 ++ (p1 ++ (p2 ++ (p3 ++ [])))), x.block < W.heap.size := fun x hx => by simpa using hW'.lt x (List.mem_append_left _ hx)
  obtain ⟨tp, ts, rfl⟩ := open_Trust (hval 0 23 v0 rfl rfl) h0
  obtain ⟨hd1, va1, la1, rfl, x1, x2, x3⟩ := open_Anchor (hval 1 28 v1 rfl rfl) h1 (B := W.heap.size) (fun x hx => hlt x (by simp [hx]))
  obtain ⟨hd2, vb1, vb2, lb1, lb2, ch, cr, ci, vb3, lb3, rfl, y1, y2, y3, y4, y5, y6, y7, y8, y9⟩ := open_Block (hval 2 33 v2 rfl rfl) h2 (B := W.heap.size) (fun x hx => hlt x (by simp [hx]))
  obtain ⟨a3, rfl, rfl, rfl, wf3⟩ := open_int Tryz.underlying3 (hval 3 3 v3 rfl rfl) h3
  refine (calls_says lawSkip_s (mdl_eq aSk_inj ((tp, ts), (hd1, la1), (hd2, lb1, lb2, (ch, cr, ci, lb3)), a3) ⟨⟨x2, x3⟩, y5, y6, y7, y9, y8, y4⟩) (skip_args x1 y1 y2 y3) gl).mono fun e W' ⟨he, hb⟩ => ?_
  subst he
  exact ⟨_, rfl, law_post1 Tryz.underlying4 rfl rfl laidOut readable gShaRead hW' hfn hb⟩

theorem holds : Rows.FnExactSkipSaid :=
  OpenClaim.holds_of_wide 3 Tryz.f3 rfl rfl rfl rfl rfl rfl rfl ⟨rfl, rfl, rfl, rfl, rfl⟩ rfl rfl rfl rfl rfl (by kernel_rfl) Tryz.func3 (by kernel_rfl)
    (of_decide_eq_true (by kernel_rfl)) (by unfold Func.isWrapper; first | (rw [if_pos (by decide +kernel)]; kernel_rfl) | (rw [if_neg (by decide +kernel)]; exact ⟨rfl, rfl⟩))
    (fun os started H enc _ => lifted os started H enc)

theorem card : Rows.FnExactSkipCardSaid :=
  Claim7.holds_tied_plain_at .later [] [.data] true (true, "c866f2b8233b6208a20c5527f1f7819e1f8b97d8b6ab6f36e47da38a0aa3ba8e") false
    holds (fun _ h => by cases h) (by kernel_rfl) (fun _ h => by cases h) Go.Proofs.YtimnogjgokljbaaGreatDoor.fnExactSkip_row_tie rfl ⟨rfl, rfl⟩ (by kernel_rfl) rfl
    (fun f fn hf hfn => by
      obtain rfl : f = 3 := Option.some.inj ((show Tryz.prog.funcNamed "loop.example/g00946/laws.FnExactSkip" = some 3 by kernel_rfl).symm.trans hf) |>.symm
      obtain rfl : fn = Tryz.f3 := (Option.some.inj (Tryz.func3.symm.trans hfn)).symm
      exact ⟨by kernel_rfl, fun j t ht => by
        rw [Tryz.params3] at ht
        have hm : t ∈ [23, 28, 33, 3] := by simpa using Array.mem_of_getElem? ht
        have hall : ([23, 28, 33, 3].all fun u => !Tryz.prog.wantsStandIn u) = true := by kernel_rfl
        exact (show Tryz.prog.wantsStandIn t = false by simpa using List.all_eq_true.1 hall t hm)⟩)
    (by kernel_rfl)

end Go.Proofs.YtimnogjgokljbaaGreatDoor.fnExactSkip
