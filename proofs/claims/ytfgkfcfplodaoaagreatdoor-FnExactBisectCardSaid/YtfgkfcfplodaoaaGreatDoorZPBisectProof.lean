/-
  FnExactBisect returns true for all arguments: the program's Bisect returns what the reference's returns. No condition beyond the row's own reach.
-/
import Derived.Test.YtfgkfcfplodaoaaGreatDoorG0
import Derived.Test.YtfgkfcfplodaoaaGreatDoorHPEvBisL
import Derived.Lib.Strings
import Derived.Test.YtfgkfcfplodaoaaGreatDoorG40
import Derived.Test.YtfgkfcfplodaoaaGreatDoorTie
import Derived.Test.YtfgkfcfplodaoaaGreatDoorCards
import Derived.SevenTiedAt
namespace Go.Proofs.YtfgkfcfplodaoaaGreatDoor.fnExactBisect
set_option maxRecDepth 100000
set_option linter.unusedVariables false
set_option linter.unusedSimpArgs false
open Go Go.RowKit Go.ChangeShapes Go.WideShapes Go.ChangeAt Go.Deep
open Go.ChangeMaps (open_string)

theorem repLs_cons_ {w : World} {γ : Nat → Option Nat} {l : Leaf} {u : Value} {ls : List Leaf} {us : List Value} (h : RepL w γ l u) (hs : RepLs w γ ls us) : RepLs w γ (l :: ls) (u :: us) :=
  ⟨by rw [List.length_cons, List.length_cons, hs.1], fun j x hj => by
    cases j with
    | zero => cases hj; exact ⟨u, rfl, h⟩
    | succ j => exact hs.2 j x hj⟩
theorem repLs_nil_ {w : World} {γ : Nat → Option Nat} : RepLs w γ [] [] := ⟨rfl, fun j x hj => by cases hj⟩
theorem bisect_args {w : World} {tp ts : Int} {hd1 : THeader} {va1 vl : Value} {la1 : List TVal} {l : List TBlock} {to now : Int} (h1 : RdS w w.heap.size 2 cVal va1 la1) (h2 : RepL w none0 (.sl (bkRows l)) vl) :
    RepAs w (aBi ((tp, ts), (hd1, la1), l, to, now)) [.agg #[.int .i64 tp, .int .i64 ts], .agg #[.int .i64 hd1.1, .int .i64 hd1.2.1, .string hd1.2.2.1, .string hd1.2.2.2.1, .string hd1.2.2.2.2.1, .string hd1.2.2.2.2.2, va1], vl, .int .i64 to, .int .i64 now] := by
  have hs : ∀ {v : Value}, v.oneCell' = true → RepL w none0 (.sc v) v := fun h => .sc h
  have r1 : RepL w none0 (.sl (rowsF cVal la1)) va1 := RdS.rep (s := 2) (fun _ => rfl) cVal_onB h1
  refine RepAs.cons ⟨[.int .i64 tp, .int .i64 ts], rfl, ?_⟩ (RepAs.cons ⟨[.int .i64 hd1.1, .int .i64 hd1.2.1, .string hd1.2.2.1, .string hd1.2.2.2.1, .string hd1.2.2.2.2.1, .string hd1.2.2.2.2.2, va1], rfl, ?_⟩ (RepAs.cons (repA_list h2) (RepAs.cons (repA_sc rfl) (RepAs.cons (repA_sc rfl) RepAs.nil))))
  · exact repLs_cons_ (hs rfl) (repLs_cons_ (hs rfl) repLs_nil_)
  · exact repLs_cons_ (hs rfl) (repLs_cons_ (hs rfl) (repLs_cons_ (hs rfl) (repLs_cons_ (hs rfl) (repLs_cons_ (hs rfl) (repLs_cons_ (hs rfl) (repLs_cons_ r1 repLs_nil_))))))

theorem own : ownKnob Tryz.prog.godebug = none := by kernel_rfl
theorem laidOut : laidOutB Tryz.prog = true := by kernel_rfl
theorem readable : ∀ t ∈ Tryz.f7.params.toList, Tryz.prog.readableRec t = true ∧ t < Tryz.prog.types.size := by
  rw [Tryz.params7]
  intro t ht
  simp only [List.mem_cons, List.not_mem_nil, or_false] at ht
  rcases ht with rfl | rfl | rfl | rfl | rfl
  · exact ⟨by kernel_rfl, of_decide_eq_true (by kernel_rfl)⟩
  · exact ⟨by kernel_rfl, of_decide_eq_true (by kernel_rfl)⟩
  · exact ⟨by kernel_rfl, of_decide_eq_true (by kernel_rfl)⟩
  · exact ⟨by kernel_rfl, of_decide_eq_true (by kernel_rfl)⟩
  · exact ⟨by kernel_rfl, of_decide_eq_true (by kernel_rfl)⟩

theorem lifted (os : Os) (started : os.Started) (H : Type) (enc : TypeId × Value → H) :
    ReturnsInHanded {} Tryz.checked os 7 .any (fun w args => (Rows.fnExactBisectSpec.pre enc Tryz.prog Tryz.f7 Rows.fnExactBisectRow.domain false w args ∧ laidMetH Tryz.prog Rows.fnExactBisectRow.laid w) ∧ sizedMet enc Tryz.prog Tryz.f7 (OpenSpec.ofChange Rows.fnExactBisectSpec) false w args) (Rows.fnExactBisectSpec.post enc Tryz.prog Tryz.f7 false true false false) := by
  refine returnsInHanded_of_change_and (C := Tryz.checked) (X := fun w _ => laidMetH Tryz.prog Rows.fnExactBisectRow.laid w) (fun _ _ _ hh h => h.of_heap hh) own started (by kernel_rfl) Tryz.func7
    (ChangeSpec.witness_shaped (enc := enc) (C := Tryz.checked) (os := os) (X := fun w _ => laidMetH Tryz.prog Rows.fnExactBisectRow.laid w) false (World.doorLaid Tryz.prog 2000 os) #[.agg #[.int .i64 0, .int .i64 0], .agg #[.int .i64 0, .int .i64 0, .string ByteArray.empty, .string ByteArray.empty, .string ByteArray.empty, .string ByteArray.empty, .slice none 0 0], .slice none 0 0, .int .i64 0, .int .i64 0] 8 rfl (World.shaped_of_RefB (by kernel_rfl) (by kernel_rfl)) (by kernel_rfl) (by kernel_rfl) (by kernel_rfl) (door_met os _)) ?_
  intro W base args ds gs before hval0 hW _ hsz0 hL _
  have gl : GlobOk none0 W := glob_of_laid hL
  have hsz : (DataW.weightsEach Tryz.prog (Tryz.f7.params.toList ++ Rows.fnExactBisectSpec.plain.varTypes Tryz.prog) (ds ++ gs)).all (· ≤ reachBytes) = true := hsz0
  have hval : ∀ (j : Nat) t v, Tryz.f7.params[j]? = some t → args[j]? = some v → Value.okWide Tryz.prog W .any base t v := hval0
  clear hsz0 hval0
  have hW' := hW
  obtain ⟨p, q, hA0, hV, rfl, _, _⟩ := hW
  have gsOne : ∃ g, gs = [g] := by
    obtain ⟨_, _, _, _, d, _, e, _⟩ := trodVars_one (show DataW.TrodVars enc Tryz.prog W (fun _ => true) ["loop.example/g00946/impl.shaWords"] gs q from hV)
    exact ⟨d, e⟩
  clear hV
  have hA : DataW.TrodAll enc Tryz.prog W 0 (fun _ => true) true Tryz.f7.params.toList args.toList ds p := hA0
  clear hA0
  rw [Tryz.params7] at hA hval hsz
  obtain ⟨v0, vs0, d0, ds0, p0, q0, hargs, rfl, rfl, h0, r0⟩ := trodAll_cons hA
  obtain ⟨v1, vs1, d1, ds1, p1, q1, rfl, rfl, rfl, h1, r1⟩ := trodAll_cons r0
  obtain ⟨v2, vs2, d2, ds2, p2, q2, rfl, rfl, rfl, h2, r2⟩ := trodAll_cons r1
  obtain ⟨v3, vs3, d3, ds3, p3, q3, rfl, rfl, rfl, h3, r3⟩ := trodAll_cons r2
  obtain ⟨v4, vs4, d4, ds4, p4, q4, rfl, rfl, rfl, h4, r4⟩ := trodAll_cons r3
  obtain ⟨rfl, rfl, rfl⟩ := trodAll_nil r4
  obtain rfl : args = #[v0, v1, v2, v3, v4] := by cases args; simp_all
  have hfn : (Rows.fnExactBisectSpec.fn H ([d0, d1, d2, d3, d4] ++ gs)).results = [.lit (.bool true)] ∧ (Rows.fnExactBisectSpec.fn H ([d0, d1, d2, d3, d4] ++ gs)).args = [d0, d1, d2, d3, d4] ∧ (Rows.fnExactBisectSpec.fn H ([d0, d1, d2, d3, d4] ++ gs)).vars = gs := by
    obtain ⟨g1, hg1⟩ : ∃ g, gs = [g] := gsOne
    rw [hg1]
    exact ⟨rfl, rfl, rfl⟩
  have hlt : ∀ x ∈ (p0 ++ (p1 ++ (p2 ++ (p3 ++ (p4 ++ []))))), x.block < W.heap.size := fun x hx => by simpa using hW'.lt x (List.mem_append_left _ hx)
  obtain ⟨tp, ts, rfl⟩ := open_Trust (hval 0 56 v0 rfl rfl) h0
  obtain ⟨hd1, va1, la1, rfl, x1, x2, x3⟩ := open_Anchor (hval 1 60 v1 rfl rfl) h1 (B := W.heap.size) (fun x hx => hlt x (by simp [hx]))
  have x4 : okInt hd1.1 := anchor_lo (hval 1 60 _ rfl rfl) h1 rfl
  obtain ⟨l2, e2, _⟩ := arg_rows Tryz.underlying61 cellsBlock (by omega) (hval 2 61 v2 rfl rfl) h2 (B := W.heap.size) (fun x hx => hlt x (by simp [hx])) elem_Block
  obtain ⟨y1, y2⟩ := bk_rep e2
  obtain ⟨a3, rfl, rfl, rfl, wf3⟩ := open_int Tryz.underlying3 (hval 3 3 v3 rfl rfl) h3
  obtain ⟨a4, rfl, rfl, rfl, wf4⟩ := open_int Tryz.underlying3 (hval 4 3 v4 rfl rfl) h4
  have o3 := (okInt_rng (okInt_of wf3)).2
  have x5 := (okInt_rng x4).1
  refine (calls_says lawBisect_s (mdl_eq aBi_inj ((tp, ts), (hd1, la1), l2, a3, a4) ⟨⟨x2, x3⟩, y2, o3, x5⟩) (bisect_args x1 y1) gl).mono fun e W' ⟨he, hb⟩ => ?_
  subst he
  exact ⟨_, rfl, law_post1 Tryz.underlying4 rfl rfl laidOut readable gShaRead hW' hfn hb⟩

theorem holds : Rows.FnExactBisectSaid :=
  OpenClaim.holds_of_wide 7 Tryz.f7 rfl rfl rfl rfl rfl rfl rfl ⟨rfl, rfl, rfl, rfl, rfl⟩ rfl rfl rfl rfl rfl (by kernel_rfl) Tryz.func7 (by kernel_rfl)
    (of_decide_eq_true (by kernel_rfl)) (by unfold Func.isWrapper; first | (rw [if_pos (by decide +kernel)]; kernel_rfl) | (rw [if_neg (by decide +kernel)]; exact ⟨rfl, rfl⟩))
    (fun os started H enc _ => lifted os started H enc)

theorem card : Rows.FnExactBisectCardSaid :=
  Claim7.holds_tied_plain_at .later [] [.data] true (true, "bbc0640c368d2ec74801a9f55690982ed04ad0ea8807cc6c32afa3782415c0f1") false
    holds (fun _ h => by cases h) (by kernel_rfl) (fun _ h => by cases h) Go.Proofs.YtfgkfcfplodaoaaGreatDoor.fnExactBisect_row_tie rfl ⟨rfl, rfl⟩ (by kernel_rfl) rfl
    (fun f fn hf hfn => by
      obtain rfl : f = 7 := Option.some.inj ((show Tryz.prog.funcNamed "loop.example/g00946/laws.FnExactBisect" = some 7 by kernel_rfl).symm.trans hf) |>.symm
      obtain rfl : fn = Tryz.f7 := (Option.some.inj (Tryz.func7.symm.trans hfn)).symm
      exact ⟨by kernel_rfl, fun j t ht => by
        rw [Tryz.params7] at ht
        have hm : t ∈ [56, 60, 61, 3, 3] := by simpa using Array.mem_of_getElem? ht
        have hall : ([56, 60, 61, 3, 3].all fun u => !Tryz.prog.wantsStandIn u) = true := by kernel_rfl
        exact (show Tryz.prog.wantsStandIn t = false by simpa using List.all_eq_true.1 hall t hm)⟩)
    (by kernel_rfl)

end Go.Proofs.YtfgkfcfplodaoaaGreatDoor.fnExactBisect
