/-
  Reward of impl.
-/
import Derived.Test.YtlchfjjoendimaaEvRewS
import Derived.Test.YtlchfjjoendimaaEvPAdd
namespace Go.Proofs.Ytlchfjjoendimaa
set_option maxRecDepth 100000
set_option linter.unusedVariables false
set_option linter.unusedSimpArgs false
open Go Go.RowKit Go.Shelf Go.Sort
set_option maxHeartbeats 4000000
set_option linter.unusedVariables false

section
variable {γ0 : Nat → Option Nat} {w0 : World} {N : Nat} {st : St} {Q : Exit → Act → World → Prop}
/-- a whole row of one's own is sorted, where the comparing function speaks of elements with a property alone -/
theorem WL.opSortP {ops : Array Oper} {r : List Oper} {d F g n : Nat} {x0 x1 : Operand} {ts : Array TypeId} {ty : TypeId} {pos : String} {after : Array Edge} {α : Type} {p : α → Prop} {enc : α → List Value} {s : Nat} {cf : α → α → Int} {fl : Bool} {e : Nat}
    (hf : Has Try.prog F) (hs : SortsBy Try.prog F g (fun x : {x // p x} => enc x.1) s (fun x y => cf x.1 y.1)) (hk : ∀ x, (enc x).length = s) (l : List α) (hp1 : ∀ x ∈ l, p x) (hl62 : l.length < 4611686018427387904) (hN : d < N := by decide)
    (hp : ev st x0 = one (.all n) := by simp (config := { maxSteps := 1000000 }) (disch := first | assumption | omega) only [TY, ar_u64, binE, eqCells, eqVal, eqOp, step_mk, makeE, List.toList_toArray, Value.oneCell', step_fnv, step_makeFunc, ev_func, callV, cells_agg, cells_int, cells_bool, cells_str, cells_sl, List.size_toArray, flatB_nil, flatB_cons, wid_nil, wid_cons, rowsF_len, rowsF_flat, rowsF_app, step_build, buildE, fillE, indexSlE, indexArrE, shiftE, indexArrV, indexStE, step_move, step_assign, step_pick, step_load, step_nilCheck, step_binOp, step_unOp, step_convert, step_slice, step_fieldAddr, step_field, step_indexAddr, step_index, step_extract, step_len, step_min, step_max, step_alloc, step_box, step_lit, step_app, step_fn, step_store, putV_some, getS_hit, getS_miss, getS_blk, getS_kill, getS_nil, getB_nil, getB_slot, getB_hit, getB_miss, getB_kill0, getB_kill1, ev_tmp, ev_int, ev_bool, ev_str, ev_nil, ev_agg, cl_int, cl_bool, cl_str, cl_nil, loadE, loadV, fieldAddrE, fieldE, partV, indexAddrE, lenE, lenO, strIdx, indexE, boundE, subE, sliceE, convE, minE, scal, nilE, tupE, capsE, optE, pickE, pbin, pint, pstr, pun, ar_in, ar_u32, ar_u8, allocE, boxE, litE, rowsO, leafO, leafsO, frz, clr, rowsOf, destOf, appE, storeE, argO, argsO, boxesO, callG, callE, impE, pvR, pvs, pvRL, pvT, owns, ownsT, ownsR, clrL, withB, PV.kill, PL.kill, PL.names, Blk.kill, PL.live, toPL, resV, resO, compsO, compO, rlsO, rlO, toRes, Leaf.isSc, List.map_cons, List.map_nil, List.all_cons, List.all_nil, List.length_cons, List.length_nil, List.drop_zero, List.drop_succ_cons, List.take_succ_cons, List.take_zero, List.drop_nil, List.take_nil, List.getElem?_cons_zero, List.getElem?_cons_succ, List.getElem?_nil, Option.map_some, Option.map_none, Option.bind_some, Option.isSome_some, Option.isSome_none, List.cons_append, List.nil_append, List.append_nil, if_true, if_false, reduceIte, Nat.reduceLT, Nat.reduceBEq, Nat.reduceLeDiff, Nat.reduceEqDiff, Nat.reduceAdd, Nat.reduceMul, Nat.zero_add, Nat.add_zero, Nat.mul_one, Int.reduceToNat, Bool.and_true, Bool.true_and, Bool.false_and, Bool.and_false, Bool.not_true, Bool.not_false, Bool.false_eq_true, decide_true, decide_false, and_self, and_true, true_and, or_true, true_or, or_false, false_or, if_pos, if_neg, Int.toNat_natCast, decide_eq_true, decide_eq_false, look_hit, look_miss, Int.ofNat_eq_natCast, Bool.or_false, Bool.or_true, Bool.true_or, Bool.false_or, Bool.not_eq_true, beq_self_eq_true, ne_eq, not_false_eq_true, not_true_eq_false, eq_self, *] <;> rfl) (hg : ev st x1 = one (.fn g []) := by rfl) (hb : getB st n = some (.arr fl e s (rowsF enc l)) := by simp (config := { maxSteps := 1000000 }) (disch := first | assumption | omega) only [TY, ar_u64, binE, eqCells, eqVal, eqOp, step_mk, makeE, List.toList_toArray, Value.oneCell', step_fnv, step_makeFunc, ev_func, callV, cells_agg, cells_int, cells_bool, cells_str, cells_sl, List.size_toArray, flatB_nil, flatB_cons, wid_nil, wid_cons, rowsF_len, rowsF_flat, rowsF_app, step_build, buildE, fillE, indexSlE, indexArrE, shiftE, indexArrV, indexStE, step_move, step_assign, step_pick, step_load, step_nilCheck, step_binOp, step_unOp, step_convert, step_slice, step_fieldAddr, step_field, step_indexAddr, step_index, step_extract, step_len, step_min, step_max, step_alloc, step_box, step_lit, step_app, step_fn, step_store, putV_some, getS_hit, getS_miss, getS_blk, getS_kill, getS_nil, getB_nil, getB_slot, getB_hit, getB_miss, getB_kill0, getB_kill1, ev_tmp, ev_int, ev_bool, ev_str, ev_nil, ev_agg, cl_int, cl_bool, cl_str, cl_nil, loadE, loadV, fieldAddrE, fieldE, partV, indexAddrE, lenE, lenO, strIdx, indexE, boundE, subE, sliceE, convE, minE, scal, nilE, tupE, capsE, optE, pickE, pbin, pint, pstr, pun, ar_in, ar_u32, ar_u8, allocE, boxE, litE, rowsO, leafO, leafsO, frz, clr, rowsOf, destOf, appE, storeE, argO, argsO, boxesO, callG, callE, impE, pvR, pvs, pvRL, pvT, owns, ownsT, ownsR, clrL, withB, PV.kill, PL.kill, PL.names, Blk.kill, PL.live, toPL, resV, resO, compsO, compO, rlsO, rlO, toRes, Leaf.isSc, List.map_cons, List.map_nil, List.all_cons, List.all_nil, List.length_cons, List.length_nil, List.drop_zero, List.drop_succ_cons, List.take_succ_cons, List.take_zero, List.drop_nil, List.take_nil, List.getElem?_cons_zero, List.getElem?_cons_succ, List.getElem?_nil, Option.map_some, Option.map_none, Option.bind_some, Option.isSome_some, Option.isSome_none, List.cons_append, List.nil_append, List.append_nil, if_true, if_false, reduceIte, Nat.reduceLT, Nat.reduceBEq, Nat.reduceLeDiff, Nat.reduceEqDiff, Nat.reduceAdd, Nat.reduceMul, Nat.zero_add, Nat.add_zero, Nat.mul_one, Int.reduceToNat, Bool.and_true, Bool.true_and, Bool.false_and, Bool.and_false, Bool.not_true, Bool.not_false, Bool.false_eq_true, decide_true, decide_false, and_self, and_true, true_and, or_true, true_or, or_false, false_or, if_pos, if_neg, Int.toNat_natCast, decide_eq_true, decide_eq_false, look_hit, look_miss, Int.ofNat_eq_natCast, Bool.or_false, Bool.or_true, Bool.true_or, Bool.false_or, Bool.not_eq_true, beq_self_eq_true, ne_eq, not_false_eq_true, not_true_eq_false, eq_self, *] <;> rfl)
    (h : ∀ l' : List α, l'.Perm l → l'.Pairwise (fun x y => ¬ cf y x < 0) → WL Try.prog γ0 w0 N ops r (.slot d (.tup []) :: .blk n (.arr fl e s (rowsF enc l')) :: st) Q) :
    WL Try.prog γ0 w0 N ops (⟨some d, .call ⟨.value (.func F), #[x0, x1], ts⟩, ty, pos, after, none⟩ :: r) st Q := by
  have hr : ∀ q : List {x // p x}, rowsF (fun x : {x // p x} => enc x.1) q = rowsF enc (q.map Subtype.val) := fun q => by unfold rowsF; rw [List.map_map]; rfl
  have hv : (l.attachWith p hp1).map Subtype.val = l := List.attachWith_map_subtype_val _
  refine WL.opSort (l := l.attachWith p hp1) hf hs (fun x => hk x.1) (by simpa using hl62) hN (.inl ⟨hp, rfl⟩) hg (by rw [hr, hv]; exact hb) fun l' h1 h2 => ?_
  rw [List.take_length] at h1
  rw [List.drop_length, List.append_nil, hr]
  exact h _ (by have := h1.map Subtype.val; rwa [hv] at this) (List.pairwise_map.2 h2)
end
def IdIn (a : TAcct) : Prop := 1 ≤ a.1 ∧ a.1 ≤ 99
theorem compareA_says : CmpSays Try.prog 109 (fun x : {x // IdIn x} => cAcct x.1) (fun x y => x.1.1 - y.1.1) := by
  rintro ⟨⟨a1, a2⟩, ⟨ha, hb⟩⟩ ⟨⟨b1, b2⟩, ⟨hc, hd⟩⟩ w
  show Calls _ _ #[.agg #[.int .i64 a1, .int .i64 a2], .agg #[.int .i64 b1, .int .i64 b2]] w _
  dsimp only at ha hb hc hd ⊢
  go_enter Try.func109, Try.ntmps109
  go_wp2
  go_ret
  exact ⟨rfl, _, by rw [alloc_eq_grow, alloc_eq_grow, grow_grow]⟩
theorem cmpA_swo : SWO (ltOf fun x y : {x : TAcct // IdIn x} => x.1.1 - y.1.1) where
  irrefl x := by simp only [ltOf, decide_eq_false_iff_not]; omega
  trans x y z h1 h2 := by simp only [ltOf, decide_eq_true_eq] at *; omega
  ntrans x y z h1 h2 := by simp only [ltOf, decide_eq_false_iff_not] at *; omega
theorem sortA_s : SortsBy Try.prog 108 109 (fun x : {x // IdIn x} => cAcct x.1) 2 (fun x y => x.1.1 - y.1.1) :=
  haveI : Inhabited {x : TAcct // IdIn x} := ⟨⟨(1, 0), by decide, by decide⟩⟩
  sorts_of Try.sortAcct Try.isAgg122 Try.sizeOf122 (fun _ => rfl) (fun x v hv => by simp only [cAcct, List.mem_cons, List.not_mem_nil, or_false] at hv; rcases hv with rfl | rfl <;> rfl) _ cmpA_swo (enters_of Try.func109 (by kernel_rfl) rfl) compareA_says
abbrev aAcct (t : TAcct) : Arg := .val true [.sc (.int .i64 t.1), .sc (.int .i64 t.2)]
noncomputable def mKeyA := mdl (fun _ : TAcct × TVal => True) (fun x => [aAcct x.1, .row (bVal x.2) 0]) (fun x => rB (decide (x.1.1 = x.2.1)))
theorem mKeyA_eq (x : TAcct) (t : TVal) : mKeyA [aAcct x, .row (bVal t) 0] = some (rB (decide (x.1 = t.1))) := mdl_eq (by
  rintro ⟨⟨a, b⟩, ⟨a2, b2⟩⟩ ⟨⟨d, e⟩, ⟨d2, e2⟩⟩ h
  simp at h
  simp [h]) (x, t) trivial
theorem keyA_s : Sound Try.prog 107 mKeyA := by
  refine Sound.mdl Try.func107 rfl Try.ntmps107 ?_
  rintro ⟨⟨a, b⟩, ⟨d, e⟩⟩ w -
  refine ⟨by simp, ?_⟩
  have hΓ : GSound Try.prog (look []) := env_nil
  simp only [initS, argPV, List.map_cons, List.map_nil, toPL, Nat.zero_add]
  repeat (first | with_reducible apply W.seq | with_reducible apply W.block | with_reducible apply W.skip | with_reducible apply W.exit | with_reducible apply W.ret | with_reducible apply At.seqN | with_reducible apply At.blkN | with_reducible apply At.blkE | with_reducible apply At.blkR | with_reducible apply At.thenX | with_reducible apply At.thenR | with_reducible apply At.blkX rfl | ((with_reducible apply W.ops); (repeat (first | refine WL.opA hΓ (h := ?_) | refine WL.opX hΓ (h := ?_) | refine WL.opY (h := ?_) | refine WL.opZ (h := ?_))); with_reducible apply WL.nil) | refine W.condT (h := ?_) | refine W.condF (h := ?_))
  refine At.retA (by rw [Try.results107]) (he := rfl)
noncomputable def mIdxA (f : FuncId) (boxes : List (List Leaf)) (p : TAcct → Bool) := mdl (fun l : List TAcct => l.length ≤ 8796093022207) (fun l => [aL cAcct l, .clo f boxes]) (fun l => rI (idxP p l))
theorem mIdxA_eq (f : FuncId) (boxes : List (List Leaf)) (p : TAcct → Bool) (l : List TAcct) (h : l.length ≤ 8796093022207) : mIdxA f boxes p [aL cAcct l, .clo f boxes] = some (rI (idxP p l)) := mdl_eq (by intro a b h; simpa using h) l h
theorem idxA_s {f : FuncId} {boxes : List (List Leaf)} {p : TAcct → Bool} {mf : List Arg → Option Res} (hf : Has Try.prog f) (hs : Sound Try.prog f mf) (hm : ∀ x, mf ([aAcct x] ++ boxes.map fun c => .row c 0) = some (rB (p x))) : Sound Try.prog 106 (mIdxA f boxes p) := by
  refine Sound.mdl Try.func106 rfl Try.ntmps106 ?_
  rintro l w hl
  refine ⟨by simp, ?_⟩
  replace hl : l.length ≤ 8796093022207 := hl
  have hΓ : GSound Try.prog (look [(f, mf)]) := env_cons hf hs env_nil
  clear hs hf
  simp only [initS, argPV, List.map_cons, List.map_nil, toPL, Nat.zero_add]
  repeat (first | with_reducible apply W.seq | with_reducible apply W.block | with_reducible apply W.skip | with_reducible apply W.exit | with_reducible apply W.ret | with_reducible apply At.seqN | with_reducible apply At.blkN | with_reducible apply At.blkE | with_reducible apply At.blkR | with_reducible apply At.thenX | with_reducible apply At.thenR | with_reducible apply At.blkX rfl | ((with_reducible apply W.ops); (repeat (first | refine WL.opA hΓ (h := ?_) | refine WL.opX hΓ (h := ?_) | refine WL.opY (h := ?_) | refine WL.opZ (h := ?_))); with_reducible apply WL.nil) | refine W.condT (h := ?_) | refine W.condF (h := ?_))
  refine W.loopA (fun k => k ≤ l.length ∧ ∀ j, (h : j < k) → ∀ hj : j < l.length, p l[j] = false) (fun k : Nat => [.slot 8 (vI k), .slot 7 (vI l.length), .slot 0 (vL cAcct l), .slot 1 (one (.clo f boxes))]) (fun k => l.length - k) 0 ⟨Nat.zero_le _, fun j hj => by omega⟩ (h := ?_)
  rintro k ⟨hk, hn⟩
  by_cases hlt : k < l.length
  · have hrow := acct_row hlt
    have hm := hm l[k]
    simp only [List.cons_append, List.nil_append] at hm
    cases hp : p l[k] with
    | true =>
      have hv := idxP_at (p := p) hlt (fun j hj => hn j hj _) hp
      rw [hp] at hm
      clear hn hp
      generalize l[k] = x at hrow hm
      obtain ⟨a, b⟩ := x
      dsimp only [aAcct, bAcct] at hm hrow
      repeat (first | with_reducible apply W.seq | with_reducible apply W.block | with_reducible apply W.skip | with_reducible apply W.exit | with_reducible apply W.ret | with_reducible apply At.seqN | with_reducible apply At.blkN | with_reducible apply At.blkE | with_reducible apply At.blkR | with_reducible apply At.thenX | with_reducible apply At.thenR | with_reducible apply At.blkX rfl | ((with_reducible apply W.ops); (repeat (first | refine WL.opA hΓ (h := ?_) | refine WL.opX hΓ (h := ?_) | refine WL.opY (h := ?_) | refine WL.opZ (h := ?_))); with_reducible apply WL.nil) | refine W.condT (h := ?_) | refine W.condF (h := ?_))
      refine At.retA (by rw [Try.results106]) (he := ?_)
      rw [hv]
    | false =>
      have hnx : ∀ j, (h : j < k + 1) → ∀ hj : j < l.length, p l[j] = false := fun j h hj => by
        rcases Nat.lt_or_ge j k with h1 | h1
        · exact hn j h1 hj
        · have : j = k := by omega
          subst this
          exact hp
      rw [hp] at hm
      clear hn hp
      generalize l[k] = x at hrow hm
      obtain ⟨a, b⟩ := x
      dsimp only [aAcct, bAcct] at hm hrow
      repeat (first | with_reducible apply W.seq | with_reducible apply W.block | with_reducible apply W.skip | with_reducible apply W.exit | with_reducible apply W.ret | with_reducible apply At.seqN | with_reducible apply At.blkN | with_reducible apply At.blkE | with_reducible apply At.blkR | with_reducible apply At.thenX | with_reducible apply At.thenR | with_reducible apply At.blkX rfl | ((with_reducible apply W.ops); (repeat (first | refine WL.opA hΓ (h := ?_) | refine WL.opX hΓ (h := ?_) | refine WL.opY (h := ?_) | refine WL.opZ (h := ?_))); with_reducible apply WL.nil) | refine W.condT (h := ?_) | refine W.condF (h := ?_))
      exact At.roundA (k + 1) ⟨by omega, hnx⟩ (by omega)
  · have hv := idxP_no (p := p) (l := l) (fun j hj => hn j (by omega) hj)
    clear hn
    repeat (first | with_reducible apply W.seq | with_reducible apply W.block | with_reducible apply W.skip | with_reducible apply W.exit | with_reducible apply W.ret | with_reducible apply At.seqN | with_reducible apply At.blkN | with_reducible apply At.blkE | with_reducible apply At.blkR | with_reducible apply At.thenX | with_reducible apply At.thenR | with_reducible apply At.blkX rfl | ((with_reducible apply W.ops); (repeat (first | refine WL.opA hΓ (h := ?_) | refine WL.opX hΓ (h := ?_) | refine WL.opY (h := ?_) | refine WL.opZ (h := ?_))); with_reducible apply WL.nil) | refine W.condT (h := ?_) | refine W.condF (h := ?_))
    refine At.retA (by rw [Try.results106]) (he := ?_)
    rw [hv]
theorem sh_app {vals : List TVal} {coins : Int} {k : Nat} (h : k < vals.length) : rowsF cInt ((vals.take k).map (shA vals coins)) ++ [[.sc (.int .i64 ((coins * vals[k].2).tdiv (powerOf vals)))]] = rowsF cInt ((vals.take (k + 1)).map (shA vals coins)) := by
  rw [cIntA_app, List.take_succ_eq_append_getElem h, List.map_append]
  rfl
theorem sh_row {vals : List TVal} {coins : Int} {k : Nat} (h : k < vals.length) : (rowsF cInt (vals.map (shA vals coins)))[k]? = some [.sc (.int .i64 (shA vals coins vals[k]))] := by
  have := rowsF_get cInt (vals.map (shA vals coins)) k (by simpa using h)
  rw [this]
  simp [cInt]
theorem rewI_s : Sound Try.prog 40 mRwi := by
  refine Sound.mdl Try.func40 rfl Try.ntmps40 ?_
  rintro ⟨l, vals, coins⟩ w ⟨hl, hvl⟩
  refine ⟨by simp, ?_⟩
  replace hl : l.length ≤ 8796093022207 := hl
  replace hvl : vals.length ≤ 8796093022207 := hvl
  have hSrt : Has Try.prog 108 := has_of Try.func108 rfl rfl
  have g1 := env_cons (has_of Try.func104 rfl rfl) acctsI_s (env_cons (has_of Try.func69 rfl rfl) valsI_s (env_cons (has_of Try.func100 rfl rfl) within_s (env_cons (has_of Try.func73 rfl rfl) powerI_s (env_cons (has_of Try.func105 rfl rfl) copyA_s env_nil))))
  have hΓ : GSound Try.prog (look [(104, mAccts), (69, mVals), (100, mWithin), (73, mPower), (105, mCopyA)]) := g1
  have c1 := mAccts_eq l hl
  have c2 := mVals_eq vals hvl
  have c3 := mWithin_eq
  have c4 := mPower_eq vals hvl
  have c7 := mCopyA_eq l hl
  by_cases ha : acctsOk l
  · rw [decide_eq_true ha] at c1
    have hl7 : l.length ≤ 7 := ha.1
    by_cases hc : 0 ≤ coins ∧ coins ≤ 10000
    · by_cases hv : valsOk vals
      · rw [decide_eq_true hv] at c2
        have hv7 : vals.length ≤ 7 := hv.1.2
        have hP := powerOf_pos hv
        have hP2 := powerOf_in vals
        have hB : rewB l vals coins = decide (acctsOk (rwS vals coins l vals.length)) := by simp [rewB, ha, hv, hc]
        have hL : rewL l vals coins = if acctsOk (rwS vals coins l vals.length) then rwS vals coins l vals.length else l := by simp [rewL, hB, ha]
        have hz := lftA_zero vals coins
        have hrest : restA vals coins = lftA vals coins vals.length := rfl
        have hz2 : ([] : List (List Leaf)) = rowsF cInt ((vals.take 0).map (shA vals coins)) := rfl
        simp only [initS, argPV, List.map_cons, List.map_nil, toPL, Nat.zero_add]
        repeat (first | with_reducible apply W.seq | with_reducible apply W.block | with_reducible apply W.skip | with_reducible apply W.exit | with_reducible apply W.ret | with_reducible apply At.seqN | with_reducible apply At.blkN | with_reducible apply At.blkE | with_reducible apply At.blkR | with_reducible apply At.thenX | with_reducible apply At.thenR | with_reducible apply At.blkX rfl | ((with_reducible apply W.ops); (repeat (first | refine WL.opA hΓ (h := ?_) | refine WL.opX hΓ (h := ?_) | refine WL.opY (h := ?_) | refine WL.opZ (h := ?_))); with_reducible apply WL.nil) | refine W.condT (h := ?_) | refine W.condF (h := ?_))
        refine W.loopA (fun k => k ≤ vals.length) (fun k : Nat => [.slot 0 (vL cAcct l), .slot 1 (vL cVal vals), .slot 2 (vI coins), .slot 8 (one (.all 32)), .blk 32 (.arr true 122 2 (rowsF cAcct l)), .slot 9 (one (.all 33)), .blk 33 (.arr true 3 1 (rowsF cInt ((vals.take k).map (shA vals coins)))), .slot 10 (vI (lftA vals coins k)), .slot 35 (vL cVal vals), .slot 36 (vI vals.length), .slot 37 (vI k)]) (fun k => vals.length - k) 0 (Nat.zero_le _) (h := ?_)
        rintro k hk
        have s1 := lftA_in hv hc hk
        clear hz2
        by_cases hlt : k < vals.length
        · have hrow := val_row hlt
          have s2 := lftA_in hv hc (k := k + 1) hlt
          have hs := lftA_succ (coins := coins) hlt
          have m1 := mulA_in hv hc hlt
          have m2 := shA_in hv hc hlt
          have e1 := sh_app (coins := coins) hlt
          have hln : ((vals.take k).map (shA vals coins)).length ≤ 7 := by simp; omega
          unfold shA at m2
          dsimp only [bVal] at hrow
          clear c1 c2 c3 c7 hB hL hz hrest
          repeat (first | with_reducible apply W.seq | with_reducible apply W.block | with_reducible apply W.skip | with_reducible apply W.exit | with_reducible apply W.ret | with_reducible apply At.seqN | with_reducible apply At.blkN | with_reducible apply At.blkE | with_reducible apply At.blkR | with_reducible apply At.thenX | with_reducible apply At.thenR | with_reducible apply At.blkX rfl | ((with_reducible apply W.ops); (repeat (first | refine WL.opA hΓ (h := ?_) | refine WL.opX hΓ (h := ?_) | refine WL.opY (h := ?_) | refine WL.opZ (h := ?_))); with_reducible apply WL.nil) | refine W.condT (h := ?_) | refine W.condF (h := ?_))
          refine W.drawsA hΓ 8 [[], [], [1], [0, 1, 2], [], [4], [0, 1, 2, 3, 4, 5], [0, 1, 2, 3, 4, 5, 6]] (rest := ?rest17) (Es := ?Es17) (st1 := ?st117) (h := ?h17) (hf := ?hf17) (hp := ?hp17) (hd := ?hd17) (hfr := ?hfr17) (hst := ?hst17) (hT := ?hT17)
          case h17 => kernel_rfl
          case hf17 =>
            repeat (first | refine FlowT.opA (h := ?_) | refine FlowT.opX (h := ?_) | refine FlowT.opY (h := ?_) | refine FlowT.opZ (h := ?_))
            exact FlowT.done
          case hp17 => rfl
          case hd17 => rfl
          case hfr17 => rfl
          case hst17 =>
            simp only [pick_nil, pick_all, List.cons_append, List.nil_append]
            rfl
          (repeat (first | refine WL.opA hΓ (h := ?_) | refine WL.opX hΓ (h := ?_) | refine WL.opY (h := ?_) | refine WL.opZ (h := ?_)))
          with_reducible apply WL.nil
          repeat (first | with_reducible apply W.seq | with_reducible apply W.block | with_reducible apply W.skip | with_reducible apply W.exit | with_reducible apply W.ret | with_reducible apply At.seqN | with_reducible apply At.blkN | with_reducible apply At.blkE | with_reducible apply At.blkR | with_reducible apply At.thenX | with_reducible apply At.thenR | with_reducible apply At.blkX rfl | ((with_reducible apply W.ops); (repeat (first | refine WL.opA hΓ (h := ?_) | refine WL.opX hΓ (h := ?_) | refine WL.opY (h := ?_) | refine WL.opZ (h := ?_))); with_reducible apply WL.nil) | refine W.condT (h := ?_) | refine W.condF (h := ?_))
          exact At.roundA (k + 1) (by omega) (by omega)
        · have hkl : k = vals.length := by omega
          subst hkl
          rw [← hrest] at s1 ⊢
          rw [List.take_length]
          clear hz hrest c4
          repeat (first | with_reducible apply W.seq | with_reducible apply W.block | with_reducible apply W.skip | with_reducible apply W.exit | with_reducible apply W.ret | with_reducible apply At.seqN | with_reducible apply At.blkN | with_reducible apply At.blkE | with_reducible apply At.blkR | with_reducible apply At.thenX | with_reducible apply At.thenR | with_reducible apply At.blkX rfl | ((with_reducible apply W.ops); (repeat (first | refine WL.opA hΓ (h := ?_) | refine WL.opX hΓ (h := ?_) | refine WL.opY (h := ?_) | refine WL.opZ (h := ?_))); with_reducible apply WL.nil) | refine W.condT (h := ?_) | refine W.condF (h := ?_))
          refine W.loopA (fun k => k ≤ vals.length) (fun k : Nat => [.slot 0 (vL cAcct l), .slot 8 (one (.all 32)), .blk 32 (.arr true 122 2 (rowsF cAcct (rwI vals coins l k))), .slot 9 (one (.all 33)), .blk 33 (.arr true 3 1 (rowsF cInt (vals.map (shA vals coins)))), .slot 10 (vI (restA vals coins)), .slot 56 (vL cVal vals), .slot 57 (vI vals.length), .slot 58 (vI k)]) (fun k => vals.length - k) 0 (Nat.zero_le _) (h := ?_)
          rintro k hk
          by_cases hlt : k < vals.length
          · have hrow := val_row hlt
            have hsh := sh_row (coins := coins) hlt
            have hsl : (vals.map (shA vals coins)).length = vals.length := by simp
            have m2 := shA_in hv hc hlt
            obtain ⟨q1, q2⟩ := rwI_in ha hv hc (Nat.le_of_lt hlt)
            have q3 := vals_at hv hlt
            have hOl : (rwI vals coins l k).length ≤ 14 := by have := q1.1; omega
            have hOb : ∀ x ∈ rwI vals coins l k, 0 ≤ x.2 ∧ x.2 ≤ 141000000 := fun x hx => by have := q1.2 x hx; omega
            have hsucc := rwI_succ (coins := coins) (l := l) hlt
            have hn := nA_pos (coins := coins) hlt
            have hn2 := nA_neg (coins := coins) hlt
            have c6 := mIdxA_eq 107 [bVal vals[k]] (fun x => decide (x.1 = vals[k].1)) (rwI vals coins l k) (by omega)
            replace hΓ : GSound Try.prog (look [(106, mIdxA 107 [bVal vals[k]] (fun x => decide (x.1 = vals[k].1)))]) := env_cons (has_of Try.func106 rfl rfl) (idxA_s (has_of Try.func107 rfl rfl) keyA_s (fun x => mKeyA_eq x vals[k])) env_nil
            clear c1 c2 c3 c7 g1 hB hL q1
            generalize nA vals coins k vals[k] = n at hsucc hn hn2
            generalize shA vals coins vals[k] = s at hsh m2 hn hn2
            generalize hO2 : rwI vals coins l (k + 1) = O2 at hsucc
            generalize rwI vals coins l k = O at *
            generalize vals[k] = v at *
            obtain ⟨vi, vp⟩ := v
            dsimp only [bVal] at hrow c6 hΓ hsucc q3
            by_cases hh : hasA vi O
            · obtain ⟨x, hx, he⟩ := hh
              obtain ⟨j, hj, rfl⟩ := List.getElem_of_mem hx
              have hidx : idxP (fun x => decide (x.1 = vi)) O = j := idxP_at hj (fun i hi => decide_eq_false fun e => (by have := dis_at q2 (Nat.lt_trans hi hj) hj (e.trans he.symm); omega)) (decide_eq_true he)
              rw [hidx] at c6
              have hor := acct_row hj
              have hset : (rowsF cAcct O).set j (bAcct (O[j].1, O[j].2 + n)) = rowsF cAcct O2 := by rw [hsucc, ← set_upd q2 hj he]; exact rowsF_set cAcct O j (O[j].1, O[j].2 + n)
              have hb := hOb _ hx
              clear hx hsucc hidx q2 hOb
              generalize O[j] = y at hor hset hb he
              obtain ⟨yi, yn⟩ := y
              dsimp only [bAcct] at hor hset hb he
              subst he
              by_cases hr : (k : Int) < restA vals coins
              · rw [hn hr] at hset
                clear hn hn2
                repeat (first | with_reducible apply W.seq | with_reducible apply W.block | with_reducible apply W.skip | with_reducible apply W.exit | with_reducible apply W.ret | with_reducible apply At.seqN | with_reducible apply At.blkN | with_reducible apply At.blkE | with_reducible apply At.blkR | with_reducible apply At.thenX | with_reducible apply At.thenR | with_reducible apply At.blkX rfl | ((with_reducible apply W.ops); (repeat (first | refine WL.opA hΓ (h := ?_) | refine WL.opX hΓ (h := ?_) | refine WL.opY (h := ?_) | refine WL.opZ (h := ?_))); with_reducible apply WL.nil) | refine W.condT (h := ?_) | refine W.condF (h := ?_))
                exact At.roundA (k + 1) (by omega) (by omega)
              · rw [hn2 hr] at hset
                clear hn hn2
                repeat (first | with_reducible apply W.seq | with_reducible apply W.block | with_reducible apply W.skip | with_reducible apply W.exit | with_reducible apply W.ret | with_reducible apply At.seqN | with_reducible apply At.blkN | with_reducible apply At.blkE | with_reducible apply At.blkR | with_reducible apply At.thenX | with_reducible apply At.thenR | with_reducible apply At.blkX rfl | ((with_reducible apply W.ops); (repeat (first | refine WL.opA hΓ (h := ?_) | refine WL.opX hΓ (h := ?_) | refine WL.opY (h := ?_) | refine WL.opZ (h := ?_))); with_reducible apply WL.nil) | refine W.condT (h := ?_) | refine W.condF (h := ?_))
                exact At.roundA (k + 1) (by omega) (by omega)
            · have hidx : idxP (fun x => decide (x.1 = vi)) O = -1 := idxP_no (fun i hi => decide_eq_false fun e => hh ⟨_, List.getElem_mem hi, e⟩)
              rw [hidx] at c6
              have e2 := cAcct_app O (vi, 0)
              have hor := acct_row (l := O ++ [(vi, 0)]) (k := O.length) (by simp)
              rw [show (O ++ [(vi, (0 : Int))])[O.length]'(by simp) = (vi, 0) by simp] at hor
              have hset : (rowsF cAcct (O ++ [(vi, 0)])).set O.length (bAcct (vi, 0 + n)) = rowsF cAcct O2 := by
                have h1 : updA vi n O = O ++ [(vi, n)] := by unfold updA; rw [if_neg hh]
                rw [hsucc, h1]
                refine (rowsF_set cAcct (O ++ [(vi, 0)]) O.length (vi, 0 + n)).trans ?_
                rw [List.set_append_right _ _ (Nat.le_refl _), Nat.sub_self, List.set_cons_zero, Int.zero_add]
              dsimp only [bAcct] at hor hset e2
              have hl3 : (O ++ [(vi, (0 : Int))]).length = O.length + 1 := by simp
              clear hsucc hidx q2 hOb hh
              by_cases hr : (k : Int) < restA vals coins
              · rw [hn hr] at hset
                clear hn hn2
                repeat (first | with_reducible apply W.seq | with_reducible apply W.block | with_reducible apply W.skip | with_reducible apply W.exit | with_reducible apply W.ret | with_reducible apply At.seqN | with_reducible apply At.blkN | with_reducible apply At.blkE | with_reducible apply At.blkR | with_reducible apply At.thenX | with_reducible apply At.thenR | with_reducible apply At.blkX rfl | ((with_reducible apply W.ops); (repeat (first | refine WL.opA hΓ (h := ?_) | refine WL.opX hΓ (h := ?_) | refine WL.opY (h := ?_) | refine WL.opZ (h := ?_))); with_reducible apply WL.nil) | refine W.condT (h := ?_) | refine W.condF (h := ?_))
                exact At.roundA (k + 1) (by omega) (by omega)
              · rw [hn2 hr] at hset
                clear hn hn2
                repeat (first | with_reducible apply W.seq | with_reducible apply W.block | with_reducible apply W.skip | with_reducible apply W.exit | with_reducible apply W.ret | with_reducible apply At.seqN | with_reducible apply At.blkN | with_reducible apply At.blkE | with_reducible apply At.blkR | with_reducible apply At.thenX | with_reducible apply At.thenR | with_reducible apply At.blkX rfl | ((with_reducible apply W.ops); (repeat (first | refine WL.opA hΓ (h := ?_) | refine WL.opX hΓ (h := ?_) | refine WL.opY (h := ?_) | refine WL.opZ (h := ?_))); with_reducible apply WL.nil) | refine W.condT (h := ?_) | refine W.condF (h := ?_))
                exact At.roundA (k + 1) (by omega) (by omega)
          · have hkl : k = vals.length := by omega
            subst hkl
            have hperm := rwI_perm ha hv hc vals.length (Nat.le_refl _)
            obtain ⟨q1, q2⟩ := rwS_in ha hv hc vals.length (Nat.le_refl _)
            obtain ⟨q3, -⟩ := rwI_in ha hv hc (Nat.le_refl vals.length)
            have hl14 : (rwI vals coins l vals.length).length ≤ 14 := by have := q3.1; omega
            have hl15 : (rwS vals coins l vals.length).length ≤ 14 := by have := q1.1; omega
            have c5 := mAccts_eq (rwS vals coins l vals.length) (by omega)
            repeat (first | with_reducible apply W.seq | with_reducible apply W.block | with_reducible apply W.skip | with_reducible apply W.exit | with_reducible apply W.ret | with_reducible apply At.seqN | with_reducible apply At.blkN | with_reducible apply At.blkE | with_reducible apply At.blkR | with_reducible apply At.thenX | with_reducible apply At.thenR | with_reducible apply At.blkX rfl | ((with_reducible apply W.ops); (repeat (first | refine WL.opA hΓ (h := ?_) | refine WL.opX hΓ (h := ?_) | refine WL.opY (h := ?_) | refine WL.opZ (h := ?_))); with_reducible apply WL.nil) | refine W.condT (h := ?_) | refine W.condF (h := ?_))
            with_reducible apply W.ops
            repeat (first | refine WL.opA hΓ (h := ?_) | refine WL.opX hΓ (h := ?_) | refine WL.opY (h := ?_) | refine WL.opZ (h := ?_))
            refine WL.opSortP (p := IdIn) (enc := cAcct) (cf := fun x y : TAcct => x.1 - y.1) hSrt sortA_s (fun _ => rfl) (rwI vals coins l vals.length) (fun x hx => ⟨(q3.2 x hx).1, (q3.2 x hx).2.1⟩) (by omega) (h := ?_)
            intro l' hl1 hl2
            have hl' : l' = rwS vals coins l vals.length := sortA_one (hl1.trans hperm) hl2 q2
            subst hl'
            clear hl1 hl2 q1 q2 q3
            (repeat (first | refine WL.opA hΓ (h := ?_) | refine WL.opX hΓ (h := ?_) | refine WL.opY (h := ?_) | refine WL.opZ (h := ?_)))
            with_reducible apply WL.nil
            by_cases hok : acctsOk (rwS vals coins l vals.length)
            · rw [decide_eq_true hok] at c5 hB
              rw [if_pos hok] at hL
              repeat (first | with_reducible apply W.seq | with_reducible apply W.block | with_reducible apply W.skip | with_reducible apply W.exit | with_reducible apply W.ret | with_reducible apply At.seqN | with_reducible apply At.blkN | with_reducible apply At.blkE | with_reducible apply At.blkR | with_reducible apply At.thenX | with_reducible apply At.thenR | with_reducible apply At.blkX rfl | ((with_reducible apply W.ops); (repeat (first | refine WL.opA hΓ (h := ?_) | refine WL.opX hΓ (h := ?_) | refine WL.opY (h := ?_) | refine WL.opZ (h := ?_))); with_reducible apply WL.nil) | refine W.condT (h := ?_) | refine W.condF (h := ?_))
              refine At.retA (by rw [Try.results40]) (he := ?_)
              simp [rRwi, ha, hB, hL]
            · rw [decide_eq_false hok] at c5 hB
              rw [if_neg hok] at hL
              repeat (first | with_reducible apply W.seq | with_reducible apply W.block | with_reducible apply W.skip | with_reducible apply W.exit | with_reducible apply W.ret | with_reducible apply At.seqN | with_reducible apply At.blkN | with_reducible apply At.blkE | with_reducible apply At.blkR | with_reducible apply At.thenX | with_reducible apply At.thenR | with_reducible apply At.blkX rfl | ((with_reducible apply W.ops); (repeat (first | refine WL.opA hΓ (h := ?_) | refine WL.opX hΓ (h := ?_) | refine WL.opY (h := ?_) | refine WL.opZ (h := ?_))); with_reducible apply WL.nil) | refine W.condT (h := ?_) | refine W.condF (h := ?_))
              refine At.retA (by rw [Try.results40]) (he := ?_)
              simp [rRwi, ha, hB, hL]
      · rw [decide_eq_false hv] at c2
        have hB : rewB l vals coins = false := by simp [rewB, hv]
        have hL : rewL l vals coins = l := by simp [rewL, hB, ha]
        simp only [initS, argPV, List.map_cons, List.map_nil, toPL, Nat.zero_add]
        repeat (first | with_reducible apply W.seq | with_reducible apply W.block | with_reducible apply W.skip | with_reducible apply W.exit | with_reducible apply W.ret | with_reducible apply At.seqN | with_reducible apply At.blkN | with_reducible apply At.blkE | with_reducible apply At.blkR | with_reducible apply At.thenX | with_reducible apply At.thenR | with_reducible apply At.blkX rfl | ((with_reducible apply W.ops); (repeat (first | refine WL.opA hΓ (h := ?_) | refine WL.opX hΓ (h := ?_) | refine WL.opY (h := ?_) | refine WL.opZ (h := ?_))); with_reducible apply WL.nil) | refine W.condT (h := ?_) | refine W.condF (h := ?_))
        refine At.retA (by rw [Try.results40]) (he := ?_)
        simp [rRwi, ha, hB, hL]
    · have hB : rewB l vals coins = false := by simp [rewB, hc]
      have hL : rewL l vals coins = l := by simp [rewL, hB, ha]
      simp only [initS, argPV, List.map_cons, List.map_nil, toPL, Nat.zero_add]
      repeat (first | with_reducible apply W.seq | with_reducible apply W.block | with_reducible apply W.skip | with_reducible apply W.exit | with_reducible apply W.ret | with_reducible apply At.seqN | with_reducible apply At.blkN | with_reducible apply At.blkE | with_reducible apply At.blkR | with_reducible apply At.thenX | with_reducible apply At.thenR | with_reducible apply At.blkX rfl | ((with_reducible apply W.ops); (repeat (first | refine WL.opA hΓ (h := ?_) | refine WL.opX hΓ (h := ?_) | refine WL.opY (h := ?_) | refine WL.opZ (h := ?_))); with_reducible apply WL.nil) | refine W.condT (h := ?_) | refine W.condF (h := ?_))
      refine At.retA (by rw [Try.results40]) (he := ?_)
      simp [rRwi, ha, hB, hL]
  · rw [decide_eq_false ha] at c1
    simp only [initS, argPV, List.map_cons, List.map_nil, toPL, Nat.zero_add]
    repeat (first | with_reducible apply W.seq | with_reducible apply W.block | with_reducible apply W.skip | with_reducible apply W.exit | with_reducible apply W.ret | with_reducible apply At.seqN | with_reducible apply At.blkN | with_reducible apply At.blkE | with_reducible apply At.blkR | with_reducible apply At.thenX | with_reducible apply At.thenR | with_reducible apply At.blkX rfl | ((with_reducible apply W.ops); (repeat (first | refine WL.opA hΓ (h := ?_) | refine WL.opX hΓ (h := ?_) | refine WL.opY (h := ?_) | refine WL.opZ (h := ?_))); with_reducible apply WL.nil) | refine W.condT (h := ?_) | refine W.condF (h := ?_))
    refine At.retA (by rw [Try.results40]) (he := ?_)
    simp [rRwi, ha]
end Go.Proofs.Ytlchfjjoendimaa
