/-
  Eras copied, added, cut, looked up.
-/
import Derived.Test.YtimnogjgokljbaaEvEraS
import Derived.Test.YtimnogjgokljbaaEvEraI
import Derived.Test.YtimnogjgokljbaaEvMid
namespace Go.Proofs.Ytimnogjgokljbaa
set_option maxRecDepth 100000
set_option linter.unusedVariables false
set_option linter.unusedSimpArgs false
open Go Go.RowKit
set_option maxHeartbeats 8000000
set_option linter.unusedVariables false
set_option linter.unusedSimpArgs false

section
variable {γ0 : Nat → Option Nat} {w0 : World} {N : Nat} {st : St} {Q : Exit → Act → World → Prop} {c : Code}
theorem W.nilA (t n e s : Nat) (ht : getS st t = one .nil := by simp (config := { maxSteps := 1000000 }) (disch := first | assumption | omega) only [TY, ar_u64, binE, eqCells, eqVal, eqOp, step_mk, makeE, List.toList_toArray, Value.oneCell', step_fnv, step_makeFunc, ev_func, callV, cells_agg, cells_int, cells_bool, cells_str, cells_sl, List.size_toArray, flatB_nil, flatB_cons, wid_nil, wid_cons, rowsF_len, rowsF_flat, rowsF_app, step_build, buildE, fillE, indexSlE, indexArrE, shiftE, indexArrV, indexStE, step_move, step_assign, step_pick, step_load, step_nilCheck, step_binOp, step_unOp, step_convert, step_slice, step_fieldAddr, step_field, step_indexAddr, step_index, step_extract, step_len, step_min, step_max, step_alloc, step_box, step_lit, step_app, step_fn, step_store, putV_some, getS_hit, getS_miss, getS_blk, getS_kill, getS_nil, getB_nil, getB_slot, getB_hit, getB_miss, getB_kill0, getB_kill1, ev_tmp, ev_int, ev_bool, ev_str, ev_nil, ev_agg, cl_int, cl_bool, cl_str, cl_nil, loadE, loadV, fieldAddrE, fieldE, partV, indexAddrE, lenE, lenO, strIdx, indexE, boundE, subE, sliceE, convE, minE, scal, nilE, tupE, capsE, optE, pickE, pbin, pint, pstr, pun, ar_in, ar_u32, ar_u8, allocE, boxE, litE, rowsO, leafO, leafsO, frz, clr, rowsOf, flB, Fl.and, Fl.nst, Fl.ok, Fl.isFl, noRef, nstOk, flatAt, hasAll, absL, appN, Fl.isNd, asN, storeN, Nat.reduceBNe, destOf, appE, storeE, argO, argsO, boxesO, callG, callE, impE, pvR, pvs, pvRL, pvT, owns, ownsT, ownsR, clrL, withB, PV.kill, PL.kill, PL.names, Blk.kill, PL.live, toPL, resV, resO, compsO, compO, rlsO, rlO, toRes, Leaf.isSc, List.map_cons, List.map_nil, List.all_cons, List.all_nil, List.length_cons, List.length_nil, List.drop_zero, List.drop_succ_cons, List.take_succ_cons, List.take_zero, List.drop_nil, List.take_nil, List.getElem?_cons_zero, List.getElem?_cons_succ, List.getElem?_nil, Option.map_some, Option.map_none, Option.bind_some, Option.isSome_some, Option.isSome_none, List.cons_append, List.nil_append, List.append_nil, if_true, if_false, reduceIte, Nat.reduceLT, Nat.reduceBEq, Nat.reduceLeDiff, Nat.reduceEqDiff, Nat.reduceAdd, Nat.reduceMul, Nat.zero_add, Nat.add_zero, Nat.mul_one, Int.reduceToNat, Bool.and_true, Bool.true_and, Bool.false_and, Bool.and_false, Bool.not_true, Bool.not_false, Bool.false_eq_true, decide_true, decide_false, and_self, and_true, true_and, or_true, true_or, or_false, false_or, if_pos, if_neg, Int.toNat_natCast, decide_eq_true, decide_eq_false, look_hit, look_miss, Int.ofNat_eq_natCast, Bool.or_false, Bool.or_true, Bool.true_or, Bool.false_or, Bool.not_eq_true, beq_self_eq_true, ne_eq, not_false_eq_true, not_true_eq_false, eq_self, *] <;> rfl) (hn : getB st n = none := by simp (config := { maxSteps := 1000000 }) (disch := first | assumption | omega) only [TY, ar_u64, binE, eqCells, eqVal, eqOp, step_mk, makeE, List.toList_toArray, Value.oneCell', step_fnv, step_makeFunc, ev_func, callV, cells_agg, cells_int, cells_bool, cells_str, cells_sl, List.size_toArray, flatB_nil, flatB_cons, wid_nil, wid_cons, rowsF_len, rowsF_flat, rowsF_app, step_build, buildE, fillE, indexSlE, indexArrE, shiftE, indexArrV, indexStE, step_move, step_assign, step_pick, step_load, step_nilCheck, step_binOp, step_unOp, step_convert, step_slice, step_fieldAddr, step_field, step_indexAddr, step_index, step_extract, step_len, step_min, step_max, step_alloc, step_box, step_lit, step_app, step_fn, step_store, putV_some, getS_hit, getS_miss, getS_blk, getS_kill, getS_nil, getB_nil, getB_slot, getB_hit, getB_miss, getB_kill0, getB_kill1, ev_tmp, ev_int, ev_bool, ev_str, ev_nil, ev_agg, cl_int, cl_bool, cl_str, cl_nil, loadE, loadV, fieldAddrE, fieldE, partV, indexAddrE, lenE, lenO, strIdx, indexE, boundE, subE, sliceE, convE, minE, scal, nilE, tupE, capsE, optE, pickE, pbin, pint, pstr, pun, ar_in, ar_u32, ar_u8, allocE, boxE, litE, rowsO, leafO, leafsO, frz, clr, rowsOf, flB, Fl.and, Fl.nst, Fl.ok, Fl.isFl, noRef, nstOk, flatAt, hasAll, absL, appN, Fl.isNd, asN, storeN, Nat.reduceBNe, destOf, appE, storeE, argO, argsO, boxesO, callG, callE, impE, pvR, pvs, pvRL, pvT, owns, ownsT, ownsR, clrL, withB, PV.kill, PL.kill, PL.names, Blk.kill, PL.live, toPL, resV, resO, compsO, compO, rlsO, rlO, toRes, Leaf.isSc, List.map_cons, List.map_nil, List.all_cons, List.all_nil, List.length_cons, List.length_nil, List.drop_zero, List.drop_succ_cons, List.take_succ_cons, List.take_zero, List.drop_nil, List.take_nil, List.getElem?_cons_zero, List.getElem?_cons_succ, List.getElem?_nil, Option.map_some, Option.map_none, Option.bind_some, Option.isSome_some, Option.isSome_none, List.cons_append, List.nil_append, List.append_nil, if_true, if_false, reduceIte, Nat.reduceLT, Nat.reduceBEq, Nat.reduceLeDiff, Nat.reduceEqDiff, Nat.reduceAdd, Nat.reduceMul, Nat.zero_add, Nat.add_zero, Nat.mul_one, Int.reduceToNat, Bool.and_true, Bool.true_and, Bool.false_and, Bool.and_false, Bool.not_true, Bool.not_false, Bool.false_eq_true, decide_true, decide_false, and_self, and_true, true_and, or_true, true_or, or_false, false_or, if_pos, if_neg, Int.toNat_natCast, decide_eq_true, decide_eq_false, look_hit, look_miss, Int.ofNat_eq_natCast, Bool.or_false, Bool.or_true, Bool.true_or, Bool.false_or, Bool.not_eq_true, beq_self_eq_true, ne_eq, not_false_eq_true, not_true_eq_false, eq_self, *] <;> rfl) (hN : t < N := by decide) (hn9 : n ≠ 999 := by decide) (h : W Try.prog γ0 w0 N (.slot t (one (.all n)) :: .blk n (.arr .ft e s []) :: st) c Q) : W Try.prog γ0 w0 N st c Q := W.nil t n e s ht hn hN hn9 h
end
abbrev okEc (l : List TEra) : Prop := l.length ≤ 1048576 ∧ ∀ e ∈ l, e.2.length ≤ 1048576
theorem okEc.es {l : List TEra} (h : okEc l) : okES l := ⟨by have := h.1; omega, fun e he => by have := h.2 e he; show e.2.length ≤ _; omega⟩
theorem eraRows_take {l : List TEra} {k : Nat} (h : k < l.length) : eraRows (l.take k) ++ [[.sc (.int .i64 l[k].1), .sl (rowsF cVal l[k].2)]] = eraRows (l.take (k + 1)) := by
  unfold eraRows
  rw [List.take_succ_eq_append_getElem h, List.map_append]
  rfl
theorem eraRows_tlen {l : List TEra} {k : Nat} (h : k ≤ l.length) : (eraRows (l.take k)).length = k := by rw [eraRows_len, List.length_take]; omega
theorem eraRows_wid (l : List TEra) : wid 2 (eraRows l) := fun row hr => by
  obtain ⟨e, _, rfl⟩ := List.mem_map.1 hr
  rfl
noncomputable def mCopyV := mdl (fun l : List TVal => l.length ≤ 1048576) (fun l => [aL cVal l]) (fun l => rL 57 2 cVal l)
theorem mCopyV_eq (l : List TVal) (h : l.length ≤ 1048576) : mCopyV [aL cVal l] = some (rL 57 2 cVal l) := mdl_eq (by intro a b h; simpa using h) l h
noncomputable def mCopyE := mdl okEc (fun l => [aES l]) rEN
theorem mCopyE_eq (l : List TEra) (h : okEc l) : mCopyE [aES l] = some (rEN l) := mdl_eq aES_inj l h
theorem copyV_s : Sound Try.prog 33 mCopyV := by
  refine Sound.mdl Try.func33 rfl Try.ntmps33 ?_
  rintro l w hl
  refine ⟨by simp, ?_⟩
  replace hl : l.length ≤ 1048576 := hl
  have hΓ : GSound Try.prog (look []) := env_nil
  have hlen := rowsF_len cVal l
  have hw : wid 2 (rowsF cVal l) := rowsF_wid (f := cVal) (s := 2) (fun _ => rfl) l
  simp only [initS, argPV, List.map_cons, List.map_nil, toPL, Nat.zero_add]
  repeat (first | with_reducible apply W.seq | with_reducible apply W.block | with_reducible apply W.skip | with_reducible apply W.exit | with_reducible apply W.ret | with_reducible apply At.seqN | with_reducible apply At.blkN | with_reducible apply At.blkE | with_reducible apply At.blkR | with_reducible apply At.thenX | with_reducible apply At.thenR | with_reducible apply At.blkX rfl | ((with_reducible apply W.ops); (repeat (first | refine WL.opA hΓ (h := ?_) | refine WL.opX hΓ (h := ?_) | refine WL.opY (h := ?_) | refine WL.opZ (h := ?_))); with_reducible apply WL.nil) | refine W.condT (h := ?_) | refine W.condF (h := ?_))
  refine At.retA (by rw [Try.results33]) (he := rfl)
theorem copyE_s : Sound Try.prog 40 mCopyE := by
  refine Sound.mdl Try.func40 rfl Try.ntmps40 ?_
  rintro l w ⟨hl, hel⟩
  refine ⟨by simp, ?_⟩
  have hΓ : GSound Try.prog (look [(33, mCopyV)]) := env_cons (has_of Try.func33 rfl rfl) copyV_s env_nil
  have hlen := eraRows_len l
  simp only [initS, argPV, List.map_cons, List.map_nil, toPL, Nat.zero_add]
  repeat (first | with_reducible apply W.seq | with_reducible apply W.block | with_reducible apply W.skip | with_reducible apply W.exit | with_reducible apply W.ret | with_reducible apply At.seqN | with_reducible apply At.blkN | with_reducible apply At.blkE | with_reducible apply At.blkR | with_reducible apply At.thenX | with_reducible apply At.thenR | with_reducible apply At.blkX rfl | ((with_reducible apply W.ops); (repeat (first | refine WL.opA hΓ (h := ?_) | refine WL.opX hΓ (h := ?_) | refine WL.opY (h := ?_) | refine WL.opZ (h := ?_))); with_reducible apply WL.nil) | refine W.condT (h := ?_) | refine W.condF (h := ?_))
  refine W.nilA 3 900 52 2 (h := ?_)
  refine W.toNd 900 (h := ?_)
  refine W.loopA (fun k => k ≤ l.length) (fun k : Nat => [.slot 8 (vI k), .slot 7 (vI l.length), .slot 6 (one (.sl (eraRows l))), .slot 3 (one (.all 900)), .blk 900 (.arr .nd 52 2 (eraRows (l.take k)))]) (fun k => l.length - k) 0 (Nat.zero_le _) (h := ?_)
  rintro k hk
  have htl := eraRows_tlen hk
  by_cases hlt : k < l.length
  · have hrow := eraRows_get hlt
    have htk := eraRows_take hlt
    have c := mCopyV_eq l[k].2 (hel _ (List.getElem_mem hlt))
    generalize l[k] = x at *
    obtain ⟨f, v⟩ := x
    dsimp only at hrow htk c
    repeat (first | with_reducible apply W.seq | with_reducible apply W.block | with_reducible apply W.skip | with_reducible apply W.exit | with_reducible apply W.ret | with_reducible apply At.seqN | with_reducible apply At.blkN | with_reducible apply At.blkE | with_reducible apply At.blkR | with_reducible apply At.thenX | with_reducible apply At.thenR | with_reducible apply At.blkX rfl | ((with_reducible apply W.ops); (repeat (first | refine WL.opA hΓ (h := ?_) | refine WL.opX hΓ (h := ?_) | refine WL.opY (h := ?_) | refine WL.opZ (h := ?_))); with_reducible apply WL.nil) | refine W.condT (h := ?_) | refine W.condF (h := ?_))
    refine W.drawsA hΓ 8 [[], [], [1], [], [3], [3, 4], [1, 2, 3, 4, 5], [1, 2, 3, 4, 5, 6], [0, 1, 2, 3, 4, 5, 6, 7], [0, 1, 2, 3, 4, 5, 6, 7, 8]] (rest := ?rest9) (Es := ?Es9) (st1 := ?st19) (h := ?h9) (hf := ?hf9) (hp := ?hp9) (hd := ?hd9) (hfr := ?hfr9) (hst := ?hst9) (hT := ?hT9)
    case h9 => kernel_rfl
    case hf9 =>
      repeat (first | refine FlowT.opA (h := ?_) | refine FlowT.opX (h := ?_) | refine FlowT.opY (h := ?_) | refine FlowT.opZ (h := ?_))
      exact FlowT.done
    case hp9 => rfl
    case hd9 => rfl
    case hfr9 => rfl
    case hst9 =>
      simp only [pick_nil, pick_all, List.cons_append, List.nil_append]
      rfl
    (repeat (first | refine WL.opA hΓ (h := ?_) | refine WL.opX hΓ (h := ?_) | refine WL.opY (h := ?_) | refine WL.opZ (h := ?_)))
    with_reducible apply WL.nil
    repeat (first | with_reducible apply W.seq | with_reducible apply W.block | with_reducible apply W.skip | with_reducible apply W.exit | with_reducible apply W.ret | with_reducible apply At.seqN | with_reducible apply At.blkN | with_reducible apply At.blkE | with_reducible apply At.blkR | with_reducible apply At.thenX | with_reducible apply At.thenR | with_reducible apply At.blkX rfl | ((with_reducible apply W.ops); (repeat (first | refine WL.opA hΓ (h := ?_) | refine WL.opX hΓ (h := ?_) | refine WL.opY (h := ?_) | refine WL.opZ (h := ?_))); with_reducible apply WL.nil) | refine W.condT (h := ?_) | refine W.condF (h := ?_))
    exact At.roundA (k + 1) (by omega) (by omega)
  · have hke : k = l.length := by omega
    subst hke
    have hall : l.take l.length = l := List.take_length
    rw [hall]
    repeat (first | with_reducible apply W.seq | with_reducible apply W.block | with_reducible apply W.skip | with_reducible apply W.exit | with_reducible apply W.ret | with_reducible apply At.seqN | with_reducible apply At.blkN | with_reducible apply At.blkE | with_reducible apply At.blkR | with_reducible apply At.thenX | with_reducible apply At.thenR | with_reducible apply At.blkX rfl | ((with_reducible apply W.ops); (repeat (first | refine WL.opA hΓ (h := ?_) | refine WL.opX hΓ (h := ?_) | refine WL.opY (h := ?_) | refine WL.opZ (h := ?_))); with_reducible apply WL.nil) | refine W.condT (h := ?_) | refine W.condF (h := ?_))
    refine At.retA (by rw [Try.results40]) (he := rfl)
theorem copyS_s : Sound Try.prog 37 mCopyE := by
  refine Sound.mdl Try.func37 rfl Try.ntmps37 ?_
  rintro l w ⟨hl, hel⟩
  refine ⟨by simp, ?_⟩
  have hΓ : GSound Try.prog (look []) := env_nil
  have hlen := eraRows_len l
  simp only [initS, argPV, List.map_cons, List.map_nil, toPL, Nat.zero_add]
  repeat (first | with_reducible apply W.seq | with_reducible apply W.block | with_reducible apply W.skip | with_reducible apply W.exit | with_reducible apply W.ret | with_reducible apply At.seqN | with_reducible apply At.blkN | with_reducible apply At.blkE | with_reducible apply At.blkR | with_reducible apply At.thenX | with_reducible apply At.thenR | with_reducible apply At.blkX rfl | ((with_reducible apply W.ops); (repeat (first | refine WL.opA hΓ (h := ?_) | refine WL.opX hΓ (h := ?_) | refine WL.opY (h := ?_) | refine WL.opZ (h := ?_))); with_reducible apply WL.nil) | refine W.condT (h := ?_) | refine W.condF (h := ?_))
  refine W.toNd 5 (h := ?_)
  refine W.loopA (fun k => k ≤ l.length) (fun k : Nat => [.slot 4 (vI k), .slot 0 (one (.sl (eraRows l))), .slot 3 (one (.all 5)), .blk 5 (.arr .nd 52 2 (eraRows (l.take k)))]) (fun k => l.length - k) 0 (Nat.zero_le _) (h := ?_)
  rintro k hk
  have htl := eraRows_tlen hk
  by_cases hlt : k < l.length
  · have hrow := eraRows_get hlt
    have htk := eraRows_take hlt
    have hv := hel _ (List.getElem_mem hlt)
    generalize l[k] = x at *
    obtain ⟨f, v⟩ := x
    dsimp only at hrow htk hv
    have hvl := rowsF_len cVal v
    have hw : wid 2 (rowsF cVal v) := rowsF_wid (f := cVal) (s := 2) (fun _ => rfl) v
    repeat (first | with_reducible apply W.seq | with_reducible apply W.block | with_reducible apply W.skip | with_reducible apply W.exit | with_reducible apply W.ret | with_reducible apply At.seqN | with_reducible apply At.blkN | with_reducible apply At.blkE | with_reducible apply At.blkR | with_reducible apply At.thenX | with_reducible apply At.thenR | with_reducible apply At.blkX rfl | ((with_reducible apply W.ops); (repeat (first | refine WL.opA hΓ (h := ?_) | refine WL.opX hΓ (h := ?_) | refine WL.opY (h := ?_) | refine WL.opZ (h := ?_))); with_reducible apply WL.nil) | refine W.condT (h := ?_) | refine W.condF (h := ?_))
    refine W.midA hΓ 15 [[], [], [], [1, 2], [1, 2, 3], [1, 2, 3, 4], [], [], [], [7, 8], [7, 8, 9], [7, 8, 9, 10], [6, 7, 8, 9, 10, 11], [1, 2, 3, 4, 5, 6, 7, 8, 9, 10, 11, 12], [1, 2, 3, 4, 5, 6, 7, 8, 9, 10, 11, 12, 13], [0, 1, 2, 3, 4, 5, 6, 7, 8, 9, 10, 11, 12, 13, 14], [0, 1, 2, 3, 4, 5, 6, 7, 8, 9, 10, 11, 12, 13, 14, 15]] 12 6 (EsA := ?EsA17) (EsB := ?EsB17) (restA := ?rA17) (rest := ?rest17) (d := ?d17) (q := ?q17) (dq := ?dq17) (t0 := ?t017) (t1 := ?t117) (t := ?t17) (ty := ?ty17) (pos := ?pos17) (after := ?after17) (v1 := ?v117) (b1 := ?b117) (bq := ?bq17) (stX := ?stX17) (stB := ?stB17) (stT := ?stT17) (h := ?h17) (hxp := by decide) (hoX := ?hoX17) (hN := ?hN17) (hfA := ?hfA17) (hpA := ?hpA17) (hdA := ?hdA17) (hfrA := ?hfr17) (hneA := ?hne17) (hk := ?hk17) (hka := by decide) (hkx := by decide) (hpk := ?hpk17) (ht0 := ?ht017) (ht1 := ?ht117) (happ := ?happ17) (hdq := ?hdq17) (hB0 := ?hB017) (hfB := ?hfB17) (hpB := ?hpB17) (hdB := ?hdB17) (hfrB := ?hfrB17) (hneB := ?hneB17) (hmask := ?hmask17) (hnoA := ?hnoA17) (hno := ?hno17) (hst := ?hst17) (hT := ?hT17)
    case h17 => kernel_rfl
    case hoX17 => rfl
    case hN17 => decide
    case hfA17 =>
      iterate 15 (first | refine FlowX.skA 12 (h := ?_) | refine FlowX.opA (h := ?_))
      exact FlowX.done
    case hpA17 => rfl
    case hdA17 => rfl
    case hfr17 => rfl
    case hne17 => rfl
    case hk17 => rfl
    case hpk17 =>
      simp (disch := decide) only [pick_nil, pick_t, pick_f, List.cons_append, List.nil_append, Nat.reduceAdd]
      rfl
    case ht017 => simp (config := { maxSteps := 1000000 }) (disch := first | assumption | omega) only [TY, ar_u64, binE, eqCells, eqVal, eqOp, step_mk, makeE, List.toList_toArray, Value.oneCell', step_fnv, step_makeFunc, ev_func, callV, cells_agg, cells_int, cells_bool, cells_str, cells_sl, List.size_toArray, flatB_nil, flatB_cons, wid_nil, wid_cons, rowsF_len, rowsF_flat, rowsF_app, step_build, buildE, fillE, indexSlE, indexArrE, shiftE, indexArrV, indexStE, step_move, step_assign, step_pick, step_load, step_nilCheck, step_binOp, step_unOp, step_convert, step_slice, step_fieldAddr, step_field, step_indexAddr, step_index, step_extract, step_len, step_min, step_max, step_alloc, step_box, step_lit, step_app, step_fn, step_store, putV_some, getS_hit, getS_miss, getS_blk, getS_kill, getS_nil, getB_nil, getB_slot, getB_hit, getB_miss, getB_kill0, getB_kill1, ev_tmp, ev_int, ev_bool, ev_str, ev_nil, ev_agg, cl_int, cl_bool, cl_str, cl_nil, loadE, loadV, fieldAddrE, fieldE, partV, indexAddrE, lenE, lenO, strIdx, indexE, boundE, subE, sliceE, convE, minE, scal, nilE, tupE, capsE, optE, pickE, pbin, pint, pstr, pun, ar_in, ar_u32, ar_u8, allocE, boxE, litE, rowsO, leafO, leafsO, frz, clr, rowsOf, flB, Fl.and, Fl.nst, Fl.ok, Fl.isFl, noRef, nstOk, flatAt, hasAll, absL, appN, Fl.isNd, asN, storeN, Nat.reduceBNe, destOf, appE, storeE, argO, argsO, boxesO, callG, callE, impE, pvR, pvs, pvRL, pvT, owns, ownsT, ownsR, clrL, withB, PV.kill, PL.kill, PL.names, Blk.kill, PL.live, toPL, resV, resO, compsO, compO, rlsO, rlO, toRes, Leaf.isSc, List.map_cons, List.map_nil, List.all_cons, List.all_nil, List.length_cons, List.length_nil, List.drop_zero, List.drop_succ_cons, List.take_succ_cons, List.take_zero, List.drop_nil, List.take_nil, List.getElem?_cons_zero, List.getElem?_cons_succ, List.getElem?_nil, Option.map_some, Option.map_none, Option.bind_some, Option.isSome_some, Option.isSome_none, List.cons_append, List.nil_append, List.append_nil, if_true, if_false, reduceIte, Nat.reduceLT, Nat.reduceBEq, Nat.reduceLeDiff, Nat.reduceEqDiff, Nat.reduceAdd, Nat.reduceMul, Nat.zero_add, Nat.add_zero, Nat.mul_one, Int.reduceToNat, Bool.and_true, Bool.true_and, Bool.false_and, Bool.and_false, Bool.not_true, Bool.not_false, Bool.false_eq_true, decide_true, decide_false, and_self, and_true, true_and, or_true, true_or, or_false, false_or, if_pos, if_neg, Int.toNat_natCast, decide_eq_true, decide_eq_false, look_hit, look_miss, Int.ofNat_eq_natCast, Bool.or_false, Bool.or_true, Bool.true_or, Bool.false_or, Bool.not_eq_true, beq_self_eq_true, ne_eq, not_false_eq_true, not_true_eq_false, eq_self, *] <;> rfl
    case ht117 => simp (config := { maxSteps := 1000000 }) (disch := first | assumption | omega) only [TY, ar_u64, binE, eqCells, eqVal, eqOp, step_mk, makeE, List.toList_toArray, Value.oneCell', step_fnv, step_makeFunc, ev_func, callV, cells_agg, cells_int, cells_bool, cells_str, cells_sl, List.size_toArray, flatB_nil, flatB_cons, wid_nil, wid_cons, rowsF_len, rowsF_flat, rowsF_app, step_build, buildE, fillE, indexSlE, indexArrE, shiftE, indexArrV, indexStE, step_move, step_assign, step_pick, step_load, step_nilCheck, step_binOp, step_unOp, step_convert, step_slice, step_fieldAddr, step_field, step_indexAddr, step_index, step_extract, step_len, step_min, step_max, step_alloc, step_box, step_lit, step_app, step_fn, step_store, putV_some, getS_hit, getS_miss, getS_blk, getS_kill, getS_nil, getB_nil, getB_slot, getB_hit, getB_miss, getB_kill0, getB_kill1, ev_tmp, ev_int, ev_bool, ev_str, ev_nil, ev_agg, cl_int, cl_bool, cl_str, cl_nil, loadE, loadV, fieldAddrE, fieldE, partV, indexAddrE, lenE, lenO, strIdx, indexE, boundE, subE, sliceE, convE, minE, scal, nilE, tupE, capsE, optE, pickE, pbin, pint, pstr, pun, ar_in, ar_u32, ar_u8, allocE, boxE, litE, rowsO, leafO, leafsO, frz, clr, rowsOf, flB, Fl.and, Fl.nst, Fl.ok, Fl.isFl, noRef, nstOk, flatAt, hasAll, absL, appN, Fl.isNd, asN, storeN, Nat.reduceBNe, destOf, appE, storeE, argO, argsO, boxesO, callG, callE, impE, pvR, pvs, pvRL, pvT, owns, ownsT, ownsR, clrL, withB, PV.kill, PL.kill, PL.names, Blk.kill, PL.live, toPL, resV, resO, compsO, compO, rlsO, rlO, toRes, Leaf.isSc, List.map_cons, List.map_nil, List.all_cons, List.all_nil, List.length_cons, List.length_nil, List.drop_zero, List.drop_succ_cons, List.take_succ_cons, List.take_zero, List.drop_nil, List.take_nil, List.getElem?_cons_zero, List.getElem?_cons_succ, List.getElem?_nil, Option.map_some, Option.map_none, Option.bind_some, Option.isSome_some, Option.isSome_none, List.cons_append, List.nil_append, List.append_nil, if_true, if_false, reduceIte, Nat.reduceLT, Nat.reduceBEq, Nat.reduceLeDiff, Nat.reduceEqDiff, Nat.reduceAdd, Nat.reduceMul, Nat.zero_add, Nat.add_zero, Nat.mul_one, Int.reduceToNat, Bool.and_true, Bool.true_and, Bool.false_and, Bool.and_false, Bool.not_true, Bool.not_false, Bool.false_eq_true, decide_true, decide_false, and_self, and_true, true_and, or_true, true_or, or_false, false_or, if_pos, if_neg, Int.toNat_natCast, decide_eq_true, decide_eq_false, look_hit, look_miss, Int.ofNat_eq_natCast, Bool.or_false, Bool.or_true, Bool.true_or, Bool.false_or, Bool.not_eq_true, beq_self_eq_true, ne_eq, not_false_eq_true, not_true_eq_false, eq_self, *] <;> rfl
    case happ17 =>
      intro st hm0 hm1 hmb
      simp (config := { maxSteps := 1000000 }) (disch := first | assumption | omega) only [TY, ar_u64, binE, eqCells, eqVal, eqOp, step_mk, makeE, List.toList_toArray, Value.oneCell', step_fnv, step_makeFunc, ev_func, callV, cells_agg, cells_int, cells_bool, cells_str, cells_sl, List.size_toArray, flatB_nil, flatB_cons, wid_nil, wid_cons, rowsF_len, rowsF_flat, rowsF_app, step_build, buildE, fillE, indexSlE, indexArrE, shiftE, indexArrV, indexStE, step_move, step_assign, step_pick, step_load, step_nilCheck, step_binOp, step_unOp, step_convert, step_slice, step_fieldAddr, step_field, step_indexAddr, step_index, step_extract, step_len, step_min, step_max, step_alloc, step_box, step_lit, step_app, step_fn, step_store, putV_some, getS_hit, getS_miss, getS_blk, getS_kill, getS_nil, getB_nil, getB_slot, getB_hit, getB_miss, getB_kill0, getB_kill1, ev_tmp, ev_int, ev_bool, ev_str, ev_nil, ev_agg, cl_int, cl_bool, cl_str, cl_nil, loadE, loadV, fieldAddrE, fieldE, partV, indexAddrE, lenE, lenO, strIdx, indexE, boundE, subE, sliceE, convE, minE, scal, nilE, tupE, capsE, optE, pickE, pbin, pint, pstr, pun, ar_in, ar_u32, ar_u8, allocE, boxE, litE, rowsO, leafO, leafsO, frz, clr, rowsOf, flB, Fl.and, Fl.nst, Fl.ok, Fl.isFl, noRef, nstOk, flatAt, hasAll, absL, appN, Fl.isNd, asN, storeN, Nat.reduceBNe, destOf, appE, storeE, argO, argsO, boxesO, callG, callE, impE, pvR, pvs, pvRL, pvT, owns, ownsT, ownsR, clrL, withB, PV.kill, PL.kill, PL.names, Blk.kill, PL.live, toPL, resV, resO, compsO, compO, rlsO, rlO, toRes, Leaf.isSc, List.map_cons, List.map_nil, List.all_cons, List.all_nil, List.length_cons, List.length_nil, List.drop_zero, List.drop_succ_cons, List.take_succ_cons, List.take_zero, List.drop_nil, List.take_nil, List.getElem?_cons_zero, List.getElem?_cons_succ, List.getElem?_nil, Option.map_some, Option.map_none, Option.bind_some, Option.isSome_some, Option.isSome_none, List.cons_append, List.nil_append, List.append_nil, if_true, if_false, reduceIte, Nat.reduceLT, Nat.reduceBEq, Nat.reduceLeDiff, Nat.reduceEqDiff, Nat.reduceAdd, Nat.reduceMul, Nat.zero_add, Nat.add_zero, Nat.mul_one, Int.reduceToNat, Bool.and_true, Bool.true_and, Bool.false_and, Bool.and_false, Bool.not_true, Bool.not_false, Bool.false_eq_true, decide_true, decide_false, and_self, and_true, true_and, or_true, true_or, or_false, false_or, if_pos, if_neg, Int.toNat_natCast, decide_eq_true, decide_eq_false, look_hit, look_miss, Int.ofNat_eq_natCast, Bool.or_false, Bool.or_true, Bool.true_or, Bool.false_or, Bool.not_eq_true, beq_self_eq_true, ne_eq, not_false_eq_true, not_true_eq_false, eq_self, *] <;> rfl
    case hdq17 => decide
    case hB017 => rfl
    case hfB17 =>
      iterate 15 (first | refine FlowX.skM 12 6 (h := ?_) | refine FlowX.opA (h := ?_))
      exact FlowX.done
    case hpB17 => rfl
    case hdB17 => rfl
    case hfrB17 => rfl
    case hneB17 => rfl
    case hmask17 => rfl
    case hnoA17 => rfl
    case hno17 => rfl
    case hst17 =>
      simp only [pick_nil, pick_all, List.cons_append, List.nil_append]
      rfl
    (repeat (first | refine WL.opA hΓ (h := ?_) | refine WL.opX hΓ (h := ?_) | refine WL.opY (h := ?_) | refine WL.opZ (h := ?_)))
    with_reducible apply WL.nil
    repeat (first | with_reducible apply W.seq | with_reducible apply W.block | with_reducible apply W.skip | with_reducible apply W.exit | with_reducible apply W.ret | with_reducible apply At.seqN | with_reducible apply At.blkN | with_reducible apply At.blkE | with_reducible apply At.blkR | with_reducible apply At.thenX | with_reducible apply At.thenR | with_reducible apply At.blkX rfl | ((with_reducible apply W.ops); (repeat (first | refine WL.opA hΓ (h := ?_) | refine WL.opX hΓ (h := ?_) | refine WL.opY (h := ?_) | refine WL.opZ (h := ?_))); with_reducible apply WL.nil) | refine W.condT (h := ?_) | refine W.condF (h := ?_))
    exact At.roundA (k + 1) (by omega) (by omega)
  · have hke : k = l.length := by omega
    subst hke
    have hall : l.take l.length = l := List.take_length
    rw [hall]
    repeat (first | with_reducible apply W.seq | with_reducible apply W.block | with_reducible apply W.skip | with_reducible apply W.exit | with_reducible apply W.ret | with_reducible apply At.seqN | with_reducible apply At.blkN | with_reducible apply At.blkE | with_reducible apply At.blkR | with_reducible apply At.thenX | with_reducible apply At.thenR | with_reducible apply At.blkX rfl | ((with_reducible apply W.ops); (repeat (first | refine WL.opA hΓ (h := ?_) | refine WL.opX hΓ (h := ?_) | refine WL.opY (h := ?_) | refine WL.opZ (h := ?_))); with_reducible apply WL.nil) | refine W.condT (h := ?_) | refine W.condF (h := ?_))
    refine At.retA (by rw [Try.results37]) (he := rfl)
/-! the last era at a height -/
def lastE (l : List TEra) (h : Int) : Nat → Int
  | 0 => -1
  | n + 1 => if (eraD l n).1 ≤ h then (n : Int) else lastE l h n
theorem lastE_le (l : List TEra) (h : Int) : ∀ n : Nat, -1 ≤ lastE l h n ∧ lastE l h n < n
  | 0 => by simp [lastE]
  | n + 1 => by
    have ih := lastE_le l h n
    unfold lastE
    split <;> omega
noncomputable def mLastE := mdl (fun x : List TEra × Int => x.1.length ≤ 1048576) (fun x => [aES x.1, aI x.2]) (fun x => rI (lastE x.1 x.2 x.1.length))
theorem mLastE_eq (l : List TEra) (h : Int) (hl : l.length ≤ 1048576) : mLastE [aES l, aI h] = some (rI (lastE l h l.length)) := mdl_eq (by
  rintro ⟨a, c⟩ ⟨a', c'⟩ h
  simp at h
  rw [eraRows_inj h.1, h.2]) (l, h) hl
theorem lastI_s : Sound Try.prog 31 mLastE := by
  refine Sound.mdl Try.func31 rfl Try.ntmps31 ?_
  rintro ⟨l, h⟩ w hl
  refine ⟨by simp, ?_⟩
  dsimp only at hl
  have hΓ : GSound Try.prog (look []) := env_nil
  have hlen := eraRows_len l
  simp only [initS, argPV, List.map_cons, List.map_nil, toPL, Nat.zero_add]
  repeat (first | with_reducible apply W.seq | with_reducible apply W.block | with_reducible apply W.skip | with_reducible apply W.exit | with_reducible apply W.ret | with_reducible apply At.seqN | with_reducible apply At.blkN | with_reducible apply At.blkE | with_reducible apply At.blkR | with_reducible apply At.thenX | with_reducible apply At.thenR | with_reducible apply At.blkX rfl | ((with_reducible apply W.ops); (repeat (first | refine WL.opA hΓ (h := ?_) | refine WL.opX hΓ (h := ?_) | refine WL.opY (h := ?_) | refine WL.opZ (h := ?_))); with_reducible apply WL.nil) | refine W.condT (h := ?_) | refine W.condF (h := ?_))
  refine W.loopA (fun x : Nat × Int => x.1 ≤ l.length ∧ x.2 = lastE l h x.1) (fun x : Nat × Int => [.slot 10 (vI x.1), .slot 9 (vI l.length), .slot 8 (one (.sl (eraRows l))), .slot 5 (vI x.2), .slot 1 (vI h)]) (fun x => l.length - x.1) (0, -1) ⟨Nat.zero_le _, rfl⟩ (h := ?_)
  rintro ⟨k, m⟩ ⟨hk, hm⟩
  dsimp only at hk hm ⊢
  by_cases hlt : k < l.length
  · have hrow := eraD_row hlt
    have hs : lastE l h (k + 1) = if (eraD l k).1 ≤ h then (k : Int) else lastE l h k := rfl
    generalize eraD l k = x at *
    obtain ⟨f, v⟩ := x
    dsimp only at hrow hs
    by_cases h1 : f ≤ h
    · rw [if_pos h1] at hs
      have hs := Lib.hid hs
      clear hm
      repeat (first | with_reducible apply W.seq | with_reducible apply W.block | with_reducible apply W.skip | with_reducible apply W.exit | with_reducible apply W.ret | with_reducible apply At.seqN | with_reducible apply At.blkN | with_reducible apply At.blkE | with_reducible apply At.blkR | with_reducible apply At.thenX | with_reducible apply At.thenR | with_reducible apply At.blkX rfl | ((with_reducible apply W.ops); (repeat (first | refine WL.opA hΓ (h := ?_) | refine WL.opX hΓ (h := ?_) | refine WL.opY (h := ?_) | refine WL.opZ (h := ?_))); with_reducible apply WL.nil) | refine W.condT (h := ?_) | refine W.condF (h := ?_))
      exact At.roundA (k + 1, (k : Int)) ⟨by dsimp only; omega, hs.out.symm⟩ (by dsimp only; omega)
    · rw [if_neg h1, ← hm] at hs
      have hs := Lib.hid hs
      clear hm
      repeat (first | with_reducible apply W.seq | with_reducible apply W.block | with_reducible apply W.skip | with_reducible apply W.exit | with_reducible apply W.ret | with_reducible apply At.seqN | with_reducible apply At.blkN | with_reducible apply At.blkE | with_reducible apply At.blkR | with_reducible apply At.thenX | with_reducible apply At.thenR | with_reducible apply At.blkX rfl | ((with_reducible apply W.ops); (repeat (first | refine WL.opA hΓ (h := ?_) | refine WL.opX hΓ (h := ?_) | refine WL.opY (h := ?_) | refine WL.opZ (h := ?_))); with_reducible apply WL.nil) | refine W.condT (h := ?_) | refine W.condF (h := ?_))
      exact At.roundA (k + 1, m) ⟨by dsimp only; omega, hs.out.symm⟩ (by dsimp only; omega)
  · have hke : k = l.length := by omega
    subst hke
    have hm := Lib.hid hm
    repeat (first | with_reducible apply W.seq | with_reducible apply W.block | with_reducible apply W.skip | with_reducible apply W.exit | with_reducible apply W.ret | with_reducible apply At.seqN | with_reducible apply At.blkN | with_reducible apply At.blkE | with_reducible apply At.blkR | with_reducible apply At.thenX | with_reducible apply At.thenR | with_reducible apply At.blkX rfl | ((with_reducible apply W.ops); (repeat (first | refine WL.opA hΓ (h := ?_) | refine WL.opX hΓ (h := ?_) | refine WL.opY (h := ?_) | refine WL.opZ (h := ?_))); with_reducible apply WL.nil) | refine W.condT (h := ?_) | refine W.condF (h := ?_))
    refine At.retA (by rw [Try.results31]) (he := ?_)
    first | rfl | rw [hm.out]
theorem lastS_s : Sound Try.prog 29 mLastE := by
  refine Sound.mdl Try.func29 rfl Try.ntmps29 ?_
  rintro ⟨l, h⟩ w hl
  refine ⟨by simp, ?_⟩
  dsimp only at hl
  have hΓ : GSound Try.prog (look []) := env_nil
  have hlen := eraRows_len l
  simp only [initS, argPV, List.map_cons, List.map_nil, toPL, Nat.zero_add]
  repeat (first | with_reducible apply W.seq | with_reducible apply W.block | with_reducible apply W.skip | with_reducible apply W.exit | with_reducible apply W.ret | with_reducible apply At.seqN | with_reducible apply At.blkN | with_reducible apply At.blkE | with_reducible apply At.blkR | with_reducible apply At.thenX | with_reducible apply At.thenR | with_reducible apply At.blkX rfl | ((with_reducible apply W.ops); (repeat (first | refine WL.opA hΓ (h := ?_) | refine WL.opX hΓ (h := ?_) | refine WL.opY (h := ?_) | refine WL.opZ (h := ?_))); with_reducible apply WL.nil) | refine W.condT (h := ?_) | refine W.condF (h := ?_))
  refine W.loopA (fun x : Nat × Int => x.1 ≤ l.length ∧ x.2 = lastE l h x.1) (fun x : Nat × Int => [.slot 6 (vI x.1), .slot 0 (one (.sl (eraRows l))), .slot 5 (vI x.2), .slot 1 (vI h)]) (fun x => l.length - x.1) (0, -1) ⟨Nat.zero_le _, rfl⟩ (h := ?_)
  rintro ⟨k, m⟩ ⟨hk, hm⟩
  dsimp only at hk hm ⊢
  by_cases hlt : k < l.length
  · have hrow := eraD_row hlt
    have hs : lastE l h (k + 1) = if (eraD l k).1 ≤ h then (k : Int) else lastE l h k := rfl
    generalize eraD l k = x at *
    obtain ⟨f, v⟩ := x
    dsimp only at hrow hs
    by_cases h1 : f ≤ h
    · rw [if_pos h1] at hs
      have hs := Lib.hid hs
      clear hm
      repeat (first | with_reducible apply W.seq | with_reducible apply W.block | with_reducible apply W.skip | with_reducible apply W.exit | with_reducible apply W.ret | with_reducible apply At.seqN | with_reducible apply At.blkN | with_reducible apply At.blkE | with_reducible apply At.blkR | with_reducible apply At.thenX | with_reducible apply At.thenR | with_reducible apply At.blkX rfl | ((with_reducible apply W.ops); (repeat (first | refine WL.opA hΓ (h := ?_) | refine WL.opX hΓ (h := ?_) | refine WL.opY (h := ?_) | refine WL.opZ (h := ?_))); with_reducible apply WL.nil) | refine W.condT (h := ?_) | refine W.condF (h := ?_))
      exact At.roundA (k + 1, (k : Int)) ⟨by dsimp only; omega, hs.out.symm⟩ (by dsimp only; omega)
    · rw [if_neg h1, ← hm] at hs
      have hs := Lib.hid hs
      clear hm
      repeat (first | with_reducible apply W.seq | with_reducible apply W.block | with_reducible apply W.skip | with_reducible apply W.exit | with_reducible apply W.ret | with_reducible apply At.seqN | with_reducible apply At.blkN | with_reducible apply At.blkE | with_reducible apply At.blkR | with_reducible apply At.thenX | with_reducible apply At.thenR | with_reducible apply At.blkX rfl | ((with_reducible apply W.ops); (repeat (first | refine WL.opA hΓ (h := ?_) | refine WL.opX hΓ (h := ?_) | refine WL.opY (h := ?_) | refine WL.opZ (h := ?_))); with_reducible apply WL.nil) | refine W.condT (h := ?_) | refine W.condF (h := ?_))
      exact At.roundA (k + 1, m) ⟨by dsimp only; omega, hs.out.symm⟩ (by dsimp only; omega)
  · have hke : k = l.length := by omega
    subst hke
    have hm := Lib.hid hm
    repeat (first | with_reducible apply W.seq | with_reducible apply W.block | with_reducible apply W.skip | with_reducible apply W.exit | with_reducible apply W.ret | with_reducible apply At.seqN | with_reducible apply At.blkN | with_reducible apply At.blkE | with_reducible apply At.blkR | with_reducible apply At.thenX | with_reducible apply At.thenR | with_reducible apply At.blkX rfl | ((with_reducible apply W.ops); (repeat (first | refine WL.opA hΓ (h := ?_) | refine WL.opX hΓ (h := ?_) | refine WL.opY (h := ?_) | refine WL.opZ (h := ?_))); with_reducible apply WL.nil) | refine W.condT (h := ?_) | refine W.condF (h := ?_))
    refine At.retA (by rw [Try.results29]) (he := ?_)
    first | rfl | rw [hm.out]
/-! EraAt -/
def atOk (l : List TEra) (h : Int) : Bool := decide (erasOk l) && decide (0 ≤ lastE l h l.length)
def atV (l : List TEra) (h : Int) : List TVal := (eraD l (lastE l h l.length).toNat).2
abbrev rAt (ok : Bool) (v : List TVal) : Res := match ok with
  | true => .tup [(false, [.own .ft 57 2 (rowsF cVal v)]), (false, [.ro (.sc (.bool true))])]
  | false => .tup [(false, [.ro (.sl [])]), (false, [.ro (.sc (.bool false))])]
abbrev rAs (ok : Bool) (v : List TVal) : Res := .tup [(false, [.own .ft 57 2 (rowsF cVal (if ok = true then v else []))]), (false, [.ro (.sc (.bool ok))])]
noncomputable def mAtI := mdl (fun x : List TEra × Int => okEc x.1) (fun x => [aES x.1, aI x.2]) (fun x => rAt (atOk x.1 x.2) (atV x.1 x.2))
noncomputable def mAtS := mdl (fun x : List TEra × Int => okEc x.1) (fun x => [aES x.1, aI x.2]) (fun x => rAs (atOk x.1 x.2) (atV x.1 x.2))
theorem aEI_inj : ∀ x y : List TEra × Int, [aES x.1, aI x.2] = [aES y.1, aI y.2] → x = y := by
  rintro ⟨a, c⟩ ⟨a', c'⟩ h
  simp at h
  rw [eraRows_inj h.1, h.2]
theorem mAtI_eq (l : List TEra) (h : Int) (hl : okEc l) : mAtI [aES l, aI h] = some (rAt (atOk l h) (atV l h)) := mdl_eq aEI_inj (l, h) hl
theorem mAtS_eq (l : List TEra) (h : Int) (hl : okEc l) : mAtS [aES l, aI h] = some (rAs (atOk l h) (atV l h)) := mdl_eq aEI_inj (l, h) hl
theorem atV_ok {l : List TEra} (h : Int) (hl : okEc l) : (atV l h).length ≤ 1048576 := by
  unfold atV eraD
  rw [List.getD_eq_getElem?_getD]
  by_cases hk : (lastE l h l.length).toNat < l.length
  · rw [List.getElem?_eq_getElem hk]; exact hl.2 _ (List.getElem_mem hk)
  · rw [List.getElem?_eq_none (by omega)]; simp
theorem atI_s : Sound Try.prog 10 mAtI := by
  refine Sound.mdl Try.func10 rfl Try.ntmps10 ?_
  rintro ⟨l, h⟩ w hl
  refine ⟨by simp, ?_⟩
  dsimp only at hl
  have hΓ : GSound Try.prog (look [(31, mLastE), (32, mEras), (33, mCopyV)]) := env_cons (has_of Try.func31 rfl rfl) lastI_s (env_cons (has_of Try.func32 rfl rfl) erasI_s (env_cons (has_of Try.func33 rfl rfl) copyV_s env_nil))
  have hlen := eraRows_len l
  have c1 := mLastE_eq l h hl.1
  have c2 := mEras_eq l hl.es
  have c3 := mCopyV_eq (atV l h) (atV_ok h hl)
  have hb := lastE_le l h l.length
  have hrow : ∀ m : Int, lastE l h l.length = m → 0 ≤ m → (eraRows l)[m.toNat]? = some [.sc (.int .i64 (eraD l m.toNat).1), .sl (rowsF cVal (atV l h))] := fun m hm h0 => by
    rw [eraD_row (by omega)]
    unfold atV
    rw [hm]
  have hok : atOk l h = (decide (erasOk l) && decide (0 ≤ lastE l h l.length)) := rfl
  have hrow := hrow _ rfl
  generalize lastE l h l.length = m at *
  generalize atV l h = v at *
  by_cases h1 : erasOk l
  · rw [decide_eq_true h1, Bool.true_and] at hok
    rw [decide_eq_true h1] at c2
    by_cases h2 : 0 ≤ m
    · rw [decide_eq_true h2] at hok
      replace hrow := hrow h2
      have hn : ¬ m < 0 := by omega
      have hml : m.toNat < l.length := by omega
      clear h1
      rw [hok]
      generalize (eraD l m.toNat).1 = f at hrow
      clear hok
      simp only [initS, argPV, List.map_cons, List.map_nil, toPL, Nat.zero_add]
      repeat (first | with_reducible apply W.seq | with_reducible apply W.block | with_reducible apply W.skip | with_reducible apply W.exit | with_reducible apply W.ret | with_reducible apply At.seqN | with_reducible apply At.blkN | with_reducible apply At.blkE | with_reducible apply At.blkR | with_reducible apply At.thenX | with_reducible apply At.thenR | with_reducible apply At.blkX rfl | ((with_reducible apply W.ops); (repeat (first | refine WL.opA hΓ (h := ?_) | refine WL.opX hΓ (h := ?_) | refine WL.opY (h := ?_) | refine WL.opZ (h := ?_))); with_reducible apply WL.nil) | refine W.condT (h := ?_) | refine W.condF (h := ?_))
      refine At.retA (by rw [Try.results10]) (he := rfl)
    · rw [decide_eq_false h2] at hok
      have hn : m < 0 := by omega
      clear h1 hrow
      rw [hok]
      clear hok
      simp only [initS, argPV, List.map_cons, List.map_nil, toPL, Nat.zero_add]
      repeat (first | with_reducible apply W.seq | with_reducible apply W.block | with_reducible apply W.skip | with_reducible apply W.exit | with_reducible apply W.ret | with_reducible apply At.seqN | with_reducible apply At.blkN | with_reducible apply At.blkE | with_reducible apply At.blkR | with_reducible apply At.thenX | with_reducible apply At.thenR | with_reducible apply At.blkX rfl | ((with_reducible apply W.ops); (repeat (first | refine WL.opA hΓ (h := ?_) | refine WL.opX hΓ (h := ?_) | refine WL.opY (h := ?_) | refine WL.opZ (h := ?_))); with_reducible apply WL.nil) | refine W.condT (h := ?_) | refine W.condF (h := ?_))
      refine At.retA (by rw [Try.results10]) (he := rfl)
  · rw [decide_eq_false h1, Bool.false_and] at hok
    rw [decide_eq_false h1] at c2
    clear h1 hrow
    rw [hok]
    clear hok
    simp only [initS, argPV, List.map_cons, List.map_nil, toPL, Nat.zero_add]
    repeat (first | with_reducible apply W.seq | with_reducible apply W.block | with_reducible apply W.skip | with_reducible apply W.exit | with_reducible apply W.ret | with_reducible apply At.seqN | with_reducible apply At.blkN | with_reducible apply At.blkE | with_reducible apply At.blkR | with_reducible apply At.thenX | with_reducible apply At.thenR | with_reducible apply At.blkX rfl | ((with_reducible apply W.ops); (repeat (first | refine WL.opA hΓ (h := ?_) | refine WL.opX hΓ (h := ?_) | refine WL.opY (h := ?_) | refine WL.opZ (h := ?_))); with_reducible apply WL.nil) | refine W.condT (h := ?_) | refine W.condF (h := ?_))
    refine At.retA (by rw [Try.results10]) (he := rfl)
theorem atS_s : Sound Try.prog 8 mAtS := by
  refine Sound.mdl Try.func8 rfl Try.ntmps8 ?_
  rintro ⟨l, h⟩ w hl
  refine ⟨by simp, ?_⟩
  dsimp only at hl
  have hΓ : GSound Try.prog (look [(29, mLastE), (25, mEras)]) := env_cons (has_of Try.func29 rfl rfl) lastS_s (env_cons (has_of Try.func25 rfl rfl) erasS_s env_nil)
  have hlen := eraRows_len l
  have c1 := mLastE_eq l h hl.1
  have c2 := mEras_eq l hl.es
  have hvl := rowsF_len cVal (atV l h)
  have hvw : wid 2 (rowsF cVal (atV l h)) := rowsF_wid (f := cVal) (s := 2) (fun _ => rfl) _
  have hv := atV_ok h hl
  have hb := lastE_le l h l.length
  have hrow : ∀ m : Int, lastE l h l.length = m → 0 ≤ m → (eraRows l)[m.toNat]? = some [.sc (.int .i64 (eraD l m.toNat).1), .sl (rowsF cVal (atV l h))] := fun m hm h0 => by
    rw [eraD_row (by omega)]
    unfold atV
    rw [hm]
  have hok : atOk l h = (decide (erasOk l) && decide (0 ≤ lastE l h l.length)) := rfl
  have hrow := hrow _ rfl
  generalize lastE l h l.length = m at *
  generalize atV l h = v at *
  by_cases h1 : erasOk l
  · rw [decide_eq_true h1, Bool.true_and] at hok
    rw [decide_eq_true h1] at c2
    by_cases h2 : 0 ≤ m
    · rw [decide_eq_true h2] at hok
      replace hrow := hrow h2
      have hn : ¬ m < 0 := by omega
      have hml : m.toNat < l.length := by omega
      clear h1
      rw [hok]
      generalize (eraD l m.toNat).1 = f at hrow
      clear hok
      simp only [initS, argPV, List.map_cons, List.map_nil, toPL, Nat.zero_add]
      repeat (first | with_reducible apply W.seq | with_reducible apply W.block | with_reducible apply W.skip | with_reducible apply W.exit | with_reducible apply W.ret | with_reducible apply At.seqN | with_reducible apply At.blkN | with_reducible apply At.blkE | with_reducible apply At.blkR | with_reducible apply At.thenX | with_reducible apply At.thenR | with_reducible apply At.blkX rfl | ((with_reducible apply W.ops); (repeat (first | refine WL.opA hΓ (h := ?_) | refine WL.opX hΓ (h := ?_) | refine WL.opY (h := ?_) | refine WL.opZ (h := ?_))); with_reducible apply WL.nil) | refine W.condT (h := ?_) | refine W.condF (h := ?_))
      refine At.retA (by rw [Try.results8]) (he := rfl)
    · rw [decide_eq_false h2] at hok
      have hn : m < 0 := by omega
      clear h1 hrow
      rw [hok]
      clear hok
      simp only [initS, argPV, List.map_cons, List.map_nil, toPL, Nat.zero_add]
      repeat (first | with_reducible apply W.seq | with_reducible apply W.block | with_reducible apply W.skip | with_reducible apply W.exit | with_reducible apply W.ret | with_reducible apply At.seqN | with_reducible apply At.blkN | with_reducible apply At.blkE | with_reducible apply At.blkR | with_reducible apply At.thenX | with_reducible apply At.thenR | with_reducible apply At.blkX rfl | ((with_reducible apply W.ops); (repeat (first | refine WL.opA hΓ (h := ?_) | refine WL.opX hΓ (h := ?_) | refine WL.opY (h := ?_) | refine WL.opZ (h := ?_))); with_reducible apply WL.nil) | refine W.condT (h := ?_) | refine W.condF (h := ?_))
      refine At.retA (by rw [Try.results8]) (he := rfl)
  · rw [decide_eq_false h1, Bool.false_and] at hok
    rw [decide_eq_false h1] at c2
    clear h1 hrow
    rw [hok]
    clear hok
    simp only [initS, argPV, List.map_cons, List.map_nil, toPL, Nat.zero_add]
    repeat (first | with_reducible apply W.seq | with_reducible apply W.block | with_reducible apply W.skip | with_reducible apply W.exit | with_reducible apply W.ret | with_reducible apply At.seqN | with_reducible apply At.blkN | with_reducible apply At.blkE | with_reducible apply At.blkR | with_reducible apply At.thenX | with_reducible apply At.thenR | with_reducible apply At.blkX rfl | ((with_reducible apply W.ops); (repeat (first | refine WL.opA hΓ (h := ?_) | refine WL.opX hΓ (h := ?_) | refine WL.opY (h := ?_) | refine WL.opZ (h := ?_))); with_reducible apply WL.nil) | refine W.condT (h := ?_) | refine W.condF (h := ?_))
    refine At.retA (by rw [Try.results8]) (he := rfl)
end Go.Proofs.Ytimnogjgokljbaa
