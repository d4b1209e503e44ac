/-
  Reading numbers and texts one behind the other: scan of impl, l6Vars and l6Take of spec.
-/
import Derived.Test.YteaohgacgcjkjaaHEvRVar
import Derived.Test.YteaohgacgcjkjaaHEvCu
namespace Go.Proofs.Yteaohgacgcjkjaa
set_option maxRecDepth 100000
set_option linter.unusedVariables false
set_option linter.unusedSimpArgs false
open Go Go.RowKit
set_option maxHeartbeats 4000000

abbrev TSc := ByteArray × Bool
abbrev scL (x : TSc) : List PL := [.sc (.string x.1), .sc (.bool x.2)]
abbrev SoundSc (P : Program) (f : FuncId) {A R : Type} (ok : TSc → A → Prop) (enc : A → List Arg) (F : TSc → A → R × TSc) (res : R → Res) : Prop :=
  SoundC P f (α := TSc × A) (β := R × TSc) (fun x => ok x.1 x.2) (fun x => scL x.1) (fun x => enc x.2) (fun x y => y = F x.1 x.2) (fun _ y => scL y.2) (fun _ y => res y.1)
theorem sc_kept (a b : TSc) : Kept (scL a) (scL b) := by
  intro l hl
  simp only [scL, List.mem_cons, List.not_mem_nil, or_false] at hl
  rcases hl with rfl | rfl
  · exact .inr ⟨_, rfl, rfl⟩
  · exact .inr ⟨_, rfl, rfl⟩
def PSc (w : World) (b : Nat) {R : Type} (z : R × TSc) (res : R → Res) : Ending → World → Prop := fun e w' => ∃ (y : R × TSc) (t' : TypeId), y = z ∧ Post (putO w b (.cells ((scL y.2).map exV).toArray t' (0, 0))) (res y.1) e w'
theorem SoundSc.of {P : Program} {N : Nat} {f : FuncId} {fn : Func} {c : Code} {A R : Type} {ok : TSc → A → Prop} {enc : A → List Arg} {F : TSc → A → R × TSc} {res : R → Res}
    (hf : P.funcs[f]? = some fn) (hb : fn.body = some c) (hN : fn.ntmps = N)
    (h : ∀ (s : TSc) (a : A) b w, ok s a → b < w.heap.size → (enc a).length + 1 ≤ N ∧ W P (own1 b) w N (initC (scL s) (enc a)) c (bodyPost P fn (PSc w b (F s a) res))) : SoundSc P f ok enc F res :=
  SoundC.of hf hb hN (fun _ _ _ _ => sc_kept _ _) fun x b w hok hB => h x.1 x.2 b w hok hB
section
variable {γ0 : Nat → Option Nat} {w0 : World} {N : Nat} {st : St} {Q : Exit → Act → World → Prop}
theorem WL.opSc {ops : Array Oper} {r : List Oper} {d f m : Nat} {x0 : Operand} {xs : List Operand} {ts : Array TypeId} {ty : TypeId} {pos : String} {after : Array Edge}
    {A R : Type} {ok : TSc → A → Prop} {enc : A → List Arg} {F : TSc → A → R × TSc} {res : R → Res} {st1 : St}
    (hf : Has Try.prog f) (hs : SoundSc Try.prog f ok enc F res) (s : TSc) (a : A) (z : R × TSc) (hz : F s a = z) (hok : ok s a) (hN : d < N := by decide)
    (hp : ev st x0 = one (.ptr m 0) := by simp (config := { maxSteps := 1000000 }) (disch := first | assumption | omega) only [TY, datasO, dataO, exactO, exB, ar_u64, binE, eqCells, eqVal, eqOp, step_mk, makeE, List.toList_toArray, Value.oneCell', step_fnv, step_makeFunc, ev_func, callV, cells_agg, cells_int, cells_bool, cells_str, cells_sl, List.size_toArray, flatB_nil, flatB_cons, wid_nil, wid_cons, rowsF_len, rowsF_flat, rowsF_app, step_build, buildE, fillE, indexSlE, indexArrE, shiftE, indexArrV, indexStE, step_move, step_assign, step_pick, step_load, step_nilCheck, step_binOp, step_unOp, step_convert, step_slice, step_fieldAddr, step_field, step_indexAddr, step_index, step_extract, step_len, step_min, step_max, step_alloc, step_box, step_lit, step_app, step_fn, step_store, putV_some, getS_hit, getS_miss, getS_blk, getS_kill, getS_nil, getB_nil, getB_slot, getB_hit, getB_miss, getB_kill0, getB_kill1, ev_tmp, ev_int, ev_bool, ev_str, ev_nil, ev_agg, cl_int, cl_bool, cl_str, cl_nil, loadE, loadV, fieldAddrE, fieldE, partV, indexAddrE, lenE, lenO, strIdx, indexE, boundE, subE, sliceE, convE, minE, scal, nilE, tupE, capsE, optE, pickE, pbin, pint, pstr, pun, ar_in, ar_u32, ar_u8, allocE, boxE, litE, rowsO, leafO, leafsO, frz, clr, rowsOf, destOf, appE, storeE, argO, argsO, boxesO, callG, callE, impE, pvR, pvs, pvRL, pvT, owns, ownsT, ownsR, clrL, withB, PV.kill, PL.kill, PL.names, Blk.kill, PL.live, toPL, resV, resO, compsO, compO, rlsO, rlO, toRes, Leaf.isSc, List.map_cons, List.map_nil, List.all_cons, List.all_nil, List.length_cons, List.length_nil, List.drop_zero, List.drop_succ_cons, List.take_succ_cons, List.take_zero, List.drop_nil, List.take_nil, List.getElem?_cons_zero, List.getElem?_cons_succ, List.getElem?_nil, Option.map_some, Option.map_none, Option.bind_some, Option.isSome_some, Option.isSome_none, List.cons_append, List.nil_append, List.append_nil, if_true, if_false, reduceIte, Nat.reduceLT, Nat.reduceBEq, Nat.reduceLeDiff, Nat.reduceEqDiff, Nat.reduceAdd, Nat.reduceMul, Nat.zero_add, Nat.add_zero, Nat.mul_one, Int.reduceToNat, Bool.and_true, Bool.true_and, Bool.false_and, Bool.and_false, Bool.not_true, Bool.not_false, Bool.false_eq_true, decide_true, decide_false, and_self, and_true, true_and, or_true, true_or, or_false, false_or, if_pos, if_neg, Int.toNat_natCast, decide_eq_true, decide_eq_false, look_hit, look_miss, Int.ofNat_eq_natCast, Bool.or_false, Bool.or_true, Bool.true_or, Bool.false_or, Bool.not_eq_true, beq_self_eq_true, ne_eq, not_false_eq_true, not_true_eq_false, eq_self, *] <;> rfl) (hb : getB st m = some (.box (scL s)) := by simp (config := { maxSteps := 1000000 }) (disch := first | assumption | omega) only [TY, datasO, dataO, exactO, exB, ar_u64, binE, eqCells, eqVal, eqOp, step_mk, makeE, List.toList_toArray, Value.oneCell', step_fnv, step_makeFunc, ev_func, callV, cells_agg, cells_int, cells_bool, cells_str, cells_sl, List.size_toArray, flatB_nil, flatB_cons, wid_nil, wid_cons, rowsF_len, rowsF_flat, rowsF_app, step_build, buildE, fillE, indexSlE, indexArrE, shiftE, indexArrV, indexStE, step_move, step_assign, step_pick, step_load, step_nilCheck, step_binOp, step_unOp, step_convert, step_slice, step_fieldAddr, step_field, step_indexAddr, step_index, step_extract, step_len, step_min, step_max, step_alloc, step_box, step_lit, step_app, step_fn, step_store, putV_some, getS_hit, getS_miss, getS_blk, getS_kill, getS_nil, getB_nil, getB_slot, getB_hit, getB_miss, getB_kill0, getB_kill1, ev_tmp, ev_int, ev_bool, ev_str, ev_nil, ev_agg, cl_int, cl_bool, cl_str, cl_nil, loadE, loadV, fieldAddrE, fieldE, partV, indexAddrE, lenE, lenO, strIdx, indexE, boundE, subE, sliceE, convE, minE, scal, nilE, tupE, capsE, optE, pickE, pbin, pint, pstr, pun, ar_in, ar_u32, ar_u8, allocE, boxE, litE, rowsO, leafO, leafsO, frz, clr, rowsOf, destOf, appE, storeE, argO, argsO, boxesO, callG, callE, impE, pvR, pvs, pvRL, pvT, owns, ownsT, ownsR, clrL, withB, PV.kill, PL.kill, PL.names, Blk.kill, PL.live, toPL, resV, resO, compsO, compO, rlsO, rlO, toRes, Leaf.isSc, List.map_cons, List.map_nil, List.all_cons, List.all_nil, List.length_cons, List.length_nil, List.drop_zero, List.drop_succ_cons, List.take_succ_cons, List.take_zero, List.drop_nil, List.take_nil, List.getElem?_cons_zero, List.getElem?_cons_succ, List.getElem?_nil, Option.map_some, Option.map_none, Option.bind_some, Option.isSome_some, Option.isSome_none, List.cons_append, List.nil_append, List.append_nil, if_true, if_false, reduceIte, Nat.reduceLT, Nat.reduceBEq, Nat.reduceLeDiff, Nat.reduceEqDiff, Nat.reduceAdd, Nat.reduceMul, Nat.zero_add, Nat.add_zero, Nat.mul_one, Int.reduceToNat, Bool.and_true, Bool.true_and, Bool.false_and, Bool.and_false, Bool.not_true, Bool.not_false, Bool.false_eq_true, decide_true, decide_false, and_self, and_true, true_and, or_true, true_or, or_false, false_or, if_pos, if_neg, Int.toNat_natCast, decide_eq_true, decide_eq_false, look_hit, look_miss, Int.ofNat_eq_natCast, Bool.or_false, Bool.or_true, Bool.true_or, Bool.false_or, Bool.not_eq_true, beq_self_eq_true, ne_eq, not_false_eq_true, not_true_eq_false, eq_self, *] <;> rfl) (ha : datasO st m xs = some (enc a) := by simp (config := { maxSteps := 1000000 }) (disch := first | assumption | omega) only [TY, datasO, dataO, exactO, exB, ar_u64, binE, eqCells, eqVal, eqOp, step_mk, makeE, List.toList_toArray, Value.oneCell', step_fnv, step_makeFunc, ev_func, callV, cells_agg, cells_int, cells_bool, cells_str, cells_sl, List.size_toArray, flatB_nil, flatB_cons, wid_nil, wid_cons, rowsF_len, rowsF_flat, rowsF_app, step_build, buildE, fillE, indexSlE, indexArrE, shiftE, indexArrV, indexStE, step_move, step_assign, step_pick, step_load, step_nilCheck, step_binOp, step_unOp, step_convert, step_slice, step_fieldAddr, step_field, step_indexAddr, step_index, step_extract, step_len, step_min, step_max, step_alloc, step_box, step_lit, step_app, step_fn, step_store, putV_some, getS_hit, getS_miss, getS_blk, getS_kill, getS_nil, getB_nil, getB_slot, getB_hit, getB_miss, getB_kill0, getB_kill1, ev_tmp, ev_int, ev_bool, ev_str, ev_nil, ev_agg, cl_int, cl_bool, cl_str, cl_nil, loadE, loadV, fieldAddrE, fieldE, partV, indexAddrE, lenE, lenO, strIdx, indexE, boundE, subE, sliceE, convE, minE, scal, nilE, tupE, capsE, optE, pickE, pbin, pint, pstr, pun, ar_in, ar_u32, ar_u8, allocE, boxE, litE, rowsO, leafO, leafsO, frz, clr, rowsOf, destOf, appE, storeE, argO, argsO, boxesO, callG, callE, impE, pvR, pvs, pvRL, pvT, owns, ownsT, ownsR, clrL, withB, PV.kill, PL.kill, PL.names, Blk.kill, PL.live, toPL, resV, resO, compsO, compO, rlsO, rlO, toRes, Leaf.isSc, List.map_cons, List.map_nil, List.all_cons, List.all_nil, List.length_cons, List.length_nil, List.drop_zero, List.drop_succ_cons, List.take_succ_cons, List.take_zero, List.drop_nil, List.take_nil, List.getElem?_cons_zero, List.getElem?_cons_succ, List.getElem?_nil, Option.map_some, Option.map_none, Option.bind_some, Option.isSome_some, Option.isSome_none, List.cons_append, List.nil_append, List.append_nil, if_true, if_false, reduceIte, Nat.reduceLT, Nat.reduceBEq, Nat.reduceLeDiff, Nat.reduceEqDiff, Nat.reduceAdd, Nat.reduceMul, Nat.zero_add, Nat.add_zero, Nat.mul_one, Int.reduceToNat, Bool.and_true, Bool.true_and, Bool.false_and, Bool.and_false, Bool.not_true, Bool.not_false, Bool.false_eq_true, decide_true, decide_false, and_self, and_true, true_and, or_true, true_or, or_false, false_or, if_pos, if_neg, Int.toNat_natCast, decide_eq_true, decide_eq_false, look_hit, look_miss, Int.ofNat_eq_natCast, Bool.or_false, Bool.or_true, Bool.true_or, Bool.false_or, Bool.not_eq_true, beq_self_eq_true, ne_eq, not_false_eq_true, not_true_eq_false, eq_self, *] <;> rfl)
    (hst : impE (.blk m (.box (scL z.2)) :: st) d (res z.1) = st1 := by simp (config := { maxSteps := 1000000 }) (disch := first | assumption | omega) only [TY, datasO, dataO, exactO, exB, ar_u64, binE, eqCells, eqVal, eqOp, step_mk, makeE, List.toList_toArray, Value.oneCell', step_fnv, step_makeFunc, ev_func, callV, cells_agg, cells_int, cells_bool, cells_str, cells_sl, List.size_toArray, flatB_nil, flatB_cons, wid_nil, wid_cons, rowsF_len, rowsF_flat, rowsF_app, step_build, buildE, fillE, indexSlE, indexArrE, shiftE, indexArrV, indexStE, step_move, step_assign, step_pick, step_load, step_nilCheck, step_binOp, step_unOp, step_convert, step_slice, step_fieldAddr, step_field, step_indexAddr, step_index, step_extract, step_len, step_min, step_max, step_alloc, step_box, step_lit, step_app, step_fn, step_store, putV_some, getS_hit, getS_miss, getS_blk, getS_kill, getS_nil, getB_nil, getB_slot, getB_hit, getB_miss, getB_kill0, getB_kill1, ev_tmp, ev_int, ev_bool, ev_str, ev_nil, ev_agg, cl_int, cl_bool, cl_str, cl_nil, loadE, loadV, fieldAddrE, fieldE, partV, indexAddrE, lenE, lenO, strIdx, indexE, boundE, subE, sliceE, convE, minE, scal, nilE, tupE, capsE, optE, pickE, pbin, pint, pstr, pun, ar_in, ar_u32, ar_u8, allocE, boxE, litE, rowsO, leafO, leafsO, frz, clr, rowsOf, destOf, appE, storeE, argO, argsO, boxesO, callG, callE, impE, pvR, pvs, pvRL, pvT, owns, ownsT, ownsR, clrL, withB, PV.kill, PL.kill, PL.names, Blk.kill, PL.live, toPL, resV, resO, compsO, compO, rlsO, rlO, toRes, Leaf.isSc, List.map_cons, List.map_nil, List.all_cons, List.all_nil, List.length_cons, List.length_nil, List.drop_zero, List.drop_succ_cons, List.take_succ_cons, List.take_zero, List.drop_nil, List.take_nil, List.getElem?_cons_zero, List.getElem?_cons_succ, List.getElem?_nil, Option.map_some, Option.map_none, Option.bind_some, Option.isSome_some, Option.isSome_none, List.cons_append, List.nil_append, List.append_nil, if_true, if_false, reduceIte, Nat.reduceLT, Nat.reduceBEq, Nat.reduceLeDiff, Nat.reduceEqDiff, Nat.reduceAdd, Nat.reduceMul, Nat.zero_add, Nat.add_zero, Nat.mul_one, Int.reduceToNat, Bool.and_true, Bool.true_and, Bool.false_and, Bool.and_false, Bool.not_true, Bool.not_false, Bool.false_eq_true, decide_true, decide_false, and_self, and_true, true_and, or_true, true_or, or_false, false_or, if_pos, if_neg, Int.toNat_natCast, decide_eq_true, decide_eq_false, look_hit, look_miss, Int.ofNat_eq_natCast, Bool.or_false, Bool.or_true, Bool.true_or, Bool.false_or, Bool.not_eq_true, beq_self_eq_true, ne_eq, not_false_eq_true, not_true_eq_false, eq_self, *] <;> rfl)
    (h : WL Try.prog γ0 w0 N ops r st1 Q) :
    WL Try.prog γ0 w0 N ops (⟨some d, .call ⟨.value (.func f), (x0 :: xs).toArray, ts⟩, ty, pos, after, none⟩ :: r) st Q :=
  WL.opC hf hs (s, a) hok hN hp hb rfl ha fun y hy => by
    have hy : y = F s a := hy
    rw [hz] at hy
    subst hy
    rw [hst]
    exact h
theorem At.retSc {b : Nat} {fn : Func} {R : Type} {res : R → Res} {z : R × TSc} {l : List ResultVar} {ls : List PL} {r' : Res} (hl : fn.results.toList = l) (hB : b < w0.heap.size) (hN : N ≤ 999 := by decide)
    (hb : getB st 999 = some (.box ls) := by simp (config := { maxSteps := 1000000 }) (disch := first | assumption | omega) only [TY, datasO, dataO, exactO, exB, ar_u64, binE, eqCells, eqVal, eqOp, step_mk, makeE, List.toList_toArray, Value.oneCell', step_fnv, step_makeFunc, ev_func, callV, cells_agg, cells_int, cells_bool, cells_str, cells_sl, List.size_toArray, flatB_nil, flatB_cons, wid_nil, wid_cons, rowsF_len, rowsF_flat, rowsF_app, step_build, buildE, fillE, indexSlE, indexArrE, shiftE, indexArrV, indexStE, step_move, step_assign, step_pick, step_load, step_nilCheck, step_binOp, step_unOp, step_convert, step_slice, step_fieldAddr, step_field, step_indexAddr, step_index, step_extract, step_len, step_min, step_max, step_alloc, step_box, step_lit, step_app, step_fn, step_store, putV_some, getS_hit, getS_miss, getS_blk, getS_kill, getS_nil, getB_nil, getB_slot, getB_hit, getB_miss, getB_kill0, getB_kill1, ev_tmp, ev_int, ev_bool, ev_str, ev_nil, ev_agg, cl_int, cl_bool, cl_str, cl_nil, loadE, loadV, fieldAddrE, fieldE, partV, indexAddrE, lenE, lenO, strIdx, indexE, boundE, subE, sliceE, convE, minE, scal, nilE, tupE, capsE, optE, pickE, pbin, pint, pstr, pun, ar_in, ar_u32, ar_u8, allocE, boxE, litE, rowsO, leafO, leafsO, frz, clr, rowsOf, destOf, appE, storeE, argO, argsO, boxesO, callG, callE, impE, pvR, pvs, pvRL, pvT, owns, ownsT, ownsR, clrL, withB, PV.kill, PL.kill, PL.names, Blk.kill, PL.live, toPL, resV, resO, compsO, compO, rlsO, rlO, toRes, Leaf.isSc, List.map_cons, List.map_nil, List.all_cons, List.all_nil, List.length_cons, List.length_nil, List.drop_zero, List.drop_succ_cons, List.take_succ_cons, List.take_zero, List.drop_nil, List.take_nil, List.getElem?_cons_zero, List.getElem?_cons_succ, List.getElem?_nil, Option.map_some, Option.map_none, Option.bind_some, Option.isSome_some, Option.isSome_none, List.cons_append, List.nil_append, List.append_nil, if_true, if_false, reduceIte, Nat.reduceLT, Nat.reduceBEq, Nat.reduceLeDiff, Nat.reduceEqDiff, Nat.reduceAdd, Nat.reduceMul, Nat.zero_add, Nat.add_zero, Nat.mul_one, Int.reduceToNat, Bool.and_true, Bool.true_and, Bool.false_and, Bool.and_false, Bool.not_true, Bool.not_false, Bool.false_eq_true, decide_true, decide_false, and_self, and_true, true_and, or_true, true_or, or_false, false_or, if_pos, if_neg, Int.toNat_natCast, decide_eq_true, decide_eq_false, look_hit, look_miss, Int.ofNat_eq_natCast, Bool.or_false, Bool.or_true, Bool.true_or, Bool.false_or, Bool.not_eq_true, beq_self_eq_true, ne_eq, not_false_eq_true, not_true_eq_false, eq_self, *] <;> rfl) (hr : resO Try.prog (.kill 999 :: st) l = some r' := by simp only [resO, compsO, resV]; simp (config := { maxSteps := 1000000 }) (disch := first | assumption | omega) only [TY, ar_u64, binE, eqCells, eqVal, eqOp, step_mk, makeE, List.toList_toArray, Value.oneCell', step_fnv, step_makeFunc, ev_func, callV, cells_agg, cells_int, cells_bool, cells_str, cells_sl, List.size_toArray, flatB_nil, flatB_cons, wid_nil, wid_cons, rowsF_len, rowsF_flat, rowsF_app, step_build, buildE, fillE, indexSlE, indexArrE, shiftE, indexArrV, indexStE, step_move, step_assign, step_pick, step_load, step_nilCheck, step_binOp, step_unOp, step_convert, step_slice, step_fieldAddr, step_field, step_indexAddr, step_index, step_extract, step_len, step_min, step_max, step_alloc, step_box, step_lit, step_app, step_fn, step_store, putV_some, getS_hit, getS_miss, getS_blk, getS_kill, getS_nil, getB_nil, getB_slot, getB_hit, getB_miss, getB_kill0, getB_kill1, ev_tmp, ev_int, ev_bool, ev_str, ev_nil, ev_agg, cl_int, cl_bool, cl_str, cl_nil, loadE, loadV, fieldAddrE, fieldE, partV, indexAddrE, lenE, lenO, strIdx, indexE, boundE, subE, sliceE, convE, minE, scal, nilE, tupE, capsE, optE, pickE, pbin, pint, pstr, pun, ar_in, ar_u32, ar_u8, allocE, boxE, litE, rowsO, leafO, leafsO, frz, clr, rowsOf, destOf, appE, storeE, argO, argsO, boxesO, callG, callE, impE, pvR, pvs, pvRL, pvT, owns, ownsT, ownsR, clrL, withB, PV.kill, PL.kill, PL.names, Blk.kill, PL.live, toPL, resV, resO, compsO, compO, rlsO, rlO, toRes, Leaf.isSc, List.map_cons, List.map_nil, List.all_cons, List.all_nil, List.length_cons, List.length_nil, List.drop_zero, List.drop_succ_cons, List.take_succ_cons, List.take_zero, List.drop_nil, List.take_nil, List.getElem?_cons_zero, List.getElem?_cons_succ, List.getElem?_nil, Option.map_some, Option.map_none, Option.bind_some, Option.isSome_some, Option.isSome_none, List.cons_append, List.nil_append, List.append_nil, if_true, if_false, reduceIte, Nat.reduceLT, Nat.reduceBEq, Nat.reduceLeDiff, Nat.reduceEqDiff, Nat.reduceAdd, Nat.reduceMul, Nat.zero_add, Nat.add_zero, Nat.mul_one, Int.reduceToNat, Bool.and_true, Bool.true_and, Bool.false_and, Bool.and_false, Bool.not_true, Bool.not_false, Bool.false_eq_true, decide_true, decide_false, and_self, and_true, true_and, or_true, true_or, or_false, false_or, if_pos, if_neg, Int.toNat_natCast, decide_eq_true, decide_eq_false, look_hit, look_miss, Int.ofNat_eq_natCast, Bool.or_false, Bool.or_true, Bool.true_or, Bool.false_or, Bool.not_eq_true, beq_self_eq_true, ne_eq, not_false_eq_true, not_true_eq_false, eq_self, *] <;> rfl) (hL : apart (ownC Try.prog (.kill 999 :: st) 0 l) = true := by simp only [ownC, resV]; simp (config := { maxSteps := 1000000 }) (disch := first | assumption | omega) only [TY, ar_u64, binE, eqCells, eqVal, eqOp, step_mk, makeE, List.toList_toArray, Value.oneCell', step_fnv, step_makeFunc, ev_func, callV, cells_agg, cells_int, cells_bool, cells_str, cells_sl, List.size_toArray, flatB_nil, flatB_cons, wid_nil, wid_cons, rowsF_len, rowsF_flat, rowsF_app, step_build, buildE, fillE, indexSlE, indexArrE, shiftE, indexArrV, indexStE, step_move, step_assign, step_pick, step_load, step_nilCheck, step_binOp, step_unOp, step_convert, step_slice, step_fieldAddr, step_field, step_indexAddr, step_index, step_extract, step_len, step_min, step_max, step_alloc, step_box, step_lit, step_app, step_fn, step_store, putV_some, getS_hit, getS_miss, getS_blk, getS_kill, getS_nil, getB_nil, getB_slot, getB_hit, getB_miss, getB_kill0, getB_kill1, ev_tmp, ev_int, ev_bool, ev_str, ev_nil, ev_agg, cl_int, cl_bool, cl_str, cl_nil, loadE, loadV, fieldAddrE, fieldE, partV, indexAddrE, lenE, lenO, strIdx, indexE, boundE, subE, sliceE, convE, minE, scal, nilE, tupE, capsE, optE, pickE, pbin, pint, pstr, pun, ar_in, ar_u32, ar_u8, allocE, boxE, litE, rowsO, leafO, leafsO, frz, clr, rowsOf, destOf, appE, storeE, argO, argsO, boxesO, callG, callE, impE, pvR, pvs, pvRL, pvT, owns, ownsT, ownsR, clrL, withB, PV.kill, PL.kill, PL.names, Blk.kill, PL.live, toPL, resV, resO, compsO, compO, rlsO, rlO, toRes, Leaf.isSc, List.map_cons, List.map_nil, List.all_cons, List.all_nil, List.length_cons, List.length_nil, List.drop_zero, List.drop_succ_cons, List.take_succ_cons, List.take_zero, List.drop_nil, List.take_nil, List.getElem?_cons_zero, List.getElem?_cons_succ, List.getElem?_nil, Option.map_some, Option.map_none, Option.bind_some, Option.isSome_some, Option.isSome_none, List.cons_append, List.nil_append, List.append_nil, if_true, if_false, reduceIte, Nat.reduceLT, Nat.reduceBEq, Nat.reduceLeDiff, Nat.reduceEqDiff, Nat.reduceAdd, Nat.reduceMul, Nat.zero_add, Nat.add_zero, Nat.mul_one, Int.reduceToNat, Bool.and_true, Bool.true_and, Bool.false_and, Bool.and_false, Bool.not_true, Bool.not_false, Bool.false_eq_true, decide_true, decide_false, and_self, and_true, true_and, or_true, true_or, or_false, false_or, if_pos, if_neg, Int.toNat_natCast, decide_eq_true, decide_eq_false, look_hit, look_miss, Int.ofNat_eq_natCast, Bool.or_false, Bool.or_true, Bool.true_or, Bool.false_or, Bool.not_eq_true, beq_self_eq_true, ne_eq, not_false_eq_true, not_true_eq_false, eq_self, *] <;> rfl)
    (hls : ls = scL z.2) (he : r' = res z.1) :
    At (own1 b) w0 N st .ret (bodyPost Try.prog fn (PSc w0 b z res)) := by
  subst hl
  exact At.retC (α := Unit) (β := R × TSc) (rel := fun _ y => y = z) (us' := fun _ y => scL y.2) (res := fun _ y => res y.1) (x := ()) z rfl hN hB (hb.trans (by rw [hls])) rfl (he ▸ hr) hL
end
def numF (x : TSc) : Nat × TSc := if x.2 = true ∨ (rv x.1).2 = 0 then (0, x.1, true) else ((rv x.1).1, x.1.extract (rv x.1).2 x.1.size, false)
theorem numF_bad {x : TSc} (h : x.2 = true ∨ (rv x.1).2 = 0) : numF x = (0, x.1, true) := if_pos h
theorem numF_ok {s : ByteArray} (h : ¬ (rv s).2 = 0) : numF (s, false) = ((rv s).1, s.extract (rv s).2 s.size, false) := if_neg (fun e => by rcases e with e | e; cases e; exact h e)
theorem numF_lt (x : TSc) : (numF x).1 < 562949953421312 := by
  unfold numF
  split
  · simp
  · exact (rv_bnd x.1).1
theorem numF_size (x : TSc) : (numF x).2.1.size ≤ x.1.size := by
  unfold numF
  split
  · exact Nat.le_refl _
  · dsimp only
    rw [ByteArray.size_extract]
    omega
def cutF (x : TSc) (n : Int) : ByteArray × TSc := if x.2 = true ∨ ¬ (0 ≤ n ∧ n ≤ x.1.size) then (ByteArray.empty, x.1, true) else (x.1.extract 0 n.toNat, x.1.extract n.toNat x.1.size, false)
theorem cutF_bad {x : TSc} {n : Int} (h : x.2 = true ∨ ¬ (0 ≤ n ∧ n ≤ x.1.size)) : cutF x n = (ByteArray.empty, x.1, true) := if_pos h
theorem cutF_ok {s : ByteArray} {n : Nat} (h : n ≤ s.size) : cutF (s, false) n = (s.extract 0 n, s.extract n s.size, false) := if_neg (fun e => by
  rcases e with e | e
  · cases e
  · exact e ⟨by omega, by dsimp only; omega⟩)
theorem cutF_size (x : TSc) (n : Int) : (cutF x n).2.1.size ≤ x.1.size ∧ (cutF x n).1.size ≤ x.1.size := by
  unfold cutF
  split
  · exact ⟨Nat.le_refl _, by simp⟩
  · dsimp only
    rw [ByteArray.size_extract, ByteArray.size_extract]
    omega
def textF (x : TSc) : ByteArray × TSc := cutF (numF x).2 (numF x).1
theorem textF_size (x : TSc) : (textF x).2.1.size ≤ x.1.size ∧ (textF x).1.size ≤ x.1.size := by
  have h1 := numF_size x
  have h2 := cutF_size (numF x).2 (numF x).1
  unfold textF
  omega
abbrev okSc (x : TSc) : Prop := x.1.size ≤ 9223372036854775807
theorem num_s : SoundSc Try.prog 56 (fun s (_ : Unit) => okSc s) (fun _ => []) (fun s _ => numF s) (fun n => rI (n : Int)) := by
  refine SoundSc.of Try.func56 rfl Try.ntmps56 ?_
  rintro ⟨s, bad⟩ - b w hs hB
  replace hs : s.size ≤ 9223372036854775807 := hs
  refine ⟨by simp, ?_⟩
  simp only [initC]
  have hΓ : GSound Try.prog (look [(83, mRV)]) := env_cons (has_of Try.func83 rfl rfl) readVarI_s env_nil
  have c1 := mRV_eq s hs
  obtain ⟨b1, b2, b3⟩ := rv_bnd s
  simp only [initS, argPV, List.map_cons, List.map_nil, toPL, Nat.zero_add]
  cases bad with
  | true =>
    have hv := numF_bad (x := (s, true)) (.inl rfl)
    generalize rv s = r at c1 b1 b2 b3
    obtain ⟨r1, r2⟩ := r
    dsimp only at c1 b1 b2 b3
    repeat (first | with_reducible (first | apply W.seq | apply W.block | apply W.skip | apply W.exit | apply W.ret | apply At.seqN | apply At.blkN | apply At.blkE | apply At.blkR | apply At.thenX | apply At.thenR | apply At.blkX rfl) | ((with_reducible apply W.ops); (repeat (first | refine WL.opA hΓ (h := ?_) | refine WL.opX hΓ (h := ?_) | refine WL.opY (h := ?_) | refine WL.opZ (h := ?_))); with_reducible apply WL.nil) | refine W.condT (h := ?_) | refine W.condF (h := ?_))
    refine At.retSc (by rw [Try.results56]) hB (hls := ?_) (he := ?_)
    · rw [hv]
    · rw [hv]; rfl
  | false =>
    by_cases hk : (rv s).2 = 0
    · have hv := numF_bad (x := (s, false)) (.inr hk)
      generalize rv s = r at c1 b1 b2 b3 hk
      obtain ⟨r1, r2⟩ := r
      dsimp only at c1 b1 b2 b3 hk
      subst hk
      repeat (first | with_reducible (first | apply W.seq | apply W.block | apply W.skip | apply W.exit | apply W.ret | apply At.seqN | apply At.blkN | apply At.blkE | apply At.blkR | apply At.thenX | apply At.thenR | apply At.blkX rfl) | ((with_reducible apply W.ops); (repeat (first | refine WL.opA hΓ (h := ?_) | refine WL.opX hΓ (h := ?_) | refine WL.opY (h := ?_) | refine WL.opZ (h := ?_))); with_reducible apply WL.nil) | refine W.condT (h := ?_) | refine W.condF (h := ?_))
      refine At.retSc (by rw [Try.results56]) hB (hls := ?_) (he := ?_)
      · rw [hv]
      · rw [hv]; rfl
    · have hv := numF_ok hk
      generalize rv s = r at c1 b1 b2 b3 hk hv
      obtain ⟨r1, r2⟩ := r
      dsimp only at c1 b1 b2 b3 hk hv
      have hz : decide ((r2 : Int) = 0) = false := decide_eq_false (by omega)
      repeat (first | with_reducible (first | apply W.seq | apply W.block | apply W.skip | apply W.exit | apply W.ret | apply At.seqN | apply At.blkN | apply At.blkE | apply At.blkR | apply At.thenX | apply At.thenR | apply At.blkX rfl) | ((with_reducible apply W.ops); (repeat (first | refine WL.opA hΓ (h := ?_) | refine WL.opX hΓ (h := ?_) | refine WL.opY (h := ?_) | refine WL.opZ (h := ?_))); with_reducible apply WL.nil) | refine W.condT (h := ?_) | refine W.condF (h := ?_))
      refine At.retSc (by rw [Try.results56]) hB (hls := ?_) (he := ?_)
      · rw [hv]
      · rw [hv]
theorem cutN_s : SoundSc Try.prog 98 (fun s (n : Int) => okSc s ∧ inI64 n) (fun n => [aI n]) cutF rS := by
  refine SoundSc.of Try.func98 rfl Try.ntmps98 ?_
  rintro ⟨s, bad⟩ n b w ⟨hs, hn⟩ hB
  replace hs : s.size ≤ 9223372036854775807 := hs
  refine ⟨by simp, ?_⟩
  simp only [initC]
  have hΓ : GSound Try.prog (look [(77, mWithin)]) := env_cons (has_of Try.func77 rfl rfl) within_s env_nil
  have c1 := mWithin_eq n 0 s.size
  have hem : (⟨#[]⟩ : ByteArray) = ByteArray.empty := rfl
  simp only [initS, argPV, List.map_cons, List.map_nil, toPL, Nat.zero_add]
  cases bad with
  | true =>
    have hv := cutF_bad (x := (s, true)) (n := n) (.inl rfl)
    repeat (first | with_reducible (first | apply W.seq | apply W.block | apply W.skip | apply W.exit | apply W.ret | apply At.seqN | apply At.blkN | apply At.blkE | apply At.blkR | apply At.thenX | apply At.thenR | apply At.blkX rfl) | ((with_reducible apply W.ops); (repeat (first | refine WL.opA hΓ (h := ?_) | refine WL.opX hΓ (h := ?_) | refine WL.opY (h := ?_) | refine WL.opZ (h := ?_))); with_reducible apply WL.nil) | refine W.condT (h := ?_) | refine W.condF (h := ?_))
    refine At.retSc (by rw [Try.results98]) hB (hls := ?_) (he := ?_)
    · rw [hv]
    · rw [hv]
  | false =>
    by_cases hk : 0 ≤ n ∧ n ≤ s.size
    · rw [decide_eq_true hk] at c1
      obtain ⟨n, rfl⟩ := Int.eq_ofNat_of_zero_le hk.1
      have hle : n ≤ s.size := by omega
      have hv := cutF_ok hle
      clear hk hem
      repeat (first | with_reducible (first | apply W.seq | apply W.block | apply W.skip | apply W.exit | apply W.ret | apply At.seqN | apply At.blkN | apply At.blkE | apply At.blkR | apply At.thenX | apply At.thenR | apply At.blkX rfl) | ((with_reducible apply W.ops); (repeat (first | refine WL.opA hΓ (h := ?_) | refine WL.opX hΓ (h := ?_) | refine WL.opY (h := ?_) | refine WL.opZ (h := ?_))); with_reducible apply WL.nil) | refine W.condT (h := ?_) | refine W.condF (h := ?_))
      refine At.retSc (by rw [Try.results98]) hB (hls := ?_) (he := ?_)
      · rw [hv]
      · rw [hv]
    · have hv := cutF_bad (x := (s, false)) (n := n) (.inr hk)
      rw [decide_eq_false hk] at c1
      clear hk
      repeat (first | with_reducible (first | apply W.seq | apply W.block | apply W.skip | apply W.exit | apply W.ret | apply At.seqN | apply At.blkN | apply At.blkE | apply At.blkR | apply At.thenX | apply At.thenR | apply At.blkX rfl) | ((with_reducible apply W.ops); (repeat (first | refine WL.opA hΓ (h := ?_) | refine WL.opX hΓ (h := ?_) | refine WL.opY (h := ?_) | refine WL.opZ (h := ?_))); with_reducible apply WL.nil) | refine W.condT (h := ?_) | refine W.condF (h := ?_))
      refine At.retSc (by rw [Try.results98]) hB (hls := ?_) (he := ?_)
      · rw [hv]
      · rw [hv]
theorem textN_s : SoundSc Try.prog 84 (fun s (_ : Unit) => okSc s) (fun _ => []) (fun s _ => textF s) rS := by
  refine SoundSc.of Try.func84 rfl Try.ntmps84 ?_
  rintro ⟨s, bad⟩ - b w hs hB
  refine ⟨by simp, ?_⟩
  simp only [initC]
  have hΓ : GSound Try.prog (look []) := env_nil
  have hNu : Has Try.prog 56 := has_of Try.func56 rfl rfl
  have hCu : Has Try.prog 98 := has_of Try.func98 rfl rfl
  have hv : textF (s, bad) = cutF (numF (s, bad)).2 (numF (s, bad)).1 := rfl
  have h1 := numF_size (s, bad)
  have h2 := numF_lt (s, bad)
  generalize hz : numF (s, bad) = z at hv h1 h2
  obtain ⟨n, s1, bad1⟩ := z
  dsimp only at hv h1 h2
  have hs1 : okSc (s1, bad1) := Nat.le_trans h1 hs
  simp only [initS, argPV, List.map_cons, List.map_nil, toPL, Nat.zero_add]
  repeat (first | with_reducible (first | apply W.seq | apply W.block | apply W.skip | apply W.exit | apply W.ret | apply At.seqN | apply At.blkN | apply At.blkE | apply At.blkR | apply At.thenX | apply At.thenR | apply At.blkX rfl) | ((with_reducible apply W.ops); (repeat (first | refine WL.opA hΓ (h := ?_) | refine WL.opX hΓ (h := ?_) | refine WL.opY (h := ?_) | refine WL.opZ (h := ?_))); with_reducible apply WL.nil) | refine W.condT (h := ?_) | refine W.condF (h := ?_))
  with_reducible apply W.ops
  repeat (first | refine WL.opA hΓ (h := ?_) | refine WL.opX hΓ (h := ?_) | refine WL.opY (h := ?_) | refine WL.opZ (h := ?_))
  refine WL.opSc hNu num_s (s, bad) () (n, s1, bad1) hz hs (h := ?_)
  (repeat (first | refine WL.opA hΓ (h := ?_) | refine WL.opX hΓ (h := ?_) | refine WL.opY (h := ?_) | refine WL.opZ (h := ?_)))
  with_reducible apply WL.nil
  generalize hz2 : cutF (s1, bad1) n = z2 at hv
  obtain ⟨t, s2, bad2⟩ := z2
  repeat (first | with_reducible (first | apply W.seq | apply W.block | apply W.skip | apply W.exit | apply W.ret | apply At.seqN | apply At.blkN | apply At.blkE | apply At.blkR | apply At.thenX | apply At.thenR | apply At.blkX rfl) | ((with_reducible apply W.ops); (repeat (first | refine WL.opA hΓ (h := ?_) | refine WL.opX hΓ (h := ?_) | refine WL.opY (h := ?_) | refine WL.opZ (h := ?_))); with_reducible apply WL.nil) | refine W.condT (h := ?_) | refine W.condF (h := ?_))
  with_reducible apply W.ops
  repeat (first | refine WL.opA hΓ (h := ?_) | refine WL.opX hΓ (h := ?_) | refine WL.opY (h := ?_) | refine WL.opZ (h := ?_))
  refine WL.opSc hCu cutN_s (s1, bad1) (n : Int) (t, s2, bad2) hz2 ⟨hs1, by unfold inI64; omega⟩ (h := ?_)
  (repeat (first | refine WL.opA hΓ (h := ?_) | refine WL.opX hΓ (h := ?_) | refine WL.opY (h := ?_) | refine WL.opZ (h := ?_)))
  with_reducible apply WL.nil
  repeat (first | with_reducible (first | apply W.seq | apply W.block | apply W.skip | apply W.exit | apply W.ret | apply At.seqN | apply At.blkN | apply At.blkE | apply At.blkR | apply At.thenX | apply At.thenR | apply At.blkX rfl) | ((with_reducible apply W.ops); (repeat (first | refine WL.opA hΓ (h := ?_) | refine WL.opX hΓ (h := ?_) | refine WL.opY (h := ?_) | refine WL.opZ (h := ?_))); with_reducible apply WL.nil) | refine W.condT (h := ?_) | refine W.condF (h := ?_))
  refine At.retSc (by rw [Try.results84]) hB (hls := ?_) (he := ?_)
  · rw [hv]
  · rw [hv]
/-- n numbers from a place on, and the place behind them (-1: one is none) -/
def varsF (s : ByteArray) : Nat → Int → List Int × Int
  | 0, at' => ([], at')
  | n + 1, at' => if at' < 0 ∨ s.size < at' then ([], -1) else if (rv (s.extract at'.toNat s.size)).2 = 0 then ([], -1) else
      (((rv (s.extract at'.toNat s.size)).1 : Int) :: (varsF s n (at' + (rv (s.extract at'.toNat s.size)).2)).1, (varsF s n (at' + (rv (s.extract at'.toNat s.size)).2)).2)
theorem varsF_out {s : ByteArray} {n : Nat} {at' : Int} (h : at' < 0 ∨ s.size < at') : varsF s (n + 1) at' = ([], -1) := by rw [varsF, if_pos h]
theorem varsF_bad {s : ByteArray} {n p : Nat} (h : p ≤ s.size) (h0 : (rv (s.extract p s.size)).2 = 0) : varsF s (n + 1) p = ([], -1) := by
  rw [varsF, if_neg (by omega), Int.toNat_natCast, if_pos h0]
theorem varsF_ok {s : ByteArray} {n p : Nat} (h : p ≤ s.size) (h0 : ¬ (rv (s.extract p s.size)).2 = 0) : varsF s (n + 1) p = (((rv (s.extract p s.size)).1 : Int) :: (varsF s n ((p + (rv (s.extract p s.size)).2 : Nat) : Int)).1, (varsF s n ((p + (rv (s.extract p s.size)).2 : Nat) : Int)).2) := by
  rw [varsF, if_neg (by omega), Int.toNat_natCast, if_neg h0]
  simp
theorem varsF_len (s : ByteArray) : ∀ n at', (varsF s n at').1.length ≤ n
  | 0, _ => by simp [varsF]
  | n + 1, at' => by
    rw [varsF]
    split
    · simp
    · split
      · simp
      · have := varsF_len s n (at' + (rv (s.extract at'.toNat s.size)).2)
        simp only [List.length_cons]
        omega
abbrev okV (x : ByteArray × Int × Nat) : Prop := x.1.size ≤ 1099511627776 ∧ (-1 ≤ x.2.1 ∧ x.2.1 ≤ 1099511627776) ∧ x.2.2 ≤ 1000
abbrev encV (x : ByteArray × Int × Nat) : List Arg := [aS x.1, aI x.2.1, aI (x.2.2 : Int)]
abbrev rVars (x : List Int × Int) : Res := .tup [(false, [.own true 3 1 (rowsF cInt x.1)]), (false, [.ro (.sc (.int .i64 x.2))])]
theorem encV_inj : ∀ x y, encV x = encV y → x = y := by
  rintro ⟨a, b, c⟩ ⟨a', b', c'⟩ h
  simp [encV] at h
  obtain ⟨rfl, rfl, h3⟩ := h
  have : c = c' := by omega
  rw [this]
noncomputable def mVars := mdl okV encV (fun x => rVars (varsF x.1 x.2.2 x.2.1))
theorem mVars_eq (s : ByteArray) (a : Int) (n : Nat) (h : okV (s, a, n)) : mVars [aS s, aI a, aI (n : Int)] = some (rVars (varsF s n a)) := mdl_eq encV_inj (s, a, n) h
theorem cInt_appT (l : List Int) (x : Int) : rowsF cInt l ++ [[Leaf.sc (.int .i64 x)]] = rowsF cInt (l ++ [x]) := by rw [← rowsF_app]; rfl
theorem l6Vars_s : Sound Try.prog 53 mVars := by
  refine Sound.mdl Try.func53 rfl Try.ntmps53 ?_
  rintro ⟨s, p0, n⟩ w ⟨hs, ⟨hp1, hp2⟩, hn⟩
  refine ⟨by simp, ?_⟩
  dsimp only at hs hp1 hp2 hn
  have hΓ : GSound Try.prog (look [(81, mRV)]) := env_cons (has_of Try.func81 rfl rfl) readVarS_s env_nil
  have hnil : rowsF cInt [] = [] := rfl
  simp only [initS, argPV, List.map_cons, List.map_nil, toPL, Nat.zero_add]
  repeat (first | with_reducible (first | apply W.seq | apply W.block | apply W.skip | apply W.exit | apply W.ret | apply At.seqN | apply At.blkN | apply At.blkE | apply At.blkR | apply At.thenX | apply At.thenR | apply At.blkX rfl) | ((with_reducible apply W.ops); (repeat (first | refine WL.opA hΓ (h := ?_) | refine WL.opX hΓ (h := ?_) | refine WL.opY (h := ?_) | refine WL.opZ (h := ?_))); with_reducible apply WL.nil) | refine W.condT (h := ?_) | refine W.condF (h := ?_))
  refine W.loopA (fun x : List Int × Nat × Int => (x.2.1 ≤ n ∧ x.1.length = x.2.1 ∧ -1 ≤ x.2.2 ∧ x.2.2 ≤ 1099511627776 + 7 * x.2.1) ∧ (x.1 ++ (varsF s (n - x.2.1) x.2.2).1, (varsF s (n - x.2.1) x.2.2).2) = varsF s n p0) (fun x => [.slot 0 (vS s), .slot 1 (vI x.2.2), .slot 2 (vI n), .slot 8 (one (.all 12)), .blk 12 (.arr true 3 1 (rowsF cInt x.1)), .slot 9 (vI x.2.1)]) (fun x => n - x.2.1) ([], 0, p0) ⟨⟨by dsimp only; omega, rfl, hp1, by dsimp only; omega⟩, rfl⟩ (h := ?_)
  rintro ⟨l, i, p⟩ ⟨⟨hi, hl, hq1, hq2⟩, hI⟩
  dsimp only at hi hl hq1 hq2 hI ⊢
  by_cases hlt : i < n
  · obtain ⟨m, hm⟩ : ∃ m, n - i = m + 1 := ⟨n - i - 1, by omega⟩
    rw [hm] at hI
    by_cases ho : p < 0 ∨ s.size < p
    · rw [varsF_out ho, List.append_nil] at hI
      by_cases h0 : p < 0
      · clear hnil hm
        repeat (first | with_reducible (first | apply W.seq | apply W.block | apply W.skip | apply W.exit | apply W.ret | apply At.seqN | apply At.blkN | apply At.blkE | apply At.blkR | apply At.thenX | apply At.thenR | apply At.blkX rfl) | ((with_reducible apply W.ops); (repeat (first | refine WL.opA hΓ (h := ?_) | refine WL.opX hΓ (h := ?_) | refine WL.opY (h := ?_) | refine WL.opZ (h := ?_))); with_reducible apply WL.nil) | refine W.condT (h := ?_) | refine W.condF (h := ?_))
        refine At.retA (by rw [Try.results53]) (he := ?_)
        rw [← hI]
      · have h1 : (s.size : Int) < p := by omega
        clear hnil hm ho
        repeat (first | with_reducible (first | apply W.seq | apply W.block | apply W.skip | apply W.exit | apply W.ret | apply At.seqN | apply At.blkN | apply At.blkE | apply At.blkR | apply At.thenX | apply At.thenR | apply At.blkX rfl) | ((with_reducible apply W.ops); (repeat (first | refine WL.opA hΓ (h := ?_) | refine WL.opX hΓ (h := ?_) | refine WL.opY (h := ?_) | refine WL.opZ (h := ?_))); with_reducible apply WL.nil) | refine W.condT (h := ?_) | refine W.condF (h := ?_))
        refine At.retA (by rw [Try.results53]) (he := ?_)
        rw [← hI]
    · obtain ⟨p, rfl⟩ := Int.eq_ofNat_of_zero_le (show 0 ≤ p by omega)
      have hps : p ≤ s.size := by omega
      have hz : (s.extract p s.size).size = s.size - p := by rw [ByteArray.size_extract]; omega
      have c1 := mRV_eq (s.extract p s.size) (by omega)
      obtain ⟨b1, b2, b3⟩ := rv_bnd (s.extract p s.size)
      by_cases hk : (rv (s.extract p s.size)).2 = 0
      · rw [varsF_bad hps hk, List.append_nil] at hI
        generalize rv (s.extract p s.size) = r at c1 b1 b2 b3 hk
        obtain ⟨r1, r2⟩ := r
        dsimp only at c1 b1 b2 b3 hk
        subst hk
        clear hnil hm ho
        repeat (first | with_reducible (first | apply W.seq | apply W.block | apply W.skip | apply W.exit | apply W.ret | apply At.seqN | apply At.blkN | apply At.blkE | apply At.blkR | apply At.thenX | apply At.thenR | apply At.blkX rfl) | ((with_reducible apply W.ops); (repeat (first | refine WL.opA hΓ (h := ?_) | refine WL.opX hΓ (h := ?_) | refine WL.opY (h := ?_) | refine WL.opZ (h := ?_))); with_reducible apply WL.nil) | refine W.condT (h := ?_) | refine W.condF (h := ?_))
        refine At.retA (by rw [Try.results53]) (he := ?_)
        rw [← hI]
      · rw [varsF_ok hps hk] at hI
        generalize rv (s.extract p s.size) = r at c1 b1 b2 b3 hk hI
        obtain ⟨r1, r2⟩ := r
        dsimp only at c1 b1 b2 b3 hk hI
        have hd : decide ((r2 : Int) = 0) = false := decide_eq_false (by omega)
        have e := cInt_appT l (r1 : Int)
        have e2 : (p : Int) + (r2 : Int) = ((p + r2 : Nat) : Int) := by omega
        have hm' : m = n - (i + 1) := by omega
        subst hm'
        have HI := Lib.hid hI
        clear hnil hm ho hI
        repeat (first | with_reducible (first | apply W.seq | apply W.block | apply W.skip | apply W.exit | apply W.ret | apply At.seqN | apply At.blkN | apply At.blkE | apply At.blkR | apply At.thenX | apply At.thenR | apply At.blkX rfl) | ((with_reducible apply W.ops); (repeat (first | refine WL.opA hΓ (h := ?_) | refine WL.opX hΓ (h := ?_) | refine WL.opY (h := ?_) | refine WL.opZ (h := ?_))); with_reducible apply WL.nil) | refine W.condT (h := ?_) | refine W.condF (h := ?_))
        refine At.roundA (l ++ [(r1 : Int)], i + 1, ((p + r2 : Nat) : Int)) ⟨⟨by dsimp only; omega, by simp; omega, by dsimp only; omega, by dsimp only; omega⟩, ?_⟩ (by dsimp only; omega)
        dsimp only
        rw [List.append_assoc]
        exact HI.out
  · have hni : n - i = 0 := by omega
    rw [hni, varsF, List.append_nil] at hI
    clear hnil hni
    repeat (first | with_reducible (first | apply W.seq | apply W.block | apply W.skip | apply W.exit | apply W.ret | apply At.seqN | apply At.blkN | apply At.blkE | apply At.blkR | apply At.thenX | apply At.thenR | apply At.blkX rfl) | ((with_reducible apply W.ops); (repeat (first | refine WL.opA hΓ (h := ?_) | refine WL.opX hΓ (h := ?_) | refine WL.opY (h := ?_) | refine WL.opZ (h := ?_))); with_reducible apply WL.nil) | refine W.condT (h := ?_) | refine W.condF (h := ?_))
    refine At.retA (by rw [Try.results53]) (he := ?_)
    rw [← hI]
def takeF (s : ByteArray) (p : Int) : ByteArray × Int := if (varsF s 1 p).2 < 0 ∨ (varsF s 1 p).1.getD 0 0 > s.size - (varsF s 1 p).2 then (ByteArray.empty, -1) else (s.extract (varsF s 1 p).2.toNat ((varsF s 1 p).2 + (varsF s 1 p).1.getD 0 0).toNat, (varsF s 1 p).2 + (varsF s 1 p).1.getD 0 0)
/-- one number from a place on -/
theorem vars1 (s : ByteArray) (p : Int) : varsF s 1 p = ([], -1) ∨ ∃ q : Nat, p = q ∧ q ≤ s.size ∧ ¬ (rv (s.extract q s.size)).2 = 0 ∧ varsF s 1 p = ([((rv (s.extract q s.size)).1 : Int)], ((q + (rv (s.extract q s.size)).2 : Nat) : Int)) := by
  by_cases ho : p < 0 ∨ s.size < p
  · exact .inl (varsF_out ho)
  · obtain ⟨q, rfl⟩ := Int.eq_ofNat_of_zero_le (show 0 ≤ p by omega)
    by_cases hk : (rv (s.extract q s.size)).2 = 0
    · exact .inl (varsF_bad (by omega) hk)
    · exact .inr ⟨q, rfl, by omega, hk, varsF_ok (by omega) hk⟩
abbrev okTk (x : ByteArray × Int) : Prop := x.1.size ≤ 1099511627776 ∧ (-1 ≤ x.2 ∧ x.2 ≤ 1099511627776)
abbrev rSI (x : ByteArray × Int) : Res := .tup [(false, [.ro (.sc (.string x.1))]), (false, [.ro (.sc (.int .i64 x.2))])]
noncomputable def mTake := mdl okTk (fun x => [aS x.1, aI x.2]) (fun x => rSI (takeF x.1 x.2))
theorem mTake_eq (s : ByteArray) (p : Int) (h : okTk (s, p)) : mTake [aS s, aI p] = some (rSI (takeF s p)) := mdl_eq (by rintro ⟨a, b⟩ ⟨d, e⟩ h; simpa using h) (s, p) h
theorem l6Take_s : Sound Try.prog 82 mTake := by
  refine Sound.mdl Try.func82 rfl Try.ntmps82 ?_
  rintro ⟨s, p⟩ w ⟨hs, hp1, hp2⟩
  refine ⟨by simp, ?_⟩
  dsimp only at hs hp1 hp2
  have hΓ : GSound Try.prog (look [(53, mVars)]) := env_cons (has_of Try.func53 rfl rfl) l6Vars_s env_nil
  have c1 := mVars_eq s p 1 ⟨hs, ⟨hp1, hp2⟩, by dsimp only; omega⟩
  have e1 : ((1 : Nat) : Int) = 1 := rfl
  rw [e1] at c1
  have hem : (⟨#[]⟩ : ByteArray) = ByteArray.empty := rfl
  rcases vars1 s p with hv | ⟨q, rfl, hq, hk, hv⟩
  · have ht : takeF s p = (ByteArray.empty, -1) := by unfold takeF; rw [hv, if_pos (.inl (by simp))]
    rw [hv] at c1
    simp only [initS, argPV, List.map_cons, List.map_nil, toPL, Nat.zero_add]
    repeat (first | with_reducible (first | apply W.seq | apply W.block | apply W.skip | apply W.exit | apply W.ret | apply At.seqN | apply At.blkN | apply At.blkE | apply At.blkR | apply At.thenX | apply At.thenR | apply At.blkX rfl) | ((with_reducible apply W.ops); (repeat (first | refine WL.opA hΓ (h := ?_) | refine WL.opX hΓ (h := ?_) | refine WL.opY (h := ?_) | refine WL.opZ (h := ?_))); with_reducible apply WL.nil) | refine W.condT (h := ?_) | refine W.condF (h := ?_))
    refine At.retA (by rw [Try.results82]) (he := ?_)
    rw [ht]
  · have ht : takeF s q = if (varsF s 1 q).2 < 0 ∨ (varsF s 1 q).1.getD 0 0 > s.size - (varsF s 1 q).2 then (ByteArray.empty, -1) else (s.extract (varsF s 1 q).2.toNat ((varsF s 1 q).2 + (varsF s 1 q).1.getD 0 0).toNat, (varsF s 1 q).2 + (varsF s 1 q).1.getD 0 0) := rfl
    rw [hv] at c1 ht
    obtain ⟨b1, b2, b3⟩ := rv_bnd (s.extract q s.size)
    rw [ByteArray.size_extract] at b3
    generalize rv (s.extract q s.size) = r at c1 b1 b2 b3 hk ht
    obtain ⟨r1, r2⟩ := r
    dsimp only at c1 b1 b2 b3 hk ht
    simp only [List.getD_cons_zero] at ht
    have hrow : (rowsF cInt [(r1 : Int)])[0]? = some [.sc (.int .i64 (r1 : Int))] := rfl
    have hrl : (rowsF cInt [(r1 : Int)]).length = 1 := rfl
    generalize hL : rowsF cInt [(r1 : Int)] = L at c1 hrow hrl
    clear hL
    by_cases hgt : (r1 : Int) > s.size - ((q + r2 : Nat) : Int)
    · rw [if_pos (.inr hgt)] at ht
      simp only [initS, argPV, List.map_cons, List.map_nil, toPL, Nat.zero_add]
      repeat (first | with_reducible (first | apply W.seq | apply W.block | apply W.skip | apply W.exit | apply W.ret | apply At.seqN | apply At.blkN | apply At.blkE | apply At.blkR | apply At.thenX | apply At.thenR | apply At.blkX rfl) | ((with_reducible apply W.ops); (repeat (first | refine WL.opA hΓ (h := ?_) | refine WL.opX hΓ (h := ?_) | refine WL.opY (h := ?_) | refine WL.opZ (h := ?_))); with_reducible apply WL.nil) | refine W.condT (h := ?_) | refine W.condF (h := ?_))
      refine At.retA (by rw [Try.results82]) (he := ?_)
      rw [ht]
    · rw [if_neg (by omega)] at ht
      have e3 : ((q + r2 : Nat) : Int) + (r1 : Int) = ((q + r2 + r1 : Nat) : Int) := by omega
      rw [e3] at ht
      clear hem
      simp only [initS, argPV, List.map_cons, List.map_nil, toPL, Nat.zero_add]
      repeat (first | with_reducible (first | apply W.seq | apply W.block | apply W.skip | apply W.exit | apply W.ret | apply At.seqN | apply At.blkN | apply At.blkE | apply At.blkR | apply At.thenX | apply At.thenR | apply At.blkX rfl) | ((with_reducible apply W.ops); (repeat (first | refine WL.opA hΓ (h := ?_) | refine WL.opX hΓ (h := ?_) | refine WL.opY (h := ?_) | refine WL.opZ (h := ?_))); with_reducible apply WL.nil) | refine W.condT (h := ?_) | refine W.condF (h := ?_))
      refine W.drawsA hΓ 15 [[], [], [], [], [3], [3, 4], [2, 3, 4, 5], [0, 1, 2, 3, 4, 5, 6], [], [], [9], [9, 10], [8, 9, 10, 11], [0, 1, 2, 3, 4, 5, 6, 7], [0, 1, 2, 3, 4, 5, 6, 7, 8, 9, 10, 11, 12, 13]] (rest := ?rest38) (Es := ?Es38) (st1 := ?st138) (h := ?h38) (hf := ?hf38) (hp := ?hp38) (hd := ?hd38) (hfr := ?hfr38) (hst := ?hst38) (hT := ?hT38)
      case h38 => kernel_rfl
      case hf38 =>
        repeat (first | refine FlowT.opA (h := ?_) | refine FlowT.opX (h := ?_) | refine FlowT.opY (h := ?_) | refine FlowT.opZ (h := ?_))
        exact FlowT.done
      case hp38 => rfl
      case hd38 => rfl
      case hfr38 => rfl
      case hst38 =>
        simp only [pick_nil, pick_all, List.cons_append, List.nil_append]
        rfl
      (repeat (first | refine WL.opA hΓ (h := ?_) | refine WL.opX hΓ (h := ?_) | refine WL.opY (h := ?_) | refine WL.opZ (h := ?_)))
      with_reducible apply WL.nil
      repeat (first | with_reducible (first | apply W.seq | apply W.block | apply W.skip | apply W.exit | apply W.ret | apply At.seqN | apply At.blkN | apply At.blkE | apply At.blkR | apply At.thenX | apply At.thenR | apply At.blkX rfl) | ((with_reducible apply W.ops); (repeat (first | refine WL.opA hΓ (h := ?_) | refine WL.opX hΓ (h := ?_) | refine WL.opY (h := ?_) | refine WL.opZ (h := ?_))); with_reducible apply WL.nil) | refine W.condT (h := ?_) | refine W.condF (h := ?_))
      refine At.retA (by rw [Try.results82]) (he := ?_)
      rw [ht]
      simp only [Int.toNat_natCast]
end Go.Proofs.Yteaohgacgcjkjaa
