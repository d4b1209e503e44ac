/-
  The draws of the law of peers' words.
-/
import Derived.Test.YteaohgacgcjkjaaHEvPwM
namespace Go.Proofs.Yteaohgacgcjkjaa
set_option maxRecDepth 100000
set_option linter.unusedVariables false
set_option linter.unusedSimpArgs false
open Go Go.RowKit
set_option maxHeartbeats 8000000

theorem SoundC.resC {P : Program} {f : FuncId} {α β : Type} {ok : α → Prop} {us : α → List PL} {enc : α → List Arg} {rel : α → β → Prop} {us' : α → β → List PL} {res res' : α → β → Res} (h : SoundC P f ok us enc rel us' res) (he : ∀ x y, rel x y → res x y = res' x y) : SoundC P f ok us enc rel us' res' :=
  ⟨h.1, fun x b t vs w hok hg h1 h2 h3 => (h.2 x b t vs w hok hg h1 h2 h3).mono fun e w' ⟨y, t', q1, q2⟩ => ⟨y, t', q1, by have := he x y q1; rw [← this]; exact q2⟩⟩
theorem SoundR.resC {P : Program} {f : FuncId} {α β : Type} {ok : α → Prop} {enc : α → List Arg} {rel : α → β → Prop} {res res' : α → β → Res} (h : SoundR P f ok enc rel res) (he : ∀ x y, rel x y → res x y = res' x y) : SoundR P f ok enc rel res' := fun x vs w hok hg hr =>
  (h x vs w hok hg hr).mono fun e w' ⟨y, h1, h2⟩ => ⟨y, h1, by rw [← he x y h1]; exact h2⟩
theorem WL.stE {P : Program} {γ0 : Nat → Option Nat} {w0 : World} {N : Nat} {ops : Array Oper} {r : List Oper} {st st' : St} {Q : Exit → Act → World → Prop} (e : st = st') (h : WL P γ0 w0 N ops r st' Q) : WL P γ0 w0 N ops r st Q := e ▸ h
theorem showMsg_size (m : TPMsg) : (showMsg m).size ≤ 200 := by
  by_cases h : msgOk m
  · rw [showMsg_yes h]
    have h1 := varS_size m.1
    have h2 := varS_size m.2.1
    split
    · have := showReq_size m.2.2.1
      rw [ByteArray.size_append, ByteArray.size_append]
      omega
    · split
      · have := showHead_size m.2.2.2.1
        rw [ByteArray.size_append, ByteArray.size_append]
        omega
      · split
        · next h4 =>
          have h5 := h.2.2.2.2
          rw [if_pos h4] at h5
          have h6 : m.2.2.2.2.length ≤ 10 := h5.1
          have h7 := catA_size (varS m.1 ++ varS m.2.1 ++ varS (m.2.2.2.2.length : Int)) m.2.2.2.2 m.2.2.2.2.length
          have h8 := varS_size (m.2.2.2.2.length : Int)
          rw [ByteArray.size_append, ByteArray.size_append] at h7
          omega
        · rw [ByteArray.size_append]
          omega
  · rw [showMsg_no h]
    decide
abbrev rMd (m : TPMsg) : Res := .comp true [roI' m.1, roI' m.2.1, roI' m.2.2.1.1, roI' m.2.2.1.2.1, roI' m.2.2.1.2.2, roI' m.2.2.2.1.1, roI' m.2.2.2.1.2.1, roS' m.2.2.2.1.2.2.1, roS' m.2.2.2.1.2.2.2.1, roS' m.2.2.2.1.2.2.2.2.1, roS' m.2.2.2.1.2.2.2.2.2, .ro (.sl (rowsF cAddr m.2.2.2.2))]
theorem rMg_dat (y : TPMsg × Bool) (h : rlMg y) : (rMg y).dat = rMd y.1 := by
  obtain ⟨m, b⟩ := y
  cases b with
  | true => rfl
  | false =>
    have e : m.2.2.2.2 = [] := h.2 rfl
    show (rMg (m, false)).dat = rMd m
    unfold rMd
    rw [e]
    rfl
theorem l35Msg_d : SoundCu Try.prog 64 (fun _ : Unit => True) (fun _ => []) (fun _ (y : TPMsg × Bool) => rlMg y) (fun _ y => rMd y.1) :=
  SoundC.resC (SoundC.dat l35Msg_s) fun _ y h => rMg_dat y.2 h.2
theorem DrawShowPMsg_s : SoundR Try.prog 26 CodeOk (fun bs => [aL cU8 bs]) (fun _ (y : TPMsg × Bool) => rlMg y) (fun _ y => rMg y) := by
  refine SoundR.ofXA Try.func26 rfl Try.ntmps26 (by decide) ?_
  rintro bs v w hcode
  simp only [initX]
  have hΓ : GSound Try.prog (look []) := env_nil
  have hNw : Has Try.prog 42 := has_of Try.func42 rfl rfl
  have hMs : Has Try.prog 64 := has_of Try.func64 rfl rfl
  have hcu := lsNms_cu
  have hck := kill_cu
  repeat (first | with_reducible (first | apply W.seq | apply W.block | apply W.skip | apply W.exit | apply W.ret | apply At.seqN | apply At.blkN | apply At.blkE | apply At.blkR | apply At.thenX | apply At.thenR | apply At.blkX rfl) | ((with_reducible apply W.ops); (repeat (first | refine WL.opA hΓ (h := ?_) | refine WL.opX hΓ (h := ?_) | refine WL.opY (h := ?_) | refine WL.opZ (h := ?_))); with_reducible apply WL.nil) | refine W.condT (h := ?_) | refine W.condF (h := ?_))
  with_reducible apply W.ops
  repeat (first | refine WL.opA hΓ (h := ?_) | refine WL.opX hΓ (h := ?_) | refine WL.opY (h := ?_) | refine WL.opZ (h := ?_))
  refine WL.opNew hNw l1New_s v bs hcode (h := ?_)
  intro k0 hk0
  (repeat (first | refine WL.opA hΓ (h := ?_) | refine WL.opX hΓ (h := ?_) | refine WL.opY (h := ?_) | refine WL.opZ (h := ?_)))
  with_reducible apply WL.nil
  repeat (first | with_reducible (first | apply W.seq | apply W.block | apply W.skip | apply W.exit | apply W.ret | apply At.seqN | apply At.blkN | apply At.blkE | apply At.blkR | apply At.thenX | apply At.thenR | apply At.blkX rfl) | ((with_reducible apply W.ops); (repeat (first | refine WL.opA hΓ (h := ?_) | refine WL.opX hΓ (h := ?_) | refine WL.opY (h := ?_) | refine WL.opZ (h := ?_))); with_reducible apply WL.nil) | refine W.condT (h := ?_) | refine W.condF (h := ?_))
  with_reducible apply W.ops
  repeat (first | refine WL.opA hΓ (h := ?_) | refine WL.opX hΓ (h := ?_) | refine WL.opY (h := ?_) | refine WL.opZ (h := ?_))
  refine WL.opCu hMs l35Msg_s k0 hk0 () trivial (hst := fun _ _ => rfl) (h := ?_)
  rintro k1 ⟨m, own⟩ hk1 hm
  cases own with
  | true =>
    refine WL.stE (by simp (config := { maxSteps := 1000000 }) (disch := first | assumption | omega) only [TY, datasO, dataO, exactO, exB, ar_u64, binE, eqCells, eqVal, eqOp, step_mk, makeE, List.toList_toArray, Value.oneCell', step_fnv, step_makeFunc, ev_func, callV, cells_agg, cells_int, cells_bool, cells_str, cells_sl, List.size_toArray, flatB_nil, flatB_cons, wid_nil, wid_cons, rowsF_len, rowsF_flat, rowsF_app, step_build, buildE, fillE, indexSlE, indexArrE, shiftE, indexArrV, indexStE, step_move, step_assign, step_pick, step_load, step_nilCheck, step_binOp, step_unOp, step_convert, step_slice, step_fieldAddr, step_field, step_indexAddr, step_index, step_extract, step_len, step_min, step_max, step_alloc, step_box, step_lit, step_app, step_fn, step_store, putV_some, getS_hit, getS_miss, getS_blk, getS_kill, getS_nil, getB_nil, getB_slot, getB_hit, getB_miss, getB_kill0, getB_kill1, ev_tmp, ev_int, ev_bool, ev_str, ev_nil, ev_agg, cl_int, cl_bool, cl_str, cl_nil, loadE, loadV, fieldAddrE, fieldE, partV, indexAddrE, lenE, lenO, strIdx, indexE, boundE, subE, sliceE, convE, minE, scal, nilE, tupE, capsE, optE, pickE, pbin, pint, pstr, pun, ar_in, ar_u32, ar_u8, allocE, boxE, litE, rowsO, leafO, leafsO, frz, clr, rowsOf, destOf, appE, storeE, argO, argsO, boxesO, callG, callE, impE, pvR, pvs, pvRL, pvT, owns, ownsT, ownsR, clrL, withB, PV.kill, PL.kill, PL.names, Blk.kill, PL.live, toPL, resV, resO, compsO, compO, rlsO, rlO, toRes, Leaf.isSc, List.map_cons, List.map_nil, List.all_cons, List.all_nil, List.length_cons, List.length_nil, List.drop_zero, List.drop_succ_cons, List.take_succ_cons, List.take_zero, List.drop_nil, List.take_nil, List.getElem?_cons_zero, List.getElem?_cons_succ, List.getElem?_nil, Option.map_some, Option.map_none, Option.bind_some, Option.isSome_some, Option.isSome_none, List.cons_append, List.nil_append, List.append_nil, if_true, if_false, reduceIte, Nat.reduceLT, Nat.reduceBEq, Nat.reduceLeDiff, Nat.reduceEqDiff, Nat.reduceAdd, Nat.reduceMul, Nat.zero_add, Nat.add_zero, Nat.mul_one, Int.reduceToNat, Bool.and_true, Bool.true_and, Bool.false_and, Bool.and_false, Bool.not_true, Bool.not_false, Bool.false_eq_true, decide_true, decide_false, and_self, and_true, true_and, or_true, true_or, or_false, false_or, if_pos, if_neg, Int.toNat_natCast, decide_eq_true, decide_eq_false, look_hit, look_miss, Int.ofNat_eq_natCast, Bool.or_false, Bool.or_true, Bool.true_or, Bool.false_or, Bool.not_eq_true, beq_self_eq_true, ne_eq, not_false_eq_true, not_true_eq_false, eq_self, *] <;> rfl) ?_
    (repeat (first | refine WL.opA hΓ (h := ?_) | refine WL.opX hΓ (h := ?_) | refine WL.opY (h := ?_) | refine WL.opZ (h := ?_)))
    with_reducible apply WL.nil
    repeat (first | with_reducible (first | apply W.seq | apply W.block | apply W.skip | apply W.exit | apply W.ret | apply At.seqN | apply At.blkN | apply At.blkE | apply At.blkR | apply At.thenX | apply At.thenR | apply At.blkX rfl) | ((with_reducible apply W.ops); (repeat (first | refine WL.opA hΓ (h := ?_) | refine WL.opX hΓ (h := ?_) | refine WL.opY (h := ?_) | refine WL.opZ (h := ?_))); with_reducible apply WL.nil) | refine W.condT (h := ?_) | refine W.condF (h := ?_))
    refine At.retRA (by rw [Try.results26]) (he := ?_) (m, true) hm
    rfl
  | false =>
    refine WL.stE (by simp (config := { maxSteps := 1000000 }) (disch := first | assumption | omega) only [TY, datasO, dataO, exactO, exB, ar_u64, binE, eqCells, eqVal, eqOp, step_mk, makeE, List.toList_toArray, Value.oneCell', step_fnv, step_makeFunc, ev_func, callV, cells_agg, cells_int, cells_bool, cells_str, cells_sl, List.size_toArray, flatB_nil, flatB_cons, wid_nil, wid_cons, rowsF_len, rowsF_flat, rowsF_app, step_build, buildE, fillE, indexSlE, indexArrE, shiftE, indexArrV, indexStE, step_move, step_assign, step_pick, step_load, step_nilCheck, step_binOp, step_unOp, step_convert, step_slice, step_fieldAddr, step_field, step_indexAddr, step_index, step_extract, step_len, step_min, step_max, step_alloc, step_box, step_lit, step_app, step_fn, step_store, putV_some, getS_hit, getS_miss, getS_blk, getS_kill, getS_nil, getB_nil, getB_slot, getB_hit, getB_miss, getB_kill0, getB_kill1, ev_tmp, ev_int, ev_bool, ev_str, ev_nil, ev_agg, cl_int, cl_bool, cl_str, cl_nil, loadE, loadV, fieldAddrE, fieldE, partV, indexAddrE, lenE, lenO, strIdx, indexE, boundE, subE, sliceE, convE, minE, scal, nilE, tupE, capsE, optE, pickE, pbin, pint, pstr, pun, ar_in, ar_u32, ar_u8, allocE, boxE, litE, rowsO, leafO, leafsO, frz, clr, rowsOf, destOf, appE, storeE, argO, argsO, boxesO, callG, callE, impE, pvR, pvs, pvRL, pvT, owns, ownsT, ownsR, clrL, withB, PV.kill, PL.kill, PL.names, Blk.kill, PL.live, toPL, resV, resO, compsO, compO, rlsO, rlO, toRes, Leaf.isSc, List.map_cons, List.map_nil, List.all_cons, List.all_nil, List.length_cons, List.length_nil, List.drop_zero, List.drop_succ_cons, List.take_succ_cons, List.take_zero, List.drop_nil, List.take_nil, List.getElem?_cons_zero, List.getElem?_cons_succ, List.getElem?_nil, Option.map_some, Option.map_none, Option.bind_some, Option.isSome_some, Option.isSome_none, List.cons_append, List.nil_append, List.append_nil, if_true, if_false, reduceIte, Nat.reduceLT, Nat.reduceBEq, Nat.reduceLeDiff, Nat.reduceEqDiff, Nat.reduceAdd, Nat.reduceMul, Nat.zero_add, Nat.add_zero, Nat.mul_one, Int.reduceToNat, Bool.and_true, Bool.true_and, Bool.false_and, Bool.and_false, Bool.not_true, Bool.not_false, Bool.false_eq_true, decide_true, decide_false, and_self, and_true, true_and, or_true, true_or, or_false, false_or, if_pos, if_neg, Int.toNat_natCast, decide_eq_true, decide_eq_false, look_hit, look_miss, Int.ofNat_eq_natCast, Bool.or_false, Bool.or_true, Bool.true_or, Bool.false_or, Bool.not_eq_true, beq_self_eq_true, ne_eq, not_false_eq_true, not_true_eq_false, eq_self, *] <;> rfl) ?_
    (repeat (first | refine WL.opA hΓ (h := ?_) | refine WL.opX hΓ (h := ?_) | refine WL.opY (h := ?_) | refine WL.opZ (h := ?_)))
    with_reducible apply WL.nil
    repeat (first | with_reducible (first | apply W.seq | apply W.block | apply W.skip | apply W.exit | apply W.ret | apply At.seqN | apply At.blkN | apply At.blkE | apply At.blkR | apply At.thenX | apply At.thenR | apply At.blkX rfl) | ((with_reducible apply W.ops); (repeat (first | refine WL.opA hΓ (h := ?_) | refine WL.opX hΓ (h := ?_) | refine WL.opY (h := ?_) | refine WL.opZ (h := ?_))); with_reducible apply WL.nil) | refine W.condT (h := ?_) | refine W.condF (h := ?_))
    refine At.retRA (by rw [Try.results26]) (he := ?_) (m, false) hm
    rfl
theorem DrawShowPMsg_d : SoundR Try.prog 26 CodeOk (fun bs => [aL cU8 bs]) (fun _ (y : TPMsg × Bool) => rlMg y) (fun _ y => rMd y.1) :=
  SoundR.resC (SoundR.dat DrawShowPMsg_s) fun _ y h => rMg_dat y h
theorem DrawReadPMsg_s : SoundR Try.prog 28 CodeOk (fun bs => [aL cU8 bs]) (fun _ (t : ByteArray) => t.size ≤ 203) (fun _ t => rS t) := by
  refine SoundR.ofXA Try.func28 rfl Try.ntmps28 (by decide) ?_
  rintro bs v w hcode
  simp only [initX]
  have hΓ : GSound Try.prog (look [(30, mShowPMsg)]) := env_cons (has_of Try.func30 rfl rfl) ShowPMsgS_s env_nil
  have hNw : Has Try.prog 42 := has_of Try.func42 rfl rfl
  have hMs : Has Try.prog 64 := has_of Try.func64 rfl rfl
  have hOn : Has Try.prog 45 := has_of Try.func45 rfl rfl
  have hSp : Has Try.prog 69 := has_of Try.func69 rfl rfl
  have hcu := lsNms_cu
  have hck := kill_cu
  repeat (first | with_reducible (first | apply W.seq | apply W.block | apply W.skip | apply W.exit | apply W.ret | apply At.seqN | apply At.blkN | apply At.blkE | apply At.blkR | apply At.thenX | apply At.thenR | apply At.blkX rfl) | ((with_reducible apply W.ops); (repeat (first | refine WL.opA hΓ (h := ?_) | refine WL.opX hΓ (h := ?_) | refine WL.opY (h := ?_) | refine WL.opZ (h := ?_))); with_reducible apply WL.nil) | refine W.condT (h := ?_) | refine W.condF (h := ?_))
  with_reducible apply W.ops
  repeat (first | refine WL.opA hΓ (h := ?_) | refine WL.opX hΓ (h := ?_) | refine WL.opY (h := ?_) | refine WL.opZ (h := ?_))
  refine WL.opNew hNw l1New_s v bs hcode (h := ?_)
  intro k0 hk0
  (repeat (first | refine WL.opA hΓ (h := ?_) | refine WL.opX hΓ (h := ?_) | refine WL.opY (h := ?_) | refine WL.opZ (h := ?_)))
  with_reducible apply WL.nil
  repeat (first | with_reducible (first | apply W.seq | apply W.block | apply W.skip | apply W.exit | apply W.ret | apply At.seqN | apply At.blkN | apply At.blkE | apply At.blkR | apply At.thenX | apply At.thenR | apply At.blkX rfl) | ((with_reducible apply W.ops); (repeat (first | refine WL.opA hΓ (h := ?_) | refine WL.opX hΓ (h := ?_) | refine WL.opY (h := ?_) | refine WL.opZ (h := ?_))); with_reducible apply WL.nil) | refine W.condT (h := ?_) | refine W.condF (h := ?_))
  with_reducible apply W.ops
  repeat (first | refine WL.opA hΓ (h := ?_) | refine WL.opX hΓ (h := ?_) | refine WL.opY (h := ?_) | refine WL.opZ (h := ?_))
  refine WL.opCu hMs l35Msg_d k0 hk0 () trivial (h := ?_)
  rintro k1 ⟨m, own⟩ hk1 ⟨hm, -⟩
  replace hm : m.2.2.2.2.length ≤ 10 := hm
  have c1 := mShowPMsg_eq m (by show m.2.2.2.2.length ≤ _; omega)
  have hz := showMsg_size m
  dsimp only [aPM] at c1
  (repeat (first | refine WL.opA hΓ (h := ?_) | refine WL.opX hΓ (h := ?_) | refine WL.opY (h := ?_) | refine WL.opZ (h := ?_)))
  with_reducible apply WL.nil
  generalize showMsg m = s at *
  repeat (first | with_reducible (first | apply W.seq | apply W.block | apply W.skip | apply W.exit | apply W.ret | apply At.seqN | apply At.blkN | apply At.blkE | apply At.blkR | apply At.thenX | apply At.thenR | apply At.blkX rfl) | ((with_reducible apply W.ops); (repeat (first | refine WL.opA hΓ (h := ?_) | refine WL.opX hΓ (h := ?_) | refine WL.opY (h := ?_) | refine WL.opZ (h := ?_))); with_reducible apply WL.nil) | refine W.condT (h := ?_) | refine W.condF (h := ?_))
  with_reducible apply W.ops
  repeat (first | refine WL.opA hΓ (h := ?_) | refine WL.opX hΓ (h := ?_) | refine WL.opY (h := ?_) | refine WL.opZ (h := ?_))
  refine WL.opCu hOn l1Once_s k1 hk1.ok 3 (by decide) (h := ?_)
  rintro k2 o hk2 -
  (repeat (first | refine WL.opA hΓ (h := ?_) | refine WL.opX hΓ (h := ?_) | refine WL.opY (h := ?_) | refine WL.opZ (h := ?_)))
  with_reducible apply WL.nil
  cases o with
  | false =>
    repeat (first | with_reducible (first | apply W.seq | apply W.block | apply W.skip | apply W.exit | apply W.ret | apply At.seqN | apply At.blkN | apply At.blkE | apply At.blkR | apply At.thenX | apply At.thenR | apply At.blkX rfl) | ((with_reducible apply W.ops); (repeat (first | refine WL.opA hΓ (h := ?_) | refine WL.opX hΓ (h := ?_) | refine WL.opY (h := ?_) | refine WL.opZ (h := ?_))); with_reducible apply WL.nil) | refine W.condT (h := ?_) | refine W.condF (h := ?_))
    refine At.retRA (by rw [Try.results28]) (he := ?_) s (show s.size ≤ 203 by omega)
    rfl
  | true =>
    repeat (first | with_reducible (first | apply W.seq | apply W.block | apply W.skip | apply W.exit | apply W.ret | apply At.seqN | apply At.blkN | apply At.blkE | apply At.blkR | apply At.thenX | apply At.thenR | apply At.blkX rfl) | ((with_reducible apply W.ops); (repeat (first | refine WL.opA hΓ (h := ?_) | refine WL.opX hΓ (h := ?_) | refine WL.opY (h := ?_) | refine WL.opZ (h := ?_))); with_reducible apply WL.nil) | refine W.condT (h := ?_) | refine W.condF (h := ?_))
    with_reducible apply W.ops
    repeat (first | refine WL.opA hΓ (h := ?_) | refine WL.opX hΓ (h := ?_) | refine WL.opY (h := ?_) | refine WL.opZ (h := ?_))
    refine WL.opCu hSp l1Spoil_s k2 hk2.ok s (by omega) (h := ?_)
    rintro k3 t hk3 ht
    replace ht : t.size ≤ s.size + 3 := ht
    (repeat (first | refine WL.opA hΓ (h := ?_) | refine WL.opX hΓ (h := ?_) | refine WL.opY (h := ?_) | refine WL.opZ (h := ?_)))
    with_reducible apply WL.nil
    repeat (first | with_reducible (first | apply W.seq | apply W.block | apply W.skip | apply W.exit | apply W.ret | apply At.seqN | apply At.blkN | apply At.blkE | apply At.blkR | apply At.thenX | apply At.thenR | apply At.blkX rfl) | ((with_reducible apply W.ops); (repeat (first | refine WL.opA hΓ (h := ?_) | refine WL.opX hΓ (h := ?_) | refine WL.opY (h := ?_) | refine WL.opZ (h := ?_))); with_reducible apply WL.nil) | refine W.condT (h := ?_) | refine W.condF (h := ?_))
    refine At.retRA (by rw [Try.results28]) (he := ?_) t (show t.size ≤ 203 by omega)
    rfl
end Go.Proofs.Yteaohgacgcjkjaa
