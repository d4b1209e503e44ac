/-
  The law of Skip.
-/
import Derived.Test.YtimnogjgokljbaaGreatDoorHEvBkL
import Derived.Test.YtimnogjgokljbaaGreatDoorG37
import Derived.Test.YtimnogjgokljbaaGreatDoorG22
namespace Go.Proofs.YtimnogjgokljbaaGreatDoor
set_option maxRecDepth 100000
set_option linter.unusedVariables false
set_option linter.unusedSimpArgs false
open Go Go.RowKit
set_option maxHeartbeats 16000000
set_option linter.unusedVariables false

theorem cCSig_one : ∀ x : TCSig, ∀ u ∈ cCSig x, u.oneCell' = true := fun x u hu => by simp [cCSig] at hu; rcases hu with rfl | rfl <;> rfl
abbrev okSkL (x : TSk) : Prop := okAnZ x.2.1 ∧ okBkZ x.2.2.1
theorem skipA_len (t : TTrust) (a : TAnchor) (b : TBlock) (now : Int) (ha : a.2.length ≤ 1048576) (hb : b.2.2.1.length ≤ 1048576) : (skipA t a b now).2.length ≤ 1048576 := by
  unfold skipA
  split
  · exact hb
  · exact ha
theorem lawSkip_s : Sound Tryz.prog 3 (mdl okSkL aSk fun _ => rB true) := by
  refine Sound.mdl Tryz.func3 rfl Tryz.ntmps3 ?_
  rintro ⟨⟨p, s⟩, ⟨⟨ah, at_, ala, ava, ane, ada⟩, al⟩, ⟨⟨h, t, la, va, ne, da⟩, l, n, ⟨ch, cr, ci, cs⟩⟩, now⟩ w ⟨hA, hB⟩
  refine ⟨by simp, ?_⟩
  dsimp only at hA hB
  have hΓ : GSound Tryz.prog (look [(6, mSzAn), (7, mSzBk), (9, mToTr), (10, mToAn), (11, mToBk), (8, mSkip), (12, mSkip), (13, mEqAn), (14, mEqBk), (17, mHeldAn)]) := env_cons (has_of Tryz.func6 rfl rfl) szAn_s (env_cons (has_of Tryz.func7 rfl rfl) szBk_s (env_cons (has_of Tryz.func9 rfl rfl) toTr_s (env_cons (has_of Tryz.func10 rfl rfl) toAn_s (env_cons (has_of Tryz.func11 rfl rfl) toBk_s (env_cons (has_of Tryz.func8 rfl rfl) skipS_s (env_cons (has_of Tryz.func12 rfl rfl) skipI_s (env_cons (has_of Tryz.func13 rfl rfl) eqAn_s (env_cons (has_of Tryz.func14 rfl rfl) eqBk_s (env_cons (has_of Tryz.func17 rfl rfl) heldAn_s env_nil)))))))))
  have hMa : Has Tryz.prog 15 := has_of Tryz.func15 rfl rfl
  have hMb : Has Tryz.prog 16 := has_of Tryz.func16 rfl rfl
  have c1 := mSzAn_eq ((ah, at_, ala, ava, ane, ada), al) 1048576 hA ⟨by omega, by omega⟩
  dsimp only [aAn] at c1
  by_cases b1 : (totAn ((ah, at_, ala, ava, ane, ada), al) : Int) ≤ 1048576
  · have hr : szE (totAn ((ah, at_, ala, ava, ane, ada), al)) 1048576 = 1048576 - totAn ((ah, at_, ala, ava, ane, ada), al) := if_pos b1
    have z1 : al.length ≤ 1048576 := by
      have : totAn ((ah, at_, ala, ava, ane, ada), al) = totHeader (ah, at_, ala, ava, ane, ada) + al.length := rfl
      omega
    rw [hr] at c1
    generalize totAn ((ah, at_, ala, ava, ane, ada), al) = T at *
    have c2 := mSzBk_eq ((h, t, la, va, ne, da), l, n, (ch, cr, ci, cs)) (1048576 - (T : Int)) hB ⟨by omega, by omega⟩
    dsimp only [aBk] at c2
    have hng : ¬ (1048576 : Int) - (T : Int) < 0 := by omega
    by_cases b2 : (totBk ((h, t, la, va, ne, da), l, n, (ch, cr, ci, cs)) : Int) ≤ 1048576 - (T : Int)
    · have hr2 : szE (totBk ((h, t, la, va, ne, da), l, n, (ch, cr, ci, cs))) (1048576 - (T : Int)) = 1048576 - (T : Int) - totBk ((h, t, la, va, ne, da), l, n, (ch, cr, ci, cs)) := if_pos b2
      have z2 : l.length ≤ 1048576 ∧ n.length ≤ 1048576 ∧ cs.length ≤ 1048576 := by
        have e1 : totBk ((h, t, la, va, ne, da), l, n, (ch, cr, ci, cs)) = totHeader (h, t, la, va, ne, da) + (l.length + (n.length + totCm (ch, cr, ci, cs))) := rfl
        have e2 : totCm (ch, cr, ci, cs) = ci.size + (cs.length + csSum cs cs.length) := rfl
        omega
      obtain ⟨z2, z3, z4⟩ := z2
      rw [hr2] at c2
      generalize totBk ((h, t, la, va, ne, da), l, n, (ch, cr, ci, cs)) = U at *
      have hng2 : ¬ (1048576 : Int) - (T : Int) - (U : Int) < 0 := by omega
      have c3 := mToTr_eq (p, s)
      have c4 := mToAn_eq ((ah, at_, ala, ava, ane, ada), al) z1
      have c5 := mToBk_eq ((h, t, la, va, ne, da), l, n, (ch, cr, ci, cs)) ⟨z2, z3, z4⟩
      have c6 := mSkip_eq (p, s) ((ah, at_, ala, ava, ane, ada), al) ((h, t, la, va, ne, da), l, n, (ch, cr, ci, cs)) now ⟨z1, z2, z3, z4⟩
      have c7 := mEqAn_eq ((ah, at_, ala, ava, ane, ada), al) ((ah, at_, ala, ava, ane, ada), al) (show al.length ≤ _ by omega) (show al.length ≤ _ by omega)
      have c8 := mEqBk_eq ((h, t, la, va, ne, da), l, n, (ch, cr, ci, cs)) ((h, t, la, va, ne, da), l, n, (ch, cr, ci, cs)) ⟨show l.length ≤ _ by omega, show n.length ≤ _ by omega, show cs.length ≤ _ by omega⟩ ⟨show l.length ≤ _ by omega, show n.length ≤ _ by omega, show cs.length ≤ _ by omega⟩
      rw [decide_eq_true rfl] at c7 c8
      have zr := skipA_len (p, s) ((ah, at_, ala, ava, ane, ada), al) ((h, t, la, va, ne, da), l, n, (ch, cr, ci, cs)) now z1 z3
      generalize skipA (p, s) ((ah, at_, ala, ava, ane, ada), al) ((h, t, la, va, ne, da), l, n, (ch, cr, ci, cs)) now = r at *
      generalize skipC (p, s) ((ah, at_, ala, ava, ane, ada), al) ((h, t, la, va, ne, da), l, n, (ch, cr, ci, cs)) now = k at *
      obtain ⟨⟨rh, rt, rla, rva, rne, rda⟩, rl⟩ := r
      replace zr : rl.length ≤ 1048576 := zr
      have c9 := mEqAn_eq ((rh, rt, rla, rva, rne, rda), rl) ((rh, rt, rla, rva, rne, rda), rl) (show rl.length ≤ _ by omega) (show rl.length ≤ _ by omega)
      rw [decide_eq_true rfl] at c9
      have c10 := mHeldAn_eq (rh, rt, rla, rva, rne, rda) 1 rl.length (by omega) (by omega)
      have m1 := fun v w => markAn_own (ah, at_, ala, ava, ane, ada) 6043 al 1 (1 + 2 * al.length) (by omega) rfl (by omega) v w
      have m2 := markBk_own (h, t, la, va, ne, da) ch cr ci 6045 7045 11045 l n cs (1 + 2 * al.length) (1 + 2 * al.length + 2 * l.length + 2 * n.length + 2 * cs.length) (by omega) rfl (by omega)
      have m3 := fun v w => markAn_own (rh, rt, rla, rva, rne, rda) 6052 rl 1 (1 + 2 * rl.length) (by omega) rfl (by omega) v w
      have hkk : decide (k = k) = true := decide_eq_true rfl
      have hn1 : ¬ ((1 + 2 * al.length + 2 * l.length + 2 * n.length + 2 * cs.length : Nat) : Int) < 0 := by omega
      have hn2 : ¬ ((1 + 2 * rl.length : Nat) : Int) < 0 := by omega
      dsimp only [aTr, aAn, aBk, rAn, rowsAn, rowsBk, rSk, roI] at c3 c4 c5 c6 c7 c8 c9 c10
      have e1 : ((1 : Nat) : Int) = 1 := rfl
      rw [e1] at c10
      dsimp only [lsAn] at m1 m3
      clear hr hr2 hA hB b1 b2 e1
      simp only [initS, argPV, List.map_cons, List.map_nil, toPL, Nat.zero_add]
      generalize marked mkVal 2 1 rl.length = ml at *
      generalize marked mkVal 2 1 al.length = ma at *
      generalize marked mkVal 2 (1 + 2 * al.length) l.length = mb at *
      generalize marked mkVal 2 (1 + 2 * al.length + 2 * l.length) n.length = mn at *
      generalize marked mkCSig 2 (1 + 2 * al.length + 2 * l.length + 2 * n.length) cs.length = mc at *
      generalize 1 + 2 * al.length + 2 * l.length + 2 * n.length + 2 * cs.length = K2 at *
      generalize 1 + 2 * al.length = K1 at *
      generalize 1 + 2 * rl.length = K3 at *
      repeat (first | with_reducible (first | apply W.seq | apply W.block | apply W.skip | apply W.exit | apply W.ret | apply At.seqN | apply At.blkN | apply At.blkE | apply At.blkR | apply At.thenX | apply At.thenR | apply At.blkX rfl) | ((with_reducible apply W.ops); (repeat (first | refine WL.opA hΓ (h := ?_) | refine WL.opX hΓ (h := ?_) | refine WL.opY (h := ?_) | refine WL.opZ (h := ?_))); with_reducible apply WL.nil) | refine W.condT (h := ?_) | refine W.condF (h := ?_))
      refine W.lateA hΓ 12 [[], [0], [], [0, 1, 2], [], [0, 1, 2, 3, 4], [], [0, 1, 2, 3, 4, 5, 6], [0, 1, 2, 3, 4, 5, 6, 7], [0, 1, 2, 3, 4, 5, 6, 7, 8], [0, 1, 2, 3, 4, 5, 6, 7, 8], [], [0, 1, 2, 3, 4, 5, 6, 7, 8, 9, 11], [0, 1, 2, 3, 4, 5, 6, 7, 8, 9, 10, 11, 12]] [10] (rest := ?rest4) (Es := ?Es4) (st1 := ?st14) (stA := ?stA4) (t := ?t4) (x := ?x4) (y := ?y4) (ty := ?ty4) (pos := ?pos4) (after := ?af4) (n := ?n4) (b := ?b4) (h := ?h4) (hl := ?hl4) (hf := ?hf4) (hp := ?hp4) (hd := ?hd4) (hfr := ?hfr4) (hA := ?hA4) (hst := ?hst4) (hst1 := ?hst14) (hT := ?hT4)
      case h4 => kernel_rfl
      case hl4 => kernel_rfl
      case hf4 =>
        repeat (first | refine FlowT.opA (h := ?_) | refine FlowT.opX (h := ?_) | refine FlowT.opY (h := ?_) | refine FlowT.opZ (h := ?_))
        exact FlowT.done
      case hp4 => rfl
      case hd4 => rfl
      case hfr4 => rfl
      case hA4 =>
        simp (disch := decide) only [pick_nil, pick_t, pick_f, List.cons_append, List.nil_append, Nat.reduceAdd]
        rfl
      case hst4 =>
        unfold storeL
        simp (config := { maxSteps := 1000000 }) (disch := first | assumption | omega) only [TY, ar_u64, binE, eqCells, eqVal, eqOp, step_mk, makeE, List.toList_toArray, Value.oneCell', step_fnv, step_makeFunc, ev_func, callV, cells_agg, cells_int, cells_bool, cells_str, cells_sl, List.size_toArray, flatB_nil, flatB_cons, wid_nil, wid_cons, rowsF_len, rowsF_flat, rowsF_app, step_build, buildE, fillE, indexSlE, indexArrE, shiftE, indexArrV, indexStE, step_move, step_assign, step_pick, step_load, step_nilCheck, step_binOp, step_unOp, step_convert, step_slice, step_fieldAddr, step_field, step_indexAddr, step_index, step_extract, step_len, step_min, step_max, step_alloc, step_box, step_lit, step_app, step_fn, step_store, putV_some, getS_hit, getS_miss, getS_blk, getS_kill, getS_nil, getB_nil, getB_slot, getB_hit, getB_miss, getB_kill0, getB_kill1, ev_tmp, ev_int, ev_bool, ev_str, ev_nil, ev_agg, cl_int, cl_bool, cl_str, cl_nil, loadE, loadV, fieldAddrE, fieldE, partV, indexAddrE, lenE, lenO, strIdx, indexE, boundE, subE, sliceE, convE, minE, scal, nilE, tupE, capsE, optE, pickE, pbin, pint, pstr, pun, ar_in, ar_u32, ar_u8, allocE, boxE, litE, rowsO, leafO, leafsO, frz, clr, rowsOf, flB, Fl.and, Fl.nst, Fl.ok, Fl.isFl, noRef, nstOk, flatAt, hasAll, absL, appN, Fl.isNd, asN, storeN, Nat.reduceBNe, destOf, appE, storeE, argO, argsO, boxesO, callG, callE, impE, pvR, pvs, pvRL, pvT, owns, ownsT, ownsR, clrL, withB, PV.kill, PL.kill, PL.names, Blk.kill, PL.live, toPL, resV, resO, compsO, compO, rlsO, rlO, toRes, Leaf.isSc, List.map_cons, List.map_nil, List.all_cons, List.all_nil, List.length_cons, List.length_nil, List.drop_zero, List.drop_succ_cons, List.take_succ_cons, List.take_zero, List.drop_nil, List.take_nil, List.getElem?_cons_zero, List.getElem?_cons_succ, List.getElem?_nil, Option.map_some, Option.map_none, Option.bind_some, Option.isSome_some, Option.isSome_none, List.cons_append, List.nil_append, List.append_nil, if_true, if_false, reduceIte, Nat.reduceLT, Nat.reduceBEq, Nat.reduceLeDiff, Nat.reduceEqDiff, Nat.reduceAdd, Nat.reduceMul, Nat.zero_add, Nat.add_zero, Nat.mul_one, Int.reduceToNat, Bool.and_true, Bool.true_and, Bool.false_and, Bool.and_false, Bool.not_true, Bool.not_false, Bool.false_eq_true, decide_true, decide_false, and_self, and_true, true_and, or_true, true_or, or_false, false_or, if_pos, if_neg, Int.toNat_natCast, decide_eq_true, decide_eq_false, look_hit, look_miss, Int.ofNat_eq_natCast, Bool.or_false, Bool.or_true, Bool.true_or, Bool.false_or, Bool.not_eq_true, beq_self_eq_true, ne_eq, not_false_eq_true, not_true_eq_false, eq_self, ent_move, ent_assign, ent_pick, ent_load, ent_nilCheck, ent_binOp, ent_unOp, ent_convert, ent_slice, ent_fieldAddr, ent_field, ent_indexAddr, ent_index, ent_extract, ent_len, ent_min, ent_max, ent_alloc, ent_box, ent_lit, ent_build, ent_fn, ent_mk, makeL, ent_makeFunc, valL_some, allocL, boxL, litL, callL, blkL, noRef, *]
        rfl
      case hst14 =>
        simp only [pick_nil, pick_all, List.cons_append, List.nil_append]
        rfl
      (repeat (first | refine WL.opA hΓ (h := ?_) | refine WL.opX hΓ (h := ?_) | refine WL.opY (h := ?_) | refine WL.opZ (h := ?_)))
      with_reducible apply WL.nil
      repeat (first | with_reducible (first | apply W.seq | apply W.block | apply W.skip | apply W.exit | apply W.ret | apply At.seqN | apply At.blkN | apply At.blkE | apply At.blkR | apply At.thenX | apply At.thenR | apply At.blkX rfl) | ((with_reducible apply W.ops); (repeat (first | refine WL.opA hΓ (h := ?_) | refine WL.opX hΓ (h := ?_) | refine WL.opY (h := ?_) | refine WL.opZ (h := ?_))); with_reducible apply WL.nil) | refine W.condT (h := ?_) | refine W.condF (h := ?_))
      refine W.lateA hΓ 10 [[], [0], [], [], [], [0, 1, 2, 3, 4], [0, 1, 2, 3, 4, 5], [0, 1, 2, 3, 4, 5, 6], [0, 1, 2, 3, 4, 5, 6], [], [0, 1, 2, 3, 4, 5, 6, 7, 9], [0, 1, 2, 3, 4, 5, 6, 7, 8, 9, 10]] [8] (rest := ?rest6) (Es := ?Es6) (st1 := ?st16) (stA := ?stA6) (t := ?t6) (x := ?x6) (y := ?y6) (ty := ?ty6) (pos := ?pos6) (after := ?af6) (n := ?n6) (b := ?b6) (h := ?h6) (hl := ?hl6) (hf := ?hf6) (hp := ?hp6) (hd := ?hd6) (hfr := ?hfr6) (hA := ?hA6) (hst := ?hst6) (hst1 := ?hst16) (hT := ?hT6)
      case h6 => kernel_rfl
      case hl6 => kernel_rfl
      case hf6 =>
        repeat (first | refine FlowT.opA (h := ?_) | refine FlowT.opX (h := ?_) | refine FlowT.opY (h := ?_) | refine FlowT.opZ (h := ?_))
        exact FlowT.done
      case hp6 => rfl
      case hd6 => rfl
      case hfr6 => rfl
      case hA6 =>
        simp (disch := decide) only [pick_nil, pick_t, pick_f, List.cons_append, List.nil_append, Nat.reduceAdd]
        rfl
      case hst6 =>
        unfold storeL
        simp (config := { maxSteps := 1000000 }) (disch := first | assumption | omega) only [TY, ar_u64, binE, eqCells, eqVal, eqOp, step_mk, makeE, List.toList_toArray, Value.oneCell', step_fnv, step_makeFunc, ev_func, callV, cells_agg, cells_int, cells_bool, cells_str, cells_sl, List.size_toArray, flatB_nil, flatB_cons, wid_nil, wid_cons, rowsF_len, rowsF_flat, rowsF_app, step_build, buildE, fillE, indexSlE, indexArrE, shiftE, indexArrV, indexStE, step_move, step_assign, step_pick, step_load, step_nilCheck, step_binOp, step_unOp, step_convert, step_slice, step_fieldAddr, step_field, step_indexAddr, step_index, step_extract, step_len, step_min, step_max, step_alloc, step_box, step_lit, step_app, step_fn, step_store, putV_some, getS_hit, getS_miss, getS_blk, getS_kill, getS_nil, getB_nil, getB_slot, getB_hit, getB_miss, getB_kill0, getB_kill1, ev_tmp, ev_int, ev_bool, ev_str, ev_nil, ev_agg, cl_int, cl_bool, cl_str, cl_nil, loadE, loadV, fieldAddrE, fieldE, partV, indexAddrE, lenE, lenO, strIdx, indexE, boundE, subE, sliceE, convE, minE, scal, nilE, tupE, capsE, optE, pickE, pbin, pint, pstr, pun, ar_in, ar_u32, ar_u8, allocE, boxE, litE, rowsO, leafO, leafsO, frz, clr, rowsOf, flB, Fl.and, Fl.nst, Fl.ok, Fl.isFl, noRef, nstOk, flatAt, hasAll, absL, appN, Fl.isNd, asN, storeN, Nat.reduceBNe, destOf, appE, storeE, argO, argsO, boxesO, callG, callE, impE, pvR, pvs, pvRL, pvT, owns, ownsT, ownsR, clrL, withB, PV.kill, PL.kill, PL.names, Blk.kill, PL.live, toPL, resV, resO, compsO, compO, rlsO, rlO, toRes, Leaf.isSc, List.map_cons, List.map_nil, List.all_cons, List.all_nil, List.length_cons, List.length_nil, List.drop_zero, List.drop_succ_cons, List.take_succ_cons, List.take_zero, List.drop_nil, List.take_nil, List.getElem?_cons_zero, List.getElem?_cons_succ, List.getElem?_nil, Option.map_some, Option.map_none, Option.bind_some, Option.isSome_some, Option.isSome_none, List.cons_append, List.nil_append, List.append_nil, if_true, if_false, reduceIte, Nat.reduceLT, Nat.reduceBEq, Nat.reduceLeDiff, Nat.reduceEqDiff, Nat.reduceAdd, Nat.reduceMul, Nat.zero_add, Nat.add_zero, Nat.mul_one, Int.reduceToNat, Bool.and_true, Bool.true_and, Bool.false_and, Bool.and_false, Bool.not_true, Bool.not_false, Bool.false_eq_true, decide_true, decide_false, and_self, and_true, true_and, or_true, true_or, or_false, false_or, if_pos, if_neg, Int.toNat_natCast, decide_eq_true, decide_eq_false, look_hit, look_miss, Int.ofNat_eq_natCast, Bool.or_false, Bool.or_true, Bool.true_or, Bool.false_or, Bool.not_eq_true, beq_self_eq_true, ne_eq, not_false_eq_true, not_true_eq_false, eq_self, ent_move, ent_assign, ent_pick, ent_load, ent_nilCheck, ent_binOp, ent_unOp, ent_convert, ent_slice, ent_fieldAddr, ent_field, ent_indexAddr, ent_index, ent_extract, ent_len, ent_min, ent_max, ent_alloc, ent_box, ent_lit, ent_build, ent_fn, ent_mk, makeL, ent_makeFunc, valL_some, allocL, boxL, litL, callL, blkL, noRef, *]
        rfl
      case hst16 =>
        simp only [pick_nil, pick_all, List.cons_append, List.nil_append]
        rfl
      (repeat (first | refine WL.opA hΓ (h := ?_) | refine WL.opX hΓ (h := ?_) | refine WL.opY (h := ?_) | refine WL.opZ (h := ?_)))
      with_reducible apply WL.nil
      repeat (first | with_reducible (first | apply W.seq | apply W.block | apply W.skip | apply W.exit | apply W.ret | apply At.seqN | apply At.blkN | apply At.blkE | apply At.blkR | apply At.thenX | apply At.thenR | apply At.blkX rfl) | ((with_reducible apply W.ops); (repeat (first | refine WL.opA hΓ (h := ?_) | refine WL.opX hΓ (h := ?_) | refine WL.opY (h := ?_) | refine WL.opZ (h := ?_))); with_reducible apply WL.nil) | refine W.condT (h := ?_) | refine W.condF (h := ?_))
      refine W.drawsA hΓ 5 [[], [], [1], [0, 1, 2], [0, 1, 2, 3]] (rest := ?rest8) (Es := ?Es8) (st1 := ?st18) (h := ?h8) (hf := ?hf8) (hp := ?hp8) (hd := ?hd8) (hfr := ?hfr8) (hst := ?hst8) (hT := ?hT8)
      case h8 => kernel_rfl
      case hf8 =>
        repeat (first | refine FlowT.opA (h := ?_) | refine FlowT.opX (h := ?_) | refine FlowT.opY (h := ?_) | refine FlowT.opZ (h := ?_))
        exact FlowT.done
      case hp8 => rfl
      case hd8 => rfl
      case hfr8 => rfl
      case hst8 =>
        simp only [pick_nil, pick_all, List.cons_append, List.nil_append]
        rfl
      (repeat (first | refine WL.opA hΓ (h := ?_) | refine WL.opX hΓ (h := ?_) | refine WL.opY (h := ?_) | refine WL.opZ (h := ?_)))
      with_reducible apply WL.nil
      repeat (first | with_reducible (first | apply W.seq | apply W.block | apply W.skip | apply W.exit | apply W.ret | apply At.seqN | apply At.blkN | apply At.blkE | apply At.blkR | apply At.thenX | apply At.thenR | apply At.blkX rfl) | ((with_reducible apply W.ops); (repeat (first | refine WL.opA hΓ (h := ?_) | refine WL.opX hΓ (h := ?_) | refine WL.opY (h := ?_) | refine WL.opZ (h := ?_))); with_reducible apply WL.nil) | refine W.condT (h := ?_) | refine W.condF (h := ?_))
      refine W.drawsA hΓ 5 [[], [], [1], [0, 1, 2], [0, 1, 2, 3]] (rest := ?rest10) (Es := ?Es10) (st1 := ?st110) (h := ?h10) (hf := ?hf10) (hp := ?hp10) (hd := ?hd10) (hfr := ?hfr10) (hst := ?hst10) (hT := ?hT10)
      case h10 => kernel_rfl
      case hf10 =>
        repeat (first | refine FlowT.opA (h := ?_) | refine FlowT.opX (h := ?_) | refine FlowT.opY (h := ?_) | refine FlowT.opZ (h := ?_))
        exact FlowT.done
      case hp10 => rfl
      case hd10 => rfl
      case hfr10 => rfl
      case hst10 =>
        simp only [pick_nil, pick_all, List.cons_append, List.nil_append]
        rfl
      (repeat (first | refine WL.opA hΓ (h := ?_) | refine WL.opX hΓ (h := ?_) | refine WL.opY (h := ?_) | refine WL.opZ (h := ?_)))
      with_reducible apply WL.nil
      repeat (first | with_reducible (first | apply W.seq | apply W.block | apply W.skip | apply W.exit | apply W.ret | apply At.seqN | apply At.blkN | apply At.blkE | apply At.blkR | apply At.thenX | apply At.thenR | apply At.blkX rfl) | ((with_reducible apply W.ops); (repeat (first | refine WL.opA hΓ (h := ?_) | refine WL.opX hΓ (h := ?_) | refine WL.opY (h := ?_) | refine WL.opZ (h := ?_))); with_reducible apply WL.nil) | refine W.condT (h := ?_) | refine W.condF (h := ?_))
      with_reducible apply W.ops
      repeat (first | refine WL.opA hΓ (h := ?_) | refine WL.opX hΓ (h := ?_) | refine WL.opY (h := ?_) | refine WL.opZ (h := ?_))
      refine WL.opMarkS 6043 1 K1 ma hMa m1 cVal_len cVal_one (h := ?_)
      (repeat (first | refine WL.opA hΓ (h := ?_) | refine WL.opX hΓ (h := ?_) | refine WL.opY (h := ?_) | refine WL.opZ (h := ?_)))
      with_reducible apply WL.nil
      repeat (first | with_reducible (first | apply W.seq | apply W.block | apply W.skip | apply W.exit | apply W.ret | apply At.seqN | apply At.blkN | apply At.blkE | apply At.blkR | apply At.thenX | apply At.thenR | apply At.blkX rfl) | ((with_reducible apply W.ops); (repeat (first | refine WL.opA hΓ (h := ?_) | refine WL.opX hΓ (h := ?_) | refine WL.opY (h := ?_) | refine WL.opZ (h := ?_))); with_reducible apply WL.nil) | refine W.condT (h := ?_) | refine W.condF (h := ?_))
      with_reducible apply W.ops
      repeat (first | refine WL.opA hΓ (h := ?_) | refine WL.opX hΓ (h := ?_) | refine WL.opY (h := ?_) | refine WL.opZ (h := ?_))
      refine WL.opMark3A 6045 7045 11045 K1 K2 mb mn mc hMb m2 cVal_len cVal_one cVal_len cVal_one cCSig_len cCSig_one (h := ?_)
      (repeat (first | refine WL.opA hΓ (h := ?_) | refine WL.opX hΓ (h := ?_) | refine WL.opY (h := ?_) | refine WL.opZ (h := ?_)))
      with_reducible apply WL.nil
      repeat (first | with_reducible (first | apply W.seq | apply W.block | apply W.skip | apply W.exit | apply W.ret | apply At.seqN | apply At.blkN | apply At.blkE | apply At.blkR | apply At.thenX | apply At.thenR | apply At.blkX rfl) | ((with_reducible apply W.ops); (repeat (first | refine WL.opA hΓ (h := ?_) | refine WL.opX hΓ (h := ?_) | refine WL.opY (h := ?_) | refine WL.opZ (h := ?_))); with_reducible apply WL.nil) | refine W.condT (h := ?_) | refine W.condF (h := ?_))
      with_reducible apply W.ops
      repeat (first | refine WL.opA hΓ (h := ?_) | refine WL.opX hΓ (h := ?_) | refine WL.opY (h := ?_) | refine WL.opZ (h := ?_))
      refine WL.opMarkS 6052 1 K3 ml hMa m3 cVal_len cVal_one (h := ?_)
      (repeat (first | refine WL.opA hΓ (h := ?_) | refine WL.opX hΓ (h := ?_) | refine WL.opY (h := ?_) | refine WL.opZ (h := ?_)))
      with_reducible apply WL.nil
      repeat (first | with_reducible (first | apply W.seq | apply W.block | apply W.skip | apply W.exit | apply W.ret | apply At.seqN | apply At.blkN | apply At.blkE | apply At.blkR | apply At.thenX | apply At.thenR | apply At.blkX rfl) | ((with_reducible apply W.ops); (repeat (first | refine WL.opA hΓ (h := ?_) | refine WL.opX hΓ (h := ?_) | refine WL.opY (h := ?_) | refine WL.opZ (h := ?_))); with_reducible apply WL.nil) | refine W.condT (h := ?_) | refine W.condF (h := ?_))
      refine W.lateA hΓ 12 [[], [0], [], [0, 1, 2], [], [0, 1, 2, 3, 4], [], [0, 1, 2, 3, 4, 5, 6], [0, 1, 2, 3, 4, 5, 6, 7], [0, 1, 2, 3, 4, 5, 6, 7, 8], [0, 1, 2, 3, 4, 5, 6, 7, 8], [], [0, 1, 2, 3, 4, 5, 6, 7, 8, 9, 11], [0, 1, 2, 3, 4, 5, 6, 7, 8, 9, 10, 11, 12]] [10] (rest := ?rest21) (Es := ?Es21) (st1 := ?st121) (stA := ?stA21) (t := ?t21) (x := ?x21) (y := ?y21) (ty := ?ty21) (pos := ?pos21) (after := ?af21) (n := ?n21) (b := ?b21) (h := ?h21) (hl := ?hl21) (hf := ?hf21) (hp := ?hp21) (hd := ?hd21) (hfr := ?hfr21) (hA := ?hA21) (hst := ?hst21) (hst1 := ?hst121) (hT := ?hT21)
      case h21 => kernel_rfl
      case hl21 => kernel_rfl
      case hf21 =>
        repeat (first | refine FlowT.opA (h := ?_) | refine FlowT.opX (h := ?_) | refine FlowT.opY (h := ?_) | refine FlowT.opZ (h := ?_))
        exact FlowT.done
      case hp21 => rfl
      case hd21 => rfl
      case hfr21 => rfl
      case hA21 =>
        simp (disch := decide) only [pick_nil, pick_t, pick_f, List.cons_append, List.nil_append, Nat.reduceAdd]
        rfl
      case hst21 =>
        unfold storeL
        simp (config := { maxSteps := 1000000 }) (disch := first | assumption | omega) only [TY, ar_u64, binE, eqCells, eqVal, eqOp, step_mk, makeE, List.toList_toArray, Value.oneCell', step_fnv, step_makeFunc, ev_func, callV, cells_agg, cells_int, cells_bool, cells_str, cells_sl, List.size_toArray, flatB_nil, flatB_cons, wid_nil, wid_cons, rowsF_len, rowsF_flat, rowsF_app, step_build, buildE, fillE, indexSlE, indexArrE, shiftE, indexArrV, indexStE, step_move, step_assign, step_pick, step_load, step_nilCheck, step_binOp, step_unOp, step_convert, step_slice, step_fieldAddr, step_field, step_indexAddr, step_index, step_extract, step_len, step_min, step_max, step_alloc, step_box, step_lit, step_app, step_fn, step_store, putV_some, getS_hit, getS_miss, getS_blk, getS_kill, getS_nil, getB_nil, getB_slot, getB_hit, getB_miss, getB_kill0, getB_kill1, ev_tmp, ev_int, ev_bool, ev_str, ev_nil, ev_agg, cl_int, cl_bool, cl_str, cl_nil, loadE, loadV, fieldAddrE, fieldE, partV, indexAddrE, lenE, lenO, strIdx, indexE, boundE, subE, sliceE, convE, minE, scal, nilE, tupE, capsE, optE, pickE, pbin, pint, pstr, pun, ar_in, ar_u32, ar_u8, allocE, boxE, litE, rowsO, leafO, leafsO, frz, clr, rowsOf, flB, Fl.and, Fl.nst, Fl.ok, Fl.isFl, noRef, nstOk, flatAt, hasAll, absL, appN, Fl.isNd, asN, storeN, Nat.reduceBNe, destOf, appE, storeE, argO, argsO, boxesO, callG, callE, impE, pvR, pvs, pvRL, pvT, owns, ownsT, ownsR, clrL, withB, PV.kill, PL.kill, PL.names, Blk.kill, PL.live, toPL, resV, resO, compsO, compO, rlsO, rlO, toRes, Leaf.isSc, List.map_cons, List.map_nil, List.all_cons, List.all_nil, List.length_cons, List.length_nil, List.drop_zero, List.drop_succ_cons, List.take_succ_cons, List.take_zero, List.drop_nil, List.take_nil, List.getElem?_cons_zero, List.getElem?_cons_succ, List.getElem?_nil, Option.map_some, Option.map_none, Option.bind_some, Option.isSome_some, Option.isSome_none, List.cons_append, List.nil_append, List.append_nil, if_true, if_false, reduceIte, Nat.reduceLT, Nat.reduceBEq, Nat.reduceLeDiff, Nat.reduceEqDiff, Nat.reduceAdd, Nat.reduceMul, Nat.zero_add, Nat.add_zero, Nat.mul_one, Int.reduceToNat, Bool.and_true, Bool.true_and, Bool.false_and, Bool.and_false, Bool.not_true, Bool.not_false, Bool.false_eq_true, decide_true, decide_false, and_self, and_true, true_and, or_true, true_or, or_false, false_or, if_pos, if_neg, Int.toNat_natCast, decide_eq_true, decide_eq_false, look_hit, look_miss, Int.ofNat_eq_natCast, Bool.or_false, Bool.or_true, Bool.true_or, Bool.false_or, Bool.not_eq_true, beq_self_eq_true, ne_eq, not_false_eq_true, not_true_eq_false, eq_self, ent_move, ent_assign, ent_pick, ent_load, ent_nilCheck, ent_binOp, ent_unOp, ent_convert, ent_slice, ent_fieldAddr, ent_field, ent_indexAddr, ent_index, ent_extract, ent_len, ent_min, ent_max, ent_alloc, ent_box, ent_lit, ent_build, ent_fn, ent_mk, makeL, ent_makeFunc, valL_some, allocL, boxL, litL, callL, blkL, noRef, *]
        rfl
      case hst121 =>
        simp only [pick_nil, pick_all, List.cons_append, List.nil_append]
        rfl
      (repeat (first | refine WL.opA hΓ (h := ?_) | refine WL.opX hΓ (h := ?_) | refine WL.opY (h := ?_) | refine WL.opZ (h := ?_)))
      with_reducible apply WL.nil
      repeat (first | with_reducible (first | apply W.seq | apply W.block | apply W.skip | apply W.exit | apply W.ret | apply At.seqN | apply At.blkN | apply At.blkE | apply At.blkR | apply At.thenX | apply At.thenR | apply At.blkX rfl) | ((with_reducible apply W.ops); (repeat (first | refine WL.opA hΓ (h := ?_) | refine WL.opX hΓ (h := ?_) | refine WL.opY (h := ?_) | refine WL.opZ (h := ?_))); with_reducible apply WL.nil) | refine W.condT (h := ?_) | refine W.condF (h := ?_))
      refine At.retA (by rw [Tryz.results3]) (he := rfl)
    · have hr2 : szE (totBk ((h, t, la, va, ne, da), l, n, (ch, cr, ci, cs))) (1048576 - (T : Int)) = -1 := if_neg b2
      rw [hr2] at c2
      simp only [initS, argPV, List.map_cons, List.map_nil, toPL, Nat.zero_add]
      repeat (first | with_reducible (first | apply W.seq | apply W.block | apply W.skip | apply W.exit | apply W.ret | apply At.seqN | apply At.blkN | apply At.blkE | apply At.blkR | apply At.thenX | apply At.thenR | apply At.blkX rfl) | ((with_reducible apply W.ops); (repeat (first | refine WL.opA hΓ (h := ?_) | refine WL.opX hΓ (h := ?_) | refine WL.opY (h := ?_) | refine WL.opZ (h := ?_))); with_reducible apply WL.nil) | refine W.condT (h := ?_) | refine W.condF (h := ?_))
      refine At.retA (by rw [Tryz.results3]) (he := rfl)
  · have hr : szE (totAn ((ah, at_, ala, ava, ane, ada), al)) 1048576 = -1 := if_neg b1
    rw [hr] at c1
    simp only [initS, argPV, List.map_cons, List.map_nil, toPL, Nat.zero_add]
    repeat (first | with_reducible (first | apply W.seq | apply W.block | apply W.skip | apply W.exit | apply W.ret | apply At.seqN | apply At.blkN | apply At.blkE | apply At.blkR | apply At.thenX | apply At.thenR | apply At.blkX rfl) | ((with_reducible apply W.ops); (repeat (first | refine WL.opA hΓ (h := ?_) | refine WL.opX hΓ (h := ?_) | refine WL.opY (h := ?_) | refine WL.opZ (h := ?_))); with_reducible apply WL.nil) | refine W.condT (h := ?_) | refine W.condF (h := ?_))
    refine At.retA (by rw [Tryz.results3]) (he := rfl)
end Go.Proofs.YtimnogjgokljbaaGreatDoor
