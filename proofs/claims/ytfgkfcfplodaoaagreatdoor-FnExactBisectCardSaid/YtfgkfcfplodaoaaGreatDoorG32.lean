/-
  Put together: PEvBisS PMark.
-/
import Derived.Test.YtfgkfcfplodaoaaGreatDoorHPEvBis
import Derived.Test.YtfgkfcfplodaoaaGreatDoorG8
import Derived.Test.YtfgkfcfplodaoaaGreatDoorHPIval
import Derived.Deep.RegionHeld3
section
/-!
  Bisect of spec.
-/
namespace Go.Proofs.YtfgkfcfplodaoaaGreatDoor
set_option maxRecDepth 100000
set_option linter.unusedVariables false
set_option linter.unusedSimpArgs false
open Go Go.RowKit
set_option maxHeartbeats 16000000
set_option linter.unusedVariables false
set_option linter.unusedSimpArgs false

theorem bisS_s : Sound Tryz.prog 19 (mdl okBi aBi gBi) := by
  refine Sound.again μBi aBi_inj fun N ih => ?_
  refine Sound.mdl Tryz.func19 rfl Tryz.ntmps19 ?_
  rintro ⟨⟨p, s⟩, ⟨⟨ah, at_, ala, ava, ane, ada⟩, al⟩, l, to, now⟩ w ⟨⟨hal, hl, hto, hah⟩, hμ⟩
  refine ⟨by simp, ?_⟩
  dsimp only at hal hl hto hah hμ
  replace hμ : (to - ah).toNat < N + 1 := hμ
  have hAt : Has Tryz.prog 64 := has_of Tryz.func64 rfl rfl
  have hΓ : GSound Tryz.prog (look [(65, mCopyA), (66, mVerify), (22, mSkip), (19, mdl (fun x => okBi x ∧ μBi x < N) aBi gBi)]) := env_cons (has_of Tryz.func65 rfl rfl) copyAS_s (env_cons (has_of Tryz.func66 rfl rfl) verifyS_s (env_cons (has_of Tryz.func22 rfl rfl) skipS_s (env_cons (has_of Tryz.func19 rfl rfl) ih env_nil)))
  have hlen := bkRows_len l
  have c2 := mCopyA_eq ((ah, at_, ala, ava, ane, ada), al) hal
  have hnil : rowsF cInt [] = [] := rfl
  have hone : rowsF cInt [to] = [[.sc (.int .i64 to)]] := rfl
  dsimp only [aAn, rAn, rowsAn] at c2
  simp only [initS, argPV, List.map_cons, List.map_nil, toPL, Nat.zero_add]
  repeat (first | refine zN ?_ | (refine zO ?_; (repeat (first | refine za hΓ ?_ | refine zb hΓ ?_ | refine zc ?_ | refine zd ?_)); refine zE ?_) | refine zT ?_ | refine zF ?_ | with_reducible apply At.blkX rfl)
  refine zO ?_
  (repeat (first | refine za hΓ ?_ | refine zb hΓ ?_ | refine zc ?_ | refine zd ?_))
  refine WL.opAt l to hAt (by have := hl.1; omega) (hyes := ?_) (hno := ?_)
  · intro k hk e2 e3
    have hb := bkOf_some hk e2 e3
    have hok := hl.2 l[k] (List.getElem_mem hk)
    clear e3
    generalize l[k] = b at *
    obtain ⟨⟨h, t, la, va, ne, da⟩, b1, b2, ⟨ch, cr, ci, cs⟩⟩ := b
    replace e2 : h = to := e2
    subst e2
    obtain ⟨o1, o2, o3⟩ := hok
    dsimp only at o1 o2 o3
    dsimp only [bkPL]
    by_cases q1 : h ≤ ah
    · have hv := bis_low (t := (p, s)) (a := ((ah, at_, ala, ava, ane, ada), al)) (l := l) (to := h) (now := now) q1
      clear hb
      (repeat (first | refine za hΓ ?_ | refine zb hΓ ?_ | refine zc ?_ | refine zd ?_))
      refine zE ?_
      repeat (first | refine zN ?_ | (refine zO ?_; (repeat (first | refine za hΓ ?_ | refine zb hΓ ?_ | refine zc ?_ | refine zd ?_)); refine zE ?_) | refine zT ?_ | refine zF ?_ | with_reducible apply At.blkX rfl)
      refine At.retA (by rw [Tryz.results19]) (he := ?_)
      simp only [gBi, hv]
      rfl
    · by_cases q2 : h = ah + 1
      · have hv := bis_next (t := (p, s)) (now := now) hb (a := ((ah, at_, ala, ava, ane, ada), al)) q1 q2
        have c3 := mVerify_eq (p, s) ((ah, at_, ala, ava, ane, ada), al) (h, t, la, va, ne, da) b2 (ch, cr, ci, cs) now ⟨hal, o2, o3⟩
        have c6 := mCopyA_eq ((h, t, la, va, ne, da), b2) o2
        have hA : verifyA (p, s) ((ah, at_, ala, ava, ane, ada), al) (h, t, la, va, ne, da) b2 (ch, cr, ci, cs) now = if verifyC (p, s) ((ah, at_, ala, ava, ane, ada), al) (h, t, la, va, ne, da) b2 (ch, cr, ci, cs) now = 0 then ((h, t, la, va, ne, da), b2) else ((ah, at_, ala, ava, ane, ada), al) := rfl
        dsimp only [aTr, aAn, aHd, aCm, rSk, rAn, rowsAn] at c3 c6
        dsimp only at hv
        generalize verifyA (p, s) ((ah, at_, ala, ava, ane, ada), al) (h, t, la, va, ne, da) b2 (ch, cr, ci, cs) now = y at *
        generalize verifyC (p, s) ((ah, at_, ala, ava, ane, ada), al) (h, t, la, va, ne, da) b2 (ch, cr, ci, cs) now = code at *
        clear hb
        subst q2
        by_cases h0 : code = 0
        · subst h0
          rw [if_pos rfl] at hA hv
          subst hA
          (repeat (first | refine za hΓ ?_ | refine zb hΓ ?_ | refine zc ?_ | refine zd ?_))
          refine zE ?_
          repeat (first | refine zN ?_ | (refine zO ?_; (repeat (first | refine za hΓ ?_ | refine zb hΓ ?_ | refine zc ?_ | refine zd ?_)); refine zE ?_) | refine zT ?_ | refine zF ?_ | with_reducible apply At.blkX rfl)
          refine At.retA (by rw [Tryz.results19]) (he := ?_)
          simp only [gBi, hv]
          rfl
        · rw [if_neg h0] at hA hv
          subst hA
          by_cases h9 : code = 9
          · subst h9
            clear h0
            (repeat (first | refine za hΓ ?_ | refine zb hΓ ?_ | refine zc ?_ | refine zd ?_))
            refine zE ?_
            repeat (first | refine zN ?_ | (refine zO ?_; (repeat (first | refine za hΓ ?_ | refine zb hΓ ?_ | refine zc ?_ | refine zd ?_)); refine zE ?_) | refine zT ?_ | refine zF ?_ | with_reducible apply At.blkX rfl)
            refine At.retA (by rw [Tryz.results19]) (he := ?_)
            simp only [gBi, hv]
            rfl
          · (repeat (first | refine za hΓ ?_ | refine zb hΓ ?_ | refine zc ?_ | refine zd ?_))
            refine zE ?_
            repeat (first | refine zN ?_ | (refine zO ?_; (repeat (first | refine za hΓ ?_ | refine zb hΓ ?_ | refine zc ?_ | refine zd ?_)); refine zE ?_) | refine zT ?_ | refine zF ?_ | with_reducible apply At.blkX rfl)
            refine At.retA (by rw [Tryz.results19]) (he := ?_)
            simp only [gBi, hv]
            rfl
      · have hA : skipA (p, s) ((ah, at_, ala, ava, ane, ada), al) ((h, t, la, va, ne, da), b1, b2, (ch, cr, ci, cs)) now = if skipC (p, s) ((ah, at_, ala, ava, ane, ada), al) ((h, t, la, va, ne, da), b1, b2, (ch, cr, ci, cs)) now = 0 then ((h, t, la, va, ne, da), b2) else ((ah, at_, ala, ava, ane, ada), al) := rfl
        have c3 := mSkip_eq (p, s) ((ah, at_, ala, ava, ane, ada), al) ((h, t, la, va, ne, da), b1, b2, (ch, cr, ci, cs)) now ⟨hal, o1, o2, o3⟩
        have c6 := mCopyA_eq ((h, t, la, va, ne, da), b2) o2
        dsimp only [aTr, aAn, aBk, rSk, rAn, rowsAn] at c3 c6
        generalize skipA (p, s) ((ah, at_, ala, ava, ane, ada), al) ((h, t, la, va, ne, da), b1, b2, (ch, cr, ci, cs)) now = y at *
        by_cases h0 : skipC (p, s) ((ah, at_, ala, ava, ane, ada), al) ((h, t, la, va, ne, da), b1, b2, (ch, cr, ci, cs)) now = 0
        · have hv := bis_skip (t := (p, s)) (now := now) hb (a := ((ah, at_, ala, ava, ane, ada), al)) q1 q2 h0
          rw [h0] at hA c3
          rw [if_pos rfl] at hA
          subst hA
          clear hb h0
          dsimp only at hv
          (repeat (first | refine za hΓ ?_ | refine zb hΓ ?_ | refine zc ?_ | refine zd ?_))
          refine zE ?_
          repeat (first | refine zN ?_ | (refine zO ?_; (repeat (first | refine za hΓ ?_ | refine zb hΓ ?_ | refine zc ?_ | refine zd ?_)); refine zE ?_) | refine zT ?_ | refine zF ?_ | with_reducible apply At.blkX rfl)
          refine At.retA (by rw [Tryz.results19]) (he := ?_)
          simp only [gBi, hv]
          rfl
        · rw [if_neg h0] at hA
          subst hA
          by_cases h9 : skipC (p, s) ((ah, at_, ala, ava, ane, ada), al) ((h, t, la, va, ne, da), b1, b2, (ch, cr, ci, cs)) now = 9
          · rw [h9] at c3
            obtain ⟨m1, m2, m3, m4⟩ := mid_in hb (a := ((ah, at_, ala, ava, ane, ada), al)) q1 q2 h9
            obtain ⟨d1, d2⟩ := bis_deep hb (a := ((ah, at_, ala, ava, ane, ada), al)) q1 q2 h9
            dsimp only at m1 m2 m3 m4 d1 d2
            have c4 : mdl (fun x => okBi x ∧ μBi x < N) aBi gBi [aTr (p, s), aAn ((ah, at_, ala, ava, ane, ada), al), aBS l, aI ((ah + h).tdiv 2), aI now] = some (rBi (bis (p, s) ((ah, at_, ala, ava, ane, ada), al) l ((ah + h).tdiv 2) now)) := mdl_eq aBi_inj ((p, s), ((ah, at_, ala, ava, ane, ada), al), l, (ah + h).tdiv 2, now) ⟨⟨hal, hl, show (ah + h).tdiv 2 ≤ 9223372036854775807 by omega, hah⟩, show ((ah + h).tdiv 2 - ah).toNat < N by omega⟩
            have zr := bis_ok (t := (p, s)) (a := ((ah, at_, ala, ava, ane, ada), al)) (to := (ah + h).tdiv 2) (now := now) hl hal
            have zl := bis_len (t := (p, s)) (a := ((ah, at_, ala, ava, ane, ada), al)) (l := l) (to := (ah + h).tdiv 2) (now := now)
            have zt := bis_to (t := (p, s)) (a := ((ah, at_, ala, ava, ane, ada), al)) (l := l) (to := (ah + h).tdiv 2) (now := now)
            have c5 : ∀ x : TAnchor, x.2.length ≤ 1048576 → x.1.1 = (ah + h).tdiv 2 → mdl (fun x => okBi x ∧ μBi x < N) aBi gBi [aTr (p, s), aAn x, aBS l, aI h, aI now] = some (rBi (bis (p, s) x l h now)) := fun x hx1 hx2 => mdl_eq (ok := fun x => okBi x ∧ μBi x < N) (g := gBi) aBi_inj ((p, s), x, l, h, now) ⟨⟨hx1, hl, hto, show -9223372036854775808 ≤ x.1.1 by omega⟩, show (h - x.1.1).toNat < N by omega⟩
            have zl2 := fun x : TAnchor => bis_len (t := (p, s)) (a := x) (l := l) (to := h) (now := now)
            dsimp only at zr zl
            clear hb h9 h0 c2 c6
            generalize bis (p, s) ((ah, at_, ala, ava, ane, ada), al) l ((ah + h).tdiv 2) now = r1 at *
            obtain ⟨⟨⟨rh, rt, rla, rva, rne, rda⟩, rl⟩, hs1, rc⟩ := r1
            dsimp only at zr zl zt d1 d2
            dsimp only [aTr, aAn, rBi, rowsAn] at c4
            by_cases h0 : rc = 0
            · subst h0
              replace zt := zt rfl
              have hv := d2 rfl
              replace c5 := c5 ((rh, rt, rla, rva, rne, rda), rl) zr zt
              replace zl2 := zl2 ((rh, rt, rla, rva, rne, rda), rl)
              clear d1 d2
              generalize bis (p, s) ((rh, rt, rla, rva, rne, rda), rl) l h now = r2 at *
              obtain ⟨⟨⟨th, tt, tla, tva, tne, tda⟩, tl⟩, hs2, tc⟩ := r2
              dsimp only [aTr, aAn, rBi, rowsAn] at c5
              dsimp only at zl2 hv
              have k1 := rowsF_len cInt hs1
              have k2 := rowsF_len cInt hs2
              have ka : rowsF cInt hs1 ++ rowsF cInt hs2 = rowsF cInt (hs1 ++ hs2) := by unfold rowsF; rw [List.map_append]
              have w2 : wid 1 (rowsF cInt hs2) := rowsF_wid (f := cInt) (s := 1) (fun _ => rfl) hs2
              have kl : (hs1 ++ hs2).length ≤ 2000000 := by rw [List.length_append]; omega
              have kl1 : hs1.length ≤ 2000000 := by omega
              have kl2 : hs2.length ≤ 2000000 := by omega
              clear zl zl2 zt zr
              (repeat (first | refine za hΓ ?_ | refine zb hΓ ?_ | refine zc ?_ | refine zd ?_))
              refine zE ?_
              repeat (first | refine zN ?_ | (refine zO ?_; (repeat (first | refine za hΓ ?_ | refine zb hΓ ?_ | refine zc ?_ | refine zd ?_)); refine zE ?_) | refine zT ?_ | refine zF ?_ | with_reducible apply At.blkX rfl)
              refine W.subA [.slot 25 (one (.ptr 25 0)), .blk 25 (.box [.sc (.int .i64 th), .sc (.int .i64 tt), .sc (.string tla), .sc (.string tva), .sc (.string tne), .sc (.string tda), .all 6126]), .blk 6126 (.arr .ft 76 2 (rowsF cVal tl)), .slot 23 (one (.all 64111)), .blk 64111 (.arr .ft 3 1 (rowsF cInt hs1)), .slot 26 (one (.all 64126)), .blk 64126 (.arr .ft 3 1 (rowsF cInt hs2)), .slot 27 (vI tc), .slot 10 (one (.ptr 10 0)), .blk 10 (.box [.sc (.int .i64 0), .sc (.int .i64 0), .sc (.string ByteArray.empty), .sc (.string ByteArray.empty), .sc (.string ByteArray.empty), .sc (.string ByteArray.empty), .nil])] (h := ?_)
              refine AllGo.start hΓ (h := ?_)
              refine AllGo.add 0 0 (h := ?_)
              refine AllGo.add 0 1 (h := ?_)
              refine AllGo.add 1 1 (h := ?_)
              refine AllGo.add 0 2 (h := ?_)
              refine AllGo.add 1 2 (h := ?_)
              refine AllGo.add 2 2 (h := ?_)
              refine AllGo.add 3 2 (h := ?_)
              refine AllGo.add 6 3 (h := ?_)
              refine AllGo.add 7 3 (h := ?_)
              refine AllGo.add 0 4 (h := ?_)
              refine AllGo.add 1 4 (h := ?_)
              refine AllGo.add 2 4 (h := ?_)
              refine AllGo.add 3 4 (h := ?_)
              refine AllGo.add 4 4 (h := ?_)
              refine AllGo.add 5 4 (h := ?_)
              refine AllGo.add 6 4 (h := ?_)
              refine AllGo.add 7 4 (h := ?_)
              refine AllGo.add 14 4 (h := ?_)
              refine AllGo.add 15 4 (h := ?_)
              refine AllGo.add 15 5 (h := ?_)
              refine AllGo.add 31 5 (h := ?_)
              refine AllGo.add 47 6 (h := ?_)
              refine AllGo.add 63 6 (h := ?_)
              refine AllGo.add 127 7 (h := ?_)
              refine AllGo.done hΓ [(0, 0), (0, 1), (0, 2), (0, 4), (1, 1), (1, 2), (1, 4), (2, 0), (2, 2), (2, 4), (3, 2), (3, 4), (4, 0), (4, 1), (4, 4), (5, 1), (5, 4), (6, 0), (6, 3), (6, 4), (7, 3), (7, 4), (14, 0), (14, 4), (15, 4), (15, 5), (16, 0), (16, 1), (16, 2), (17, 1), (17, 2), (18, 0), (18, 2), (19, 2), (20, 0), (20, 1), (21, 1), (22, 0), (22, 3), (23, 3), (30, 0), (31, 5), (47, 4), (47, 6), (63, 6), (111, 4), (127, 7)] (hp := ?hp1) (hD := ?hD1) (h0 := ?h01) (hS := ?hS1) (stE := ?stE1) (hE := ?hE1) (hT := ?hT1)
              case hp1 => kernel_rfl
              case hD1 => kernel_rfl
              case h01 => rfl
              case hS1 =>
                repeat (refine List.forall_mem_cons.2 ⟨StepAt.mk' (ho := by rfl) (hg := by rfl) (hm := by simp only [tabJ, eq_self, Nat.reduceEqDiff, reduceIte] <;> rfl) (hn := by simp only [tabJ, eq_self, Nat.reduceEqDiff, Nat.reduceAdd, Nat.reducePow, reduceIte] <;> rfl) (hs := by simp (config := { maxSteps := 1000000 }) (disch := first | assumption | omega) only [TY, ar_u64, binE, eqCells, eqVal, eqOp, step_mk, makeE, List.toList_toArray, Value.oneCell', step_fnv, step_makeFunc, ev_func, callV, cells_agg, cells_int, cells_bool, cells_str, cells_sl, List.size_toArray, flatB_nil, flatB_cons, wid_nil, wid_cons, rowsF_len, rowsF_flat, rowsF_app, step_build, buildE, fillE, indexSlE, indexArrE, shiftE, indexArrV, indexStE, step_move, step_assign, step_pick, step_load, step_nilCheck, step_binOp, step_unOp, step_convert, step_slice, step_fieldAddr, step_field, step_indexAddr, step_index, step_extract, step_len, step_min, step_max, step_alloc, step_box, step_lit, step_app, step_fn, step_store, putV_some, getS_hit, getS_miss, getS_blk, getS_kill, getS_nil, getB_nil, getB_slot, getB_hit, getB_miss, getB_kill0, getB_kill1, ev_tmp, ev_int, ev_bool, ev_str, ev_nil, ev_agg, cl_int, cl_bool, cl_str, cl_nil, loadE, loadV, fieldAddrE, fieldE, partV, indexAddrE, lenE, lenO, strIdx, indexE, boundE, subE, sliceE, convE, minE, scal, nilE, tupE, capsE, optE, pickE, pbin, pint, pstr, pun, ar_in, ar_u32, ar_u8, allocE, boxE, litE, rowsO, leafO, leafsO, frz, clr, rowsOf, flB, Fl.and, Fl.nst, Fl.ok, Fl.isFl, noRef, nstOk, flatAt, hasAll, absL, appN, Fl.isNd, asN, storeN, Nat.reduceBNe, destOf, appE, storeE, argO, argsO, boxesO, callG, callE, impE, pvR, pvs, pvRL, pvT, owns, ownsT, ownsR, clrL, withB, PV.kill, PL.kill, PL.names, Blk.kill, PL.live, toPL, resV, resO, compsO, compO, rlsO, rlO, toRes, Leaf.isSc, List.map_cons, List.map_nil, List.all_cons, List.all_nil, List.length_cons, List.length_nil, List.drop_zero, List.drop_succ_cons, List.take_succ_cons, List.take_zero, List.drop_nil, List.take_nil, List.getElem?_cons_zero, List.getElem?_cons_succ, List.getElem?_nil, Option.map_some, Option.map_none, Option.bind_some, Option.isSome_some, Option.isSome_none, List.cons_append, List.nil_append, List.append_nil, if_true, if_false, reduceIte, Nat.reduceLT, Nat.reduceBEq, Nat.reduceLeDiff, Nat.reduceEqDiff, Nat.reduceAdd, Nat.reduceMul, Nat.zero_add, Nat.add_zero, Nat.mul_one, Int.reduceToNat, Bool.and_true, Bool.true_and, Bool.false_and, Bool.and_false, Bool.not_true, Bool.not_false, Bool.false_eq_true, decide_true, decide_false, and_self, and_true, true_and, or_true, true_or, or_false, false_or, if_pos, if_neg, Int.toNat_natCast, decide_eq_true, decide_eq_false, look_hit, look_miss, Int.ofNat_eq_natCast, Bool.or_false, Bool.or_true, Bool.true_or, Bool.false_or, Bool.not_eq_true, beq_self_eq_true, ne_eq, not_false_eq_true, not_true_eq_false, eq_self, *] <;> rfl) (hb := by simp (disch := omega) only [Sub, SubL, getS_hit, getS_miss, getS_blk, getS_kill, getS_nil, getB_nil, getB_slot, getB_hit, getB_miss, getB_kill0, getB_kill1, lsNms, vsNms, PL.nms, PV.nms, Blk.nms, bound, PV.kill, PL.kill, PL.names, List.append_nil, List.nil_append, List.cons_append, and_true, true_and, and_self, *] <;> (repeat' apply And.intro) <;> rfl), ?_⟩)
                exact List.forall_mem_nil _
              case hE1 => simp only [tabJ, eq_self, Nat.reduceEqDiff, List.length_cons, List.length_nil, Nat.reduceAdd, Nat.reducePow, Nat.reduceSub, reduceIte] <;> rfl
              with_reducible apply WL.nil
              repeat (first | refine zN ?_ | (refine zO ?_; (repeat (first | refine za hΓ ?_ | refine zb hΓ ?_ | refine zc ?_ | refine zd ?_)); refine zE ?_) | refine zT ?_ | refine zF ?_ | with_reducible apply At.blkX rfl)
              refine At.retA (by rw [Tryz.results19]) (he := ?_)
              simp only [gBi, hv]
            · have hv := d1 h0
              clear d1 d2 c5 zl2 zl zt zr
              (repeat (first | refine za hΓ ?_ | refine zb hΓ ?_ | refine zc ?_ | refine zd ?_))
              refine zE ?_
              repeat (first | refine zN ?_ | (refine zO ?_; (repeat (first | refine za hΓ ?_ | refine zb hΓ ?_ | refine zc ?_ | refine zd ?_)); refine zE ?_) | refine zT ?_ | refine zF ?_ | with_reducible apply At.blkX rfl)
              refine At.retA (by rw [Tryz.results19]) (he := ?_)
              simp only [gBi, hv]
          · have hv := bis_stop (t := (p, s)) (now := now) hb (a := ((ah, at_, ala, ava, ane, ada), al)) q1 q2 h0 h9
            generalize skipC (p, s) ((ah, at_, ala, ava, ane, ada), al) ((h, t, la, va, ne, da), b1, b2, (ch, cr, ci, cs)) now = code at *
            clear hb
            (repeat (first | refine za hΓ ?_ | refine zb hΓ ?_ | refine zc ?_ | refine zd ?_))
            refine zE ?_
            repeat (first | refine zN ?_ | (refine zO ?_; (repeat (first | refine za hΓ ?_ | refine zb hΓ ?_ | refine zc ?_ | refine zd ?_)); refine zE ?_) | refine zT ?_ | refine zF ?_ | with_reducible apply At.blkX rfl)
            refine At.retA (by rw [Tryz.results19]) (he := ?_)
            simp only [gBi, hv]
            rfl
  · intro e2
    have hv := bis_none (t := (p, s)) (a := ((ah, at_, ala, ava, ane, ada), al)) (to := to) (now := now) (bkOf_none e2)
    clear e2
    dsimp only [zPL]
    (repeat (first | refine za hΓ ?_ | refine zb hΓ ?_ | refine zc ?_ | refine zd ?_))
    refine zE ?_
    repeat (first | refine zN ?_ | (refine zO ?_; (repeat (first | refine za hΓ ?_ | refine zb hΓ ?_ | refine zc ?_ | refine zd ?_)); refine zE ?_) | refine zT ?_ | refine zF ?_ | with_reducible apply At.blkX rfl)
    refine At.retA (by rw [Tryz.results19]) (he := ?_)
    simp only [gBi, hv]
    rfl
end Go.Proofs.YtfgkfcfplodaoaaGreatDoor

end
section
/-!
  markText, by a contract; marking and holding slices of strings, numbers and truths.
-/
namespace Go.Proofs.YtfgkfcfplodaoaaGreatDoor
set_option maxRecDepth 100000
set_option linter.unusedVariables false
set_option linter.unusedSimpArgs false
open Go.RowKit

/-- a string made of bytes -/
def bs (l : List UInt8) : ByteArray := ⟨l.toArray⟩
def mdig : Nat → Nat → List UInt8 → List UInt8
  | 0, _, out => out
  | f + 1, k, out => if k = 0 then out else mdig f (k / 10) (UInt8.ofNat (48 + k % 10) :: out)
theorem mdig_same : ∀ (f g k : Nat) (out : List UInt8), k < f → k < g → mdig f k out = mdig g k out := by
  intro f
  induction f with
  | zero => intro g k out h; omega
  | succ f ih =>
    intro g k out h1 h2
    cases g with
    | zero => omega
    | succ g =>
      rw [mdig, mdig]
      by_cases h0 : k = 0
      · rw [if_pos h0, if_pos h0]
      · rw [if_neg h0, if_neg h0]
        exact ih g _ _ (by omega) (by omega)
def mrest (k : Nat) (out : List UInt8) : List UInt8 := mdig (k + 1) k out
theorem mrest_zero (out : List UInt8) : mrest 0 out = out := by simp [mrest, mdig]
theorem mrest_step (k : Nat) (out : List UInt8) (h : 0 < k) : mrest k out = mrest (k / 10) (UInt8.ofNat (48 + k % 10) :: out) := by
  unfold mrest
  rw [mdig, if_neg (by omega)]
  exact mdig_same _ _ _ _ (by omega) (by omega)
/-- the text of mark k -/
def mtext (k : Nat) : ByteArray := bs (109 :: mrest k [])

theorem bs_append (a b : List UInt8) : bs a ++ bs b = bs (a ++ b) := ByteArray.mk_append_mk a b
theorem bs_size (a : List UInt8) : (bs a).size = a.length := by simp [bs, ByteArray.size]

theorem byte_conv (W : World) (j : Nat) (h : j < 256) :
    (convert 22 9 (.slice (some ⟨W.heap.size, 0, none⟩) 1 1)).run Tryz.prog (W.alloc (.cells #[.int .u8 (j : Int)] 5)) = .ok (.string (bs [UInt8.ofNat j])) (W.alloc (.cells #[.int .u8 (j : Int)] 5)) := by
  refine run_convert_bytes_back (P := Tryz.prog) _ _ _ 5 ⟨W.heap.size, 0, none⟩ 1 [UInt8.ofNat j] Tryz.underlying22 Tryz.underlying5 Tryz.underlying9 (fun i hi => ?_)
  obtain rfl : i = 0 := by simpa using hi
  have e : (UInt8.ofNat j).toNat = j := by simp [UInt8.toNat_ofNat']; omega
  simp only [List.getElem_cons_zero, e]
  go_simp
set_option maxHeartbeats 1000000 in
theorem markText_any (k : Nat) (w : World) (h0 : 0 < k) (h1 : k ≤ 1099511627776) :
    Calls Tryz.prog 90 #[.int .i64 k] w fun e w' => e = .returned (.string (mtext k)) ∧ Below w.heap.size w w' := by
  have d0 : decide (k = 0) = false := decide_eq_false (by omega)
  go_enter Tryz.func90, Tryz.ntmps90
  go_wp2_with fail
  go_loopw [0, 3] (fun q o wr => ∃ (j : Nat) (out : List UInt8), q = .int .i64 j ∧ o = .string (bs out) ∧ j + out.length ≤ k ∧ mrest j out = mrest k [] ∧ Below w.heap.size w wr) (fun q _ _ => (intOf q).toNat)
  case atStart => exact ⟨k, [], rfl, rfl, by simp, rfl, Below.refl _ _⟩
  case round =>
    obtain ⟨j, out, rfl, rfl, hl, hm, hb⟩ := hrel
    have HM := Lib.hid hm
    clear hm
    by_cases hj : 0 < j
    · have hc := byte_conv wr (48 + j % 10) (by omega)
      have e0 : (((48 + j % 10 : Nat)) : Int) = 48 + (j : Int) % 10 := by omega
      rw [e0] at hc
      obtain ⟨c, ec⟩ : ∃ c, c = UInt8.ofNat (48 + j % 10) := ⟨_, rfl⟩
      rw [← ec] at hc
      have EC := Lib.hid ec
      have z1 := bs_size out
      have z2 := bs_size [c]
      simp only [List.length_cons, List.length_nil] at z2
      have s1 : (bs out).size ≤ 1099511627776 := by omega
      have s2 : (bs [c]).size ≤ 1 := by omega
      clear z1 z2 e0 ec
      go_wp2_with fail
      go_roundw
      case rel => exact ⟨j / 10, c :: out, by go_num, by rw [bs_append]; rfl, by simp only [List.length_cons]; omega, by rw [← HM.out, mrest_step j out hj, EC.out], hb.alloc hb.size _⟩
      case measure => simp [intOf]; omega
    · obtain rfl : j = 0 := by omega
      have z1 := bs_size out
      have s1 : (bs out).size ≤ 1099511627776 := by omega
      clear z1
      go_wp2_with fail
      go_ret
      refine ⟨?_, hb⟩
      have := HM.out
      rw [mrest_zero] at this
      show Ending.returned (.string (bs [109] ++ bs out)) = _
      rw [bs_append, this]
      rfl

theorem markText_at (k : Nat) (q : Int) (w : World) (hq : q = k) (h0 : 0 < k) (h1 : k ≤ 1099511627776) :
    Calls Tryz.prog 90 #[.int .i64 q] w fun e w' => e = .returned (.string (mtext k)) ∧ Below w.heap.size w w' := by
  subst hq
  exact markText_any k w h0 h1

section
variable {α : Type} {w w' : World} {B0 s b off : Nat} {f : α → List Value} {l : List α}
/-- one field of one element is stored -/
theorem OwnAt.field (h : OwnAt w B0 s f b off l) {i j : Nat} {u : Value} {y : α} (hf : ∀ x, (f x).length = s) (hi : i < l.length) (hj : j < s) (hy : f y = (f l[i]).set j u) :
    OwnAt (w.setCell ⟨b, off + i * s + j, none⟩ u) B0 s f b off (l.set i y) := by
  obtain ⟨h1, h2, h3, h4⟩ := h
  have hold := h4 i _ (List.getElem?_eq_getElem hi) j _ (List.getElem?_eq_getElem (by rw [hf]; exact hj))
  refine ⟨h1, by simpa [World.setCell] using h2, fun o => by simpa using h3 o, fun i' x hx j' u' hu => ?_⟩
  have hj' : j' < s := by
    have := (List.getElem?_eq_some_iff.1 hu).1
    rwa [hf] at this
  by_cases hii : i' = i
  · subst hii
    have hx' : x = y := by
      rw [List.getElem?_set_self hi] at hx
      injection hx with hx
      exact hx.symm
    subst hx'
    rw [hy] at hu
    by_cases hjj : j' = j
    · subst hjj
      rw [List.getElem?_set_self (by rw [hf]; exact hj)] at hu
      injection hu with hu
      subst hu
      exact World.cell?_setCell_same _ _ _ hold
    · rw [List.getElem?_set_ne (by omega)] at hu
      rw [World.cell?_setCell_other _ _ _ _ (by intro e; simp only [Addr.mk.injEq, true_and, and_true] at e; omega)]
      exact h4 i' _ (List.getElem?_eq_getElem hi) j' u' hu
  · rw [List.getElem?_set_ne (by omega)] at hx
    rw [World.cell?_setCell_other _ _ _ _ (by
      intro e
      simp only [Addr.mk.injEq, true_and, and_true] at e
      apply hii
      have e1 : i' * s + j' = i * s + j := by omega
      have m1 : (i' * s + j') / s = i' := by rw [Nat.mul_comm, Nat.mul_add_div (by omega), Nat.div_eq_of_lt hj', Nat.add_zero]
      have m2 : (i * s + j) / s = i := by rw [Nat.mul_comm, Nat.mul_add_div (by omega), Nat.div_eq_of_lt hj, Nat.add_zero]
      rw [← m1, ← m2, e1])]
    exact h4 i' x hx j' u' hu
end

/-- a slice whose first i elements are marks, from k on, n marks each -/
def marks {α : Type} (mk : Nat → α) (n k i : Nat) (l : List α) : List α := (List.range i).map (fun j => mk (k + n * j)) ++ l.drop i
def marked {α : Type} (mk : Nat → α) (n k m : Nat) : List α := (List.range m).map fun j => mk (k + n * j)
section
variable {α : Type} {mk : Nat → α} {n k i : Nat} {l : List α}
theorem marks_zero : marks mk n k 0 l = l := by simp [marks]
theorem marks_all : marks mk n k l.length l = marked mk n k l.length := by simp [marks, marked]
theorem length_marks (h : i ≤ l.length) : (marks mk n k i l).length = l.length := by simp [marks]; omega
theorem length_marked {m : Nat} : (marked mk n k m).length = m := by simp [marked]
theorem marks_next (h : i < l.length) (y : α) (hy : y = mk (k + n * i)) : (marks mk n k i l).set i y = marks mk n k (i + 1) l := by
  subst hy
  unfold marks
  have hl : ((List.range i).map (fun j => mk (k + n * j))).length = i := by simp
  rw [List.set_append_right _ _ (by omega), hl, Nat.sub_self, List.drop_eq_getElem_cons h, List.set_cons_zero, List.range_succ, List.map_append]
  simp
theorem marked_get {m : Nat} (h : i < m) : (marked mk n k m)[i]? = some (mk (k + n * i)) := by
  unfold marked
  rw [List.getElem?_map, List.getElem?_range h]
  rfl
end

/-- what a marking function leaves: the next mark; the marks; nothing else has turned -/
def Marks {α : Type} (B0 s : Nat) (f : α → List Value) (v : Value) (l : List α) (k' : Nat) (w : World) (e : Ending) (w' : World) : Prop :=
  e = .returned (.int .i64 (k' : Int)) ∧ OwnS w' B0 s f v l ∧ (l = [] → w' = w) ∧ w.grownBy w' v.ownBlock

section
variable {α : Type} {w w' : World} {lo hi lo' hi' s B : Nat} {f : α → List Value} {v : Value} {l : List α}
/-- what a marking function leaves, in the words of blocks -/
theorem Marks.own {B0 k' : Nat} {l' : List α} {e : Ending} (h : Marks B0 s f v l' k' w e w') (hi' : OwnI w lo hi s f v l) (hlo : B0 = lo) (hl : l'.length = l.length) :
    e = .returned (.int .i64 (k' : Int)) ∧ OwnI w' lo hi s f v l' ∧ Only lo hi w w' := by
  subst hlo
  obtain ⟨h1, h2, h3, h4⟩ := h
  by_cases hne : l = []
  · have hne' : l' = [] := List.length_eq_zero_iff.1 (by rw [hl, hne]; rfl)
    obtain rfl := h3 hne'
    exact ⟨h1, ⟨h2, fun g hg => absurd hne' hg⟩, ⟨rfl, rfl, rfl, Nat.le_refl _, fun _ _ _ => rfl⟩⟩
  · obtain ⟨b, off, c, rfl, _, _, hat⟩ := hi'.1.at_ hne
    have hb := hi'.2 b hne rfl
    refine ⟨h1, ⟨h2, fun g hg hgb => hi'.2 g hne hgb⟩, ⟨h4.os, h4.tape, h4.output, h4.size, fun k hk hd => h4.block k hk ?_⟩⟩
    simp only [Value.ownBlock, ne_eq, Option.some.injEq]
    have := hat.1
    omega
end

/-- what a holding function leaves -/
def Held (k' : Nat) (w : World) (e : Ending) (w' : World) : Prop := e = .returned (.int .i64 (k' : Int)) ∧ Below w.heap.size w w'

section
variable {a w w' : World} {g : Nat}
theorem only_setCell (h : a.grownBy w (some g)) {p : Addr} (hp : p.block = g) (u : Value) : a.grownBy (w.setCell p u) (some g) :=
  ⟨h.os, h.tape, h.output, by simpa [World.setCell] using h.size, fun i hi hne => (Below.heap_setCell w p u i (by
    rintro rfl
    exact hne (by rw [hp]))).trans (h.block i hi hne)⟩
theorem only_below (h : a.grownBy w (some g)) (k : Below w.heap.size w w') : a.grownBy w' (some g) :=
  ⟨k.os.trans h.os, k.tape.trans h.tape, k.output.trans h.output, Nat.le_trans h.size k.size, fun i hi hne => (k.block i (Nat.lt_of_lt_of_le hi h.size)).trans (h.block i hi hne)⟩
end




end Go.Proofs.YtfgkfcfplodaoaaGreatDoor

end
