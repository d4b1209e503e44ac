/-
  The law of Bisect.
-/
import Derived.Test.YtfgkfcfplodaoaaGreatDoorG32
import Derived.Test.YtfgkfcfplodaoaaGreatDoorHPEvMkC
import Derived.Test.YtfgkfcfplodaoaaGreatDoorG38
namespace Go.Proofs.YtfgkfcfplodaoaaGreatDoor
set_option maxRecDepth 100000
set_option linter.unusedVariables false
set_option linter.unusedSimpArgs false
open Go Go.RowKit
set_option maxHeartbeats 16000000
set_option linter.unusedVariables false
set_option linter.unusedSimpArgs false

/-! rows of numbers: equal, held -/
noncomputable def mEqIS := mdl (fun x : List Int × List Int => x.1.length ≤ 8796093022207 ∧ x.2.length ≤ 8796093022207) (fun x => [aL cInt x.1, aL cInt x.2]) (fun x => rB (decide (x.1 = x.2)))
theorem mEqIS_eq (a b : List Int) (h1 : a.length ≤ 8796093022207) (h2 : b.length ≤ 8796093022207) : mEqIS [aL cInt a, aL cInt b] = some (rB (decide (a = b))) := mdl_eq (by rintro ⟨a, b⟩ ⟨d, e⟩ h; simpa using h) (a, b) ⟨h1, h2⟩
theorem eqIS_s : Sound Tryz.prog 32 mEqIS := Sound.says (fun _ => rfl) fun x vs w hok hr => by
  obtain ⟨a, b⟩ := x
  obtain ⟨h0, hn⟩ := hok
  obtain ⟨h1, h2⟩ := hr
  obtain ⟨v0, e0, r0⟩ := h2 0 _ rfl
  obtain ⟨v1, e1, r1⟩ := h2 1 _ rfl
  match vs, h1 with
  | [x, y], _ =>
    cases e0
    cases e1
    exact eqIntS_any v0 v1 a b w (rep_RdS (fun _ => rfl) (repA_list_inv r0)) (rep_RdS (fun _ => rfl) (repA_list_inv r1)) h0 hn
noncomputable def mHeldI := mdl (fun x : Nat × Nat => 0 < x.1 ∧ x.1 + x.2 ≤ 1099511627776) (fun x => [aL cInt (marked mkInt 1 x.1 x.2), aI (x.1 : Int)]) (fun x => rI ((x.1 + x.2 : Nat) : Int))
theorem mHeldI_eq (k n : Nat) (h0 : 0 < k) (hn : k + n ≤ 1099511627776) : mHeldI [aL cInt (marked mkInt 1 k n), aI (k : Int)] = some (rI ((k + n : Nat) : Int)) := mdl_eq (enc := fun x : Nat × Nat => [aL cInt (marked mkInt 1 x.1 x.2), aI (x.1 : Int)]) (by
  rintro ⟨a, b⟩ ⟨c, d⟩ h
  simp only [List.cons.injEq, Arg.val.injEq, Leaf.sl.injEq, Leaf.sc.injEq, Value.int.injEq, true_and, and_true] at h
  obtain ⟨h1, h2⟩ := h
  have hac : a = c := by omega
  have hl := congrArg List.length h1
  rw [rowsF_len, rowsF_len, length_marked, length_marked] at hl
  rw [hac, hl]) (k, n) ⟨h0, hn⟩
theorem heldI_s : Sound Tryz.prog 38 mHeldI := Sound.says (fun _ => rfl) fun x vs w hok hr => by
  obtain ⟨k, n⟩ := x
  obtain ⟨h0, hn⟩ := hok
  obtain ⟨h1, h2⟩ := hr
  obtain ⟨v0, e0, r0⟩ := h2 0 _ rfl
  obtain ⟨v1, e1, r1⟩ := h2 1 _ rfl
  obtain ⟨x, ex, rx⟩ := r1
  cases ex
  cases rx
  match vs, h1 with
  | [a, b], _ =>
    cases e0
    cases e1
    have h3 := heldIntS_any v0 n k w (rep_RdS (fun _ => rfl) (repA_list_inv r0)) h0 (by omega)
    rw [Nat.one_mul] at h3
    exact h3
theorem markI_own (l : List Int) (k k' : Nat) (h0 : 0 < k) (hk : k' = k + l.length) (hn : k' ≤ 1099511627776) (v : Value) (w : World) (h : OwnS w 0 1 cInt v l) :
    Calls Tryz.prog 36 #[v, .int .i64 (k : Int)] w (MarksW 1 cInt v (marked mkInt 1 k l.length) k' w) := by
  subst hk
  have h3 := markIntS_any v l k 0 w h h0 (by omega)
  rw [Nat.one_mul] at h3
  exact h3.mono fun e w' hm => hm.toW
theorem cInt_one1 : ∀ x : Int, ∀ u ∈ cInt x, u.oneCell' = true := fun x u hu => by simp [cInt] at hu; subst hu; rfl
/-! sizes -/
theorem totBk_in {b : TBlock} (h : totBk b ≤ 1048576) : okBkS b := by
  obtain ⟨h0, l, n, ⟨ch, cr, ci, cs⟩⟩ := b
  have e1 : totBk (h0, l, n, (ch, cr, ci, cs)) = totHeader h0 + (l.length + (n.length + totCm (ch, cr, ci, cs))) := rfl
  have e2 : totCm (ch, cr, ci, cs) = ci.size + (cs.length + csSum cs cs.length) := rfl
  refine ⟨show l.length ≤ _ by omega, show n.length ≤ _ by omega, show cs.length ≤ _ by omega⟩
theorem nB_le (b : TBlock) : nB b ≤ 9 + 2 * totBk b := by
  obtain ⟨h0, l, n, ⟨ch, cr, ci, cs⟩⟩ := b
  have e1 : totBk (h0, l, n, (ch, cr, ci, cs)) = totHeader h0 + (l.length + (n.length + totCm (ch, cr, ci, cs))) := rfl
  have e2 : totCm (ch, cr, ci, cs) = ci.size + (cs.length + csSum cs cs.length) := rfl
  have e3 : nB (h0, l, n, (ch, cr, ci, cs)) = 9 + 2 * l.length + 2 * n.length + 2 * cs.length := rfl
  omega
theorem kB_le (l : List TBlock) (k : Nat) : ∀ i, kB l k i ≤ k + 9 * i + 2 * bkSum l i
  | 0 => by simp [kB, bkSum]
  | i + 1 => by
    have ih := kB_le l k i
    have h1 := nB_le (bkG l i)
    have e1 : kB l k (i + 1) = kB l k i + nB (bkG l i) := rfl
    have e2 : bkSum l (i + 1) = bkSum l i + totBk (bkG l i) := rfl
    omega
theorem totBS_ok {l : List TBlock} (h : totBS l ≤ 1048576) : okBl l ∧ okBSc l ∧ ∀ k, kB l k l.length ≤ k + 12582912 := by
  have hb : ∀ b ∈ l, okBkS b := fun b hb => totBk_in (Nat.le_trans (totBS_in hb) h)
  have hl : l.length ≤ 1048576 := by unfold totBS at h; omega
  refine ⟨⟨hl, hb⟩, ⟨by omega, fun b hq => ?_⟩, fun k => ?_⟩
  · obtain ⟨h1, h2, h3⟩ := hb b hq
    exact ⟨by omega, by omega, show b.2.2.2.2.2.2.length ≤ _ by omega⟩
  · have := kB_le l k l.length
    unfold totBS at h
    omega
theorem bis_len2 {t : TTrust} {a : TAnchor} {l : List TBlock} {to now : Int} : (bis t a l to now).2.1.length ≤ 1000001 := by
  rcases bis_ways (t := t) (l := l) (now := now) a to with h | h | ⟨b, hb, h, h1⟩ | ⟨b, hb, h, h1, h0⟩ | ⟨b, hb, h, h1, h0, h9⟩ | ⟨b, hb, h, h1, h9⟩
  · rw [bis_none h]; simp
  · rw [bis_low h]; simp
  · rw [bis_next hb h h1]
    split <;> simp
  · rw [bis_skip hb h h1 h0]; simp
  · rw [bis_stop hb h h1 h0 h9]; simp
  · obtain ⟨m1, m2, m3, m4⟩ := mid_in hb h h1 h9
    have := bis_len (t := t) (a := a) (l := l) (to := to) (now := now)
    omega
abbrev okBiL (x : TBi) : Prop := okAnZ x.2.1 ∧ okBSz x.2.2.1 ∧ x.2.2.2.1 ≤ 9223372036854775807 ∧ -9223372036854775808 ≤ x.2.1.1.1
theorem lawBisect_s : Sound Tryz.prog 7 (mdl okBiL aBi fun _ => rB true) := by
  refine Sound.mdl Tryz.func7 rfl Tryz.ntmps7 ?_
  rintro ⟨⟨p, s⟩, ⟨⟨ah, at_, ala, ava, ane, ada⟩, al⟩, l, to, now⟩ w ⟨hA, hB, hto, hah⟩
  refine ⟨by simp, ?_⟩
  dsimp only at hA hB hto hah
  have hΓ : GSound Tryz.prog (look [(26, mSzAn), (27, mSzBS), (28, mToTr), (29, mToAn), (30, mToBS), (19, mdl okBi aBi gBi), (17, mdl okBi aBi gBi), (31, mEqAn), (32, mEqIS), (33, mEqBS), (37, mHeldAn), (38, mHeldI)]) := env_cons (has_of Tryz.func26 rfl rfl) szAn_s (env_cons (has_of Tryz.func27 rfl rfl) szBS_s (env_cons (has_of Tryz.func28 rfl rfl) toTr_s (env_cons (has_of Tryz.func29 rfl rfl) toAn_s (env_cons (has_of Tryz.func30 rfl rfl) toBS_s (env_cons (has_of Tryz.func19 rfl rfl) bisS_s (env_cons (has_of Tryz.func17 rfl rfl) bisI_s (env_cons (has_of Tryz.func31 rfl rfl) eqAn_s (env_cons (has_of Tryz.func32 rfl rfl) eqIS_s (env_cons (has_of Tryz.func33 rfl rfl) eqBS_s (env_cons (has_of Tryz.func37 rfl rfl) heldAn_s (env_cons (has_of Tryz.func38 rfl rfl) heldI_s env_nil)))))))))))
  have hMa : Has Tryz.prog 34 := has_of Tryz.func34 rfl rfl
  have hMb : Has Tryz.prog 35 := has_of Tryz.func35 rfl rfl
  have hMi : Has Tryz.prog 36 := has_of Tryz.func36 rfl rfl
  have c1 := mSzAn_eq ((ah, at_, ala, ava, ane, ada), al) 1048576 hA ⟨by omega, by omega⟩
  dsimp only [aAn] at c1
  by_cases b1 : (totAn ((ah, at_, ala, ava, ane, ada), al) : Int) ≤ 1048576
  · have hr : szE (totAn ((ah, at_, ala, ava, ane, ada), al)) 1048576 = 1048576 - totAn ((ah, at_, ala, ava, ane, ada), al) := if_pos b1
    have z1 : al.length ≤ 1048576 := by
      have : totAn ((ah, at_, ala, ava, ane, ada), al) = totHeader (ah, at_, ala, ava, ane, ada) + al.length := rfl
      omega
    rw [hr] at c1
    generalize totAn ((ah, at_, ala, ava, ane, ada), al) = T at *
    have c2 := mSzBS_eq l (1048576 - (T : Int)) hB ⟨by omega, by omega⟩
    have hng : ¬ (1048576 : Int) - (T : Int) < 0 := by omega
    by_cases b2 : (totBS l : Int) ≤ 1048576 - (T : Int)
    · have hr2 : szE (totBS l) (1048576 - (T : Int)) = 1048576 - (T : Int) - totBS l := if_pos b2
      obtain ⟨z2, z3, z4⟩ := totBS_ok (l := l) (by omega)
      rw [hr2] at c2
      generalize totBS l = U at *
      have hng2 : ¬ (1048576 : Int) - (T : Int) - (U : Int) < 0 := by omega
      have c3 := mToTr_eq (p, s)
      have c4 := mToAn_eq ((ah, at_, ala, ava, ane, ada), al) z1
      have c5 := mToBS_eq l z2
      have c6 : mdl okBi aBi gBi [aTr (p, s), aAn ((ah, at_, ala, ava, ane, ada), al), aBS l, aI to, aI now] = some (rBi (bis (p, s) ((ah, at_, ala, ava, ane, ada), al) l to now)) := mdl_eq aBi_inj ((p, s), ((ah, at_, ala, ava, ane, ada), al), l, to, now) ⟨z1, z2, hto, hah⟩
      have c7 := mEqAn_eq ((ah, at_, ala, ava, ane, ada), al) ((ah, at_, ala, ava, ane, ada), al) (show al.length ≤ _ by omega) (show al.length ≤ _ by omega)
      have c8 := mEqBS_eq l l z3 z3
      rw [decide_eq_true rfl] at c7 c8
      have zr := bis_ok (t := (p, s)) (a := ((ah, at_, ala, ava, ane, ada), al)) (to := to) (now := now) z2 z1
      have zl := bis_len2 (t := (p, s)) (a := ((ah, at_, ala, ava, ane, ada), al)) (l := l) (to := to) (now := now)
      generalize bis (p, s) ((ah, at_, ala, ava, ane, ada), al) l to now = r at *
      obtain ⟨⟨⟨rh, rt, rla, rva, rne, rda⟩, rl⟩, hs, k⟩ := r
      dsimp only at zr zl
      have c9 := mEqAn_eq ((rh, rt, rla, rva, rne, rda), rl) ((rh, rt, rla, rva, rne, rda), rl) (show rl.length ≤ _ by omega) (show rl.length ≤ _ by omega)
      have c9i := mEqIS_eq hs hs (by omega) (by omega)
      rw [decide_eq_true rfl] at c9 c9i
      have c10 := mHeldAn_eq (rh, rt, rla, rva, rne, rda) 1 rl.length (by omega) (by omega)
      have c11 := mHeldI_eq (1 + 2 * rl.length) hs.length (by omega) (by omega)
      have m1 := fun v w => markAn_own (ah, at_, ala, ava, ane, ada) 6050 al 1 (1 + 2 * al.length) (by omega) rfl (by omega) v w
      have zk := z4 (1 + 2 * al.length)
      have zk1 : kB l (1 + 2 * al.length) l.length ≤ 1099511627776 := by omega
      have m3 := fun v w => markAn_own (rh, rt, rla, rva, rne, rda) 6060 rl 1 (1 + 2 * rl.length) (by omega) rfl (by omega) v w
      have m4 := fun v w => markI_own hs (1 + 2 * rl.length) (1 + 2 * rl.length + hs.length) (by omega) rfl (by omega) v w
      have hk0 : 0 < 1 + 2 * al.length := by omega
      have hn1 : ¬ ((kB l (1 + 2 * al.length) l.length : Nat) : Int) < 0 := by omega
      have hn2 : ¬ ((1 + 2 * rl.length : Nat) : Int) < 0 := by omega
      have hn3 : ¬ ((1 + 2 * rl.length + hs.length : Nat) : Int) < 0 := by omega
      dsimp only [aTr, aAn, rAn, rowsAn, rBN, rBi, roI] at c3 c4 c5 c6 c7 c8 c9 c10
      have e1 : ((1 : Nat) : Int) = 1 := rfl
      rw [e1] at c10
      dsimp only [lsAn] at m1 m3
      clear hr hr2 hA hB b1 b2 e1 z2 z3 z4 zk
      simp only [initS, argPV, List.map_cons, List.map_nil, toPL, Nat.zero_add]
      generalize marked mkVal 2 1 rl.length = ml at *
      generalize marked mkVal 2 1 al.length = ma at *
      generalize marked mkInt 1 (1 + 2 * rl.length) hs.length = mi at *
      generalize 1 + 2 * rl.length + hs.length = K4 at *
      generalize 1 + 2 * al.length = K1 at *
      generalize 1 + 2 * rl.length = K3 at *
      repeat (first | refine zN ?_ | (refine zO ?_; (repeat (first | refine za hΓ ?_ | refine zb hΓ ?_ | refine zc ?_ | refine zd ?_)); refine zE ?_) | refine zT ?_ | refine zF ?_ | with_reducible apply At.blkX rfl)
      refine W.lateFA hΓ [[], [0], [], [0, 1, 2], [], [0, 1, 2, 3, 4], [], [], [0, 1, 2, 3, 4, 5, 6, 7], [0, 1, 2, 3, 4, 5, 6, 7, 8], [0, 1, 2, 3, 4, 5, 6, 7, 8, 9], [0, 1, 2, 3, 4, 5, 6, 7, 8, 9], [0, 1, 2, 3, 4, 5, 6, 7, 8, 9], [], [0, 1, 2, 3, 4, 5, 6, 7, 8, 9, 10, 13], [0, 1, 2, 3, 4, 5, 6, 7, 8, 9, 10, 11, 13, 14], [0, 1, 2, 3, 4, 5, 6, 7, 8, 9, 10, 11, 12, 13, 14, 15]] 17 14 (EsA := ?EsA4) (EsB := ?EsB4) (restA := ?rA4) (rest := ?rest4) (t := ?t4) (xo := ?xo4) (yo := ?yo4) (ty := ?ty4) (pos := ?pos4) (after := ?af4) (n := ?n4) (b := ?b4) (stA := ?stA4) (st1 := ?st14) (stE := ?stE4) (h := ?h4) (hxp := by decide) (hoX := ?hoX4) (hfA := ?hfA4) (hpA := ?hpA4) (hdA := ?hdA4) (hfrA := ?hfr4) (hneA := ?hne4) (hA := ?hA4) (hst := ?hst4) (hs1 := ?hs14) (hfB := ?hfB4) (hpB := ?hpB4) (hdB := ?hdB4) (hfrB := ?hfrB4) (hneB := ?hneB4) (hmask := ?hmask4) (hsE := ?hsE4) (hT := ?hT4)
      case h4 => kernel_rfl
      case hoX4 => rfl
      case hfA4 =>
        iterate 17 (first | refine FlowX.skA 14 (h := ?_) | refine FlowX.opA (h := ?_))
        exact FlowX.done
      case hpA4 => rfl
      case hdA4 => rfl
      case hfr4 => rfl
      case hne4 => rfl
      case hA4 =>
        simp (disch := decide) only [pick_nil, pick_t, pick_f, List.cons_append, List.nil_append, Nat.reduceAdd]
        rfl
      case hst4 =>
        unfold storeL
        simp (config := { maxSteps := 1000000 }) (disch := first | assumption | omega) only [TY, ar_u64, binE, eqCells, eqVal, eqOp, step_mk, makeE, List.toList_toArray, Value.oneCell', step_fnv, step_makeFunc, ev_func, callV, cells_agg, cells_int, cells_bool, cells_str, cells_sl, List.size_toArray, flatB_nil, flatB_cons, wid_nil, wid_cons, rowsF_len, rowsF_flat, rowsF_app, step_build, buildE, fillE, indexSlE, indexArrE, shiftE, indexArrV, indexStE, step_move, step_assign, step_pick, step_load, step_nilCheck, step_binOp, step_unOp, step_convert, step_slice, step_fieldAddr, step_field, step_indexAddr, step_index, step_extract, step_len, step_min, step_max, step_alloc, step_box, step_lit, step_app, step_fn, step_store, putV_some, getS_hit, getS_miss, getS_blk, getS_kill, getS_nil, getB_nil, getB_slot, getB_hit, getB_miss, getB_kill0, getB_kill1, ev_tmp, ev_int, ev_bool, ev_str, ev_nil, ev_agg, cl_int, cl_bool, cl_str, cl_nil, loadE, loadV, fieldAddrE, fieldE, partV, indexAddrE, lenE, lenO, strIdx, indexE, boundE, subE, sliceE, convE, minE, scal, nilE, tupE, capsE, optE, pickE, pbin, pint, pstr, pun, ar_in, ar_u32, ar_u8, allocE, boxE, litE, rowsO, leafO, leafsO, frz, clr, rowsOf, flB, Fl.and, Fl.nst, Fl.ok, Fl.isFl, noRef, nstOk, flatAt, hasAll, absL, appN, Fl.isNd, asN, storeN, Nat.reduceBNe, destOf, appE, storeE, argO, argsO, boxesO, callG, callE, impE, pvR, pvs, pvRL, pvT, owns, ownsT, ownsR, clrL, withB, PV.kill, PL.kill, PL.names, Blk.kill, PL.live, toPL, resV, resO, compsO, compO, rlsO, rlO, toRes, Leaf.isSc, List.map_cons, List.map_nil, List.all_cons, List.all_nil, List.length_cons, List.length_nil, List.drop_zero, List.drop_succ_cons, List.take_succ_cons, List.take_zero, List.drop_nil, List.take_nil, List.getElem?_cons_zero, List.getElem?_cons_succ, List.getElem?_nil, Option.map_some, Option.map_none, Option.bind_some, Option.isSome_some, Option.isSome_none, List.cons_append, List.nil_append, List.append_nil, if_true, if_false, reduceIte, Nat.reduceLT, Nat.reduceBEq, Nat.reduceLeDiff, Nat.reduceEqDiff, Nat.reduceAdd, Nat.reduceMul, Nat.zero_add, Nat.add_zero, Nat.mul_one, Int.reduceToNat, Bool.and_true, Bool.true_and, Bool.false_and, Bool.and_false, Bool.not_true, Bool.not_false, Bool.false_eq_true, decide_true, decide_false, and_self, and_true, true_and, or_true, true_or, or_false, false_or, if_pos, if_neg, Int.toNat_natCast, decide_eq_true, decide_eq_false, look_hit, look_miss, Int.ofNat_eq_natCast, Bool.or_false, Bool.or_true, Bool.true_or, Bool.false_or, Bool.not_eq_true, beq_self_eq_true, ne_eq, not_false_eq_true, not_true_eq_false, eq_self, ent_move, ent_assign, ent_pick, ent_load, ent_nilCheck, ent_binOp, ent_unOp, ent_convert, ent_slice, ent_fieldAddr, ent_field, ent_indexAddr, ent_index, ent_extract, ent_len, ent_min, ent_max, ent_alloc, ent_box, ent_lit, ent_build, ent_fn, ent_mk, makeL, ent_makeFunc, valL_some, allocL, boxL, litL, callL, blkL, noRef, *]
        rfl
      case hs14 => rfl
      case hfB4 =>
        iterate 17 (first | refine FlowX.skF 14 (h := ?_) | refine FlowX.opA (h := ?_))
        exact FlowX.done
      case hpB4 => rfl
      case hdB4 => rfl
      case hfrB4 => rfl
      case hneB4 => rfl
      case hmask4 => rfl
      case hsE4 =>
        simp only [pick_nil, pick_all, List.cons_append, List.nil_append]
        rfl
      (repeat (first | refine WL.opA hΓ (h := ?_) | refine WL.opX hΓ (h := ?_) | refine WL.opY (h := ?_) | refine WL.opZ (h := ?_)))
      with_reducible apply WL.nil
      repeat (first | refine zN ?_ | (refine zO ?_; (repeat (first | refine za hΓ ?_ | refine zb hΓ ?_ | refine zc ?_ | refine zd ?_)); refine zE ?_) | refine zT ?_ | refine zF ?_ | with_reducible apply At.blkX rfl)
      refine W.lateFA hΓ [[], [0], [], [], [], [], [0, 1, 2, 3, 4, 5], [0, 1, 2, 3, 4, 5, 6], [0, 1, 2, 3, 4, 5, 6, 7], [0, 1, 2, 3, 4, 5, 6, 7], [0, 1, 2, 3, 4, 5, 6, 7], [], [0, 1, 2, 3, 4, 5, 6, 7, 8, 11], [0, 1, 2, 3, 4, 5, 6, 7, 8, 9, 11, 12], [0, 1, 2, 3, 4, 5, 6, 7, 8, 9, 10, 11, 12, 13]] 15 12 (EsA := ?EsA6) (EsB := ?EsB6) (restA := ?rA6) (rest := ?rest6) (t := ?t6) (xo := ?xo6) (yo := ?yo6) (ty := ?ty6) (pos := ?pos6) (after := ?af6) (n := ?n6) (b := ?b6) (stA := ?stA6) (st1 := ?st16) (stE := ?stE6) (h := ?h6) (hxp := by decide) (hoX := ?hoX6) (hfA := ?hfA6) (hpA := ?hpA6) (hdA := ?hdA6) (hfrA := ?hfr6) (hneA := ?hne6) (hA := ?hA6) (hst := ?hst6) (hs1 := ?hs16) (hfB := ?hfB6) (hpB := ?hpB6) (hdB := ?hdB6) (hfrB := ?hfrB6) (hneB := ?hneB6) (hmask := ?hmask6) (hsE := ?hsE6) (hT := ?hT6)
      case h6 => kernel_rfl
      case hoX6 => rfl
      case hfA6 =>
        iterate 15 (first | refine FlowX.skA 12 (h := ?_) | refine FlowX.opA (h := ?_))
        exact FlowX.done
      case hpA6 => rfl
      case hdA6 => rfl
      case hfr6 => rfl
      case hne6 => rfl
      case hA6 =>
        simp (disch := decide) only [pick_nil, pick_t, pick_f, List.cons_append, List.nil_append, Nat.reduceAdd]
        rfl
      case hst6 =>
        unfold storeL
        simp (config := { maxSteps := 1000000 }) (disch := first | assumption | omega) only [TY, ar_u64, binE, eqCells, eqVal, eqOp, step_mk, makeE, List.toList_toArray, Value.oneCell', step_fnv, step_makeFunc, ev_func, callV, cells_agg, cells_int, cells_bool, cells_str, cells_sl, List.size_toArray, flatB_nil, flatB_cons, wid_nil, wid_cons, rowsF_len, rowsF_flat, rowsF_app, step_build, buildE, fillE, indexSlE, indexArrE, shiftE, indexArrV, indexStE, step_move, step_assign, step_pick, step_load, step_nilCheck, step_binOp, step_unOp, step_convert, step_slice, step_fieldAddr, step_field, step_indexAddr, step_index, step_extract, step_len, step_min, step_max, step_alloc, step_box, step_lit, step_app, step_fn, step_store, putV_some, getS_hit, getS_miss, getS_blk, getS_kill, getS_nil, getB_nil, getB_slot, getB_hit, getB_miss, getB_kill0, getB_kill1, ev_tmp, ev_int, ev_bool, ev_str, ev_nil, ev_agg, cl_int, cl_bool, cl_str, cl_nil, loadE, loadV, fieldAddrE, fieldE, partV, indexAddrE, lenE, lenO, strIdx, indexE, boundE, subE, sliceE, convE, minE, scal, nilE, tupE, capsE, optE, pickE, pbin, pint, pstr, pun, ar_in, ar_u32, ar_u8, allocE, boxE, litE, rowsO, leafO, leafsO, frz, clr, rowsOf, flB, Fl.and, Fl.nst, Fl.ok, Fl.isFl, noRef, nstOk, flatAt, hasAll, absL, appN, Fl.isNd, asN, storeN, Nat.reduceBNe, destOf, appE, storeE, argO, argsO, boxesO, callG, callE, impE, pvR, pvs, pvRL, pvT, owns, ownsT, ownsR, clrL, withB, PV.kill, PL.kill, PL.names, Blk.kill, PL.live, toPL, resV, resO, compsO, compO, rlsO, rlO, toRes, Leaf.isSc, List.map_cons, List.map_nil, List.all_cons, List.all_nil, List.length_cons, List.length_nil, List.drop_zero, List.drop_succ_cons, List.take_succ_cons, List.take_zero, List.drop_nil, List.take_nil, List.getElem?_cons_zero, List.getElem?_cons_succ, List.getElem?_nil, Option.map_some, Option.map_none, Option.bind_some, Option.isSome_some, Option.isSome_none, List.cons_append, List.nil_append, List.append_nil, if_true, if_false, reduceIte, Nat.reduceLT, Nat.reduceBEq, Nat.reduceLeDiff, Nat.reduceEqDiff, Nat.reduceAdd, Nat.reduceMul, Nat.zero_add, Nat.add_zero, Nat.mul_one, Int.reduceToNat, Bool.and_true, Bool.true_and, Bool.false_and, Bool.and_false, Bool.not_true, Bool.not_false, Bool.false_eq_true, decide_true, decide_false, and_self, and_true, true_and, or_true, true_or, or_false, false_or, if_pos, if_neg, Int.toNat_natCast, decide_eq_true, decide_eq_false, look_hit, look_miss, Int.ofNat_eq_natCast, Bool.or_false, Bool.or_true, Bool.true_or, Bool.false_or, Bool.not_eq_true, beq_self_eq_true, ne_eq, not_false_eq_true, not_true_eq_false, eq_self, ent_move, ent_assign, ent_pick, ent_load, ent_nilCheck, ent_binOp, ent_unOp, ent_convert, ent_slice, ent_fieldAddr, ent_field, ent_indexAddr, ent_index, ent_extract, ent_len, ent_min, ent_max, ent_alloc, ent_box, ent_lit, ent_build, ent_fn, ent_mk, makeL, ent_makeFunc, valL_some, allocL, boxL, litL, callL, blkL, noRef, *]
        rfl
      case hs16 => rfl
      case hfB6 =>
        iterate 15 (first | refine FlowX.skF 12 (h := ?_) | refine FlowX.opA (h := ?_))
        exact FlowX.done
      case hpB6 => rfl
      case hdB6 => rfl
      case hfrB6 => rfl
      case hneB6 => rfl
      case hmask6 => rfl
      case hsE6 =>
        simp only [pick_nil, pick_all, List.cons_append, List.nil_append]
        rfl
      (repeat (first | refine WL.opA hΓ (h := ?_) | refine WL.opX hΓ (h := ?_) | refine WL.opY (h := ?_) | refine WL.opZ (h := ?_)))
      with_reducible apply WL.nil
      repeat (first | refine zN ?_ | (refine zO ?_; (repeat (first | refine za hΓ ?_ | refine zb hΓ ?_ | refine zc ?_ | refine zd ?_)); refine zE ?_) | refine zT ?_ | refine zF ?_ | with_reducible apply At.blkX rfl)
      refine W.drawB hΓ 5 [[], [], [1], [0, 1, 2], [0, 1, 2, 3]] (Es := ?Es8) (rest := ?rest8) (st1 := ?st18) ?_
      (repeat (first | refine za hΓ ?_ | refine zb hΓ ?_ | refine zc ?_ | refine zd ?_))
      refine zE ?_
      repeat (first | refine zN ?_ | (refine zO ?_; (repeat (first | refine za hΓ ?_ | refine zb hΓ ?_ | refine zc ?_ | refine zd ?_)); refine zE ?_) | refine zT ?_ | refine zF ?_ | with_reducible apply At.blkX rfl)
      refine zO ?_
      (repeat (first | refine za hΓ ?_ | refine zb hΓ ?_ | refine zc ?_ | refine zd ?_))
      refine WL.opMarkS 6050 1 K1 ma hMa m1 cVal_len cVal_on1 (h := ?_)
      (repeat (first | refine za hΓ ?_ | refine zb hΓ ?_ | refine zc ?_ | refine zd ?_))
      refine zE ?_
      repeat (first | refine zN ?_ | (refine zO ?_; (repeat (first | refine za hΓ ?_ | refine zb hΓ ?_ | refine zc ?_ | refine zd ?_)); refine zE ?_) | refine zT ?_ | refine zF ?_ | with_reducible apply At.blkX rfl)
      refine zO ?_
      (repeat (first | refine za hΓ ?_ | refine zb hΓ ?_ | refine zc ?_ | refine zd ?_))
      refine WL.opMarkB 52 K1 hk0 zk1 hMb (h := ?_)
      (repeat (first | refine za hΓ ?_ | refine zb hΓ ?_ | refine zc ?_ | refine zd ?_))
      refine zE ?_
      generalize kB l K1 l.length = K2 at *
      repeat (first | refine zN ?_ | (refine zO ?_; (repeat (first | refine za hΓ ?_ | refine zb hΓ ?_ | refine zc ?_ | refine zd ?_)); refine zE ?_) | refine zT ?_ | refine zF ?_ | with_reducible apply At.blkX rfl)
      refine zO ?_
      (repeat (first | refine za hΓ ?_ | refine zb hΓ ?_ | refine zc ?_ | refine zd ?_))
      refine WL.opMarkS 6060 1 K3 ml hMa m3 cVal_len cVal_on1 (h := ?_)
      (repeat (first | refine za hΓ ?_ | refine zb hΓ ?_ | refine zc ?_ | refine zd ?_))
      refine zE ?_
      repeat (first | refine zN ?_ | (refine zO ?_; (repeat (first | refine za hΓ ?_ | refine zb hΓ ?_ | refine zc ?_ | refine zd ?_)); refine zE ?_) | refine zT ?_ | refine zF ?_ | with_reducible apply At.blkX rfl)
      refine zO ?_
      (repeat (first | refine za hΓ ?_ | refine zb hΓ ?_ | refine zc ?_ | refine zd ?_))
      refine WL.opMarkR 64060 K3 K4 mi hMi m4 cInt_len cInt_one1 (h := ?_)
      (repeat (first | refine za hΓ ?_ | refine zb hΓ ?_ | refine zc ?_ | refine zd ?_))
      refine zE ?_
      repeat (first | refine zN ?_ | (refine zO ?_; (repeat (first | refine za hΓ ?_ | refine zb hΓ ?_ | refine zc ?_ | refine zd ?_)); refine zE ?_) | refine zT ?_ | refine zF ?_ | with_reducible apply At.blkX rfl)
      refine W.lateFA hΓ [[], [0], [], [0, 1, 2], [], [0, 1, 2, 3, 4], [], [], [0, 1, 2, 3, 4, 5, 6, 7], [0, 1, 2, 3, 4, 5, 6, 7, 8], [0, 1, 2, 3, 4, 5, 6, 7, 8, 9], [0, 1, 2, 3, 4, 5, 6, 7, 8, 9], [0, 1, 2, 3, 4, 5, 6, 7, 8, 9], [], [0, 1, 2, 3, 4, 5, 6, 7, 8, 9, 10, 13], [0, 1, 2, 3, 4, 5, 6, 7, 8, 9, 10, 11, 13, 14], [0, 1, 2, 3, 4, 5, 6, 7, 8, 9, 10, 11, 12, 13, 14, 15]] 17 14 (EsA := ?EsA22) (EsB := ?EsB22) (restA := ?rA22) (rest := ?rest22) (t := ?t22) (xo := ?xo22) (yo := ?yo22) (ty := ?ty22) (pos := ?pos22) (after := ?af22) (n := ?n22) (b := ?b22) (stA := ?stA22) (st1 := ?st122) (stE := ?stE22) (h := ?h22) (hxp := by decide) (hoX := ?hoX22) (hfA := ?hfA22) (hpA := ?hpA22) (hdA := ?hdA22) (hfrA := ?hfr22) (hneA := ?hne22) (hA := ?hA22) (hst := ?hst22) (hs1 := ?hs122) (hfB := ?hfB22) (hpB := ?hpB22) (hdB := ?hdB22) (hfrB := ?hfrB22) (hneB := ?hneB22) (hmask := ?hmask22) (hsE := ?hsE22) (hT := ?hT22)
      case h22 => kernel_rfl
      case hoX22 => rfl
      case hfA22 =>
        iterate 17 (first | refine FlowX.skA 14 (h := ?_) | refine FlowX.opA (h := ?_))
        exact FlowX.done
      case hpA22 => rfl
      case hdA22 => rfl
      case hfr22 => rfl
      case hne22 => rfl
      case hA22 =>
        simp (disch := decide) only [pick_nil, pick_t, pick_f, List.cons_append, List.nil_append, Nat.reduceAdd]
        rfl
      case hst22 =>
        unfold storeL
        simp (config := { maxSteps := 1000000 }) (disch := first | assumption | omega) only [TY, ar_u64, binE, eqCells, eqVal, eqOp, step_mk, makeE, List.toList_toArray, Value.oneCell', step_fnv, step_makeFunc, ev_func, callV, cells_agg, cells_int, cells_bool, cells_str, cells_sl, List.size_toArray, flatB_nil, flatB_cons, wid_nil, wid_cons, rowsF_len, rowsF_flat, rowsF_app, step_build, buildE, fillE, indexSlE, indexArrE, shiftE, indexArrV, indexStE, step_move, step_assign, step_pick, step_load, step_nilCheck, step_binOp, step_unOp, step_convert, step_slice, step_fieldAddr, step_field, step_indexAddr, step_index, step_extract, step_len, step_min, step_max, step_alloc, step_box, step_lit, step_app, step_fn, step_store, putV_some, getS_hit, getS_miss, getS_blk, getS_kill, getS_nil, getB_nil, getB_slot, getB_hit, getB_miss, getB_kill0, getB_kill1, ev_tmp, ev_int, ev_bool, ev_str, ev_nil, ev_agg, cl_int, cl_bool, cl_str, cl_nil, loadE, loadV, fieldAddrE, fieldE, partV, indexAddrE, lenE, lenO, strIdx, indexE, boundE, subE, sliceE, convE, minE, scal, nilE, tupE, capsE, optE, pickE, pbin, pint, pstr, pun, ar_in, ar_u32, ar_u8, allocE, boxE, litE, rowsO, leafO, leafsO, frz, clr, rowsOf, flB, Fl.and, Fl.nst, Fl.ok, Fl.isFl, noRef, nstOk, flatAt, hasAll, absL, appN, Fl.isNd, asN, storeN, Nat.reduceBNe, destOf, appE, storeE, argO, argsO, boxesO, callG, callE, impE, pvR, pvs, pvRL, pvT, owns, ownsT, ownsR, clrL, withB, PV.kill, PL.kill, PL.names, Blk.kill, PL.live, toPL, resV, resO, compsO, compO, rlsO, rlO, toRes, Leaf.isSc, List.map_cons, List.map_nil, List.all_cons, List.all_nil, List.length_cons, List.length_nil, List.drop_zero, List.drop_succ_cons, List.take_succ_cons, List.take_zero, List.drop_nil, List.take_nil, List.getElem?_cons_zero, List.getElem?_cons_succ, List.getElem?_nil, Option.map_some, Option.map_none, Option.bind_some, Option.isSome_some, Option.isSome_none, List.cons_append, List.nil_append, List.append_nil, if_true, if_false, reduceIte, Nat.reduceLT, Nat.reduceBEq, Nat.reduceLeDiff, Nat.reduceEqDiff, Nat.reduceAdd, Nat.reduceMul, Nat.zero_add, Nat.add_zero, Nat.mul_one, Int.reduceToNat, Bool.and_true, Bool.true_and, Bool.false_and, Bool.and_false, Bool.not_true, Bool.not_false, Bool.false_eq_true, decide_true, decide_false, and_self, and_true, true_and, or_true, true_or, or_false, false_or, if_pos, if_neg, Int.toNat_natCast, decide_eq_true, decide_eq_false, look_hit, look_miss, Int.ofNat_eq_natCast, Bool.or_false, Bool.or_true, Bool.true_or, Bool.false_or, Bool.not_eq_true, beq_self_eq_true, ne_eq, not_false_eq_true, not_true_eq_false, eq_self, ent_move, ent_assign, ent_pick, ent_load, ent_nilCheck, ent_binOp, ent_unOp, ent_convert, ent_slice, ent_fieldAddr, ent_field, ent_indexAddr, ent_index, ent_extract, ent_len, ent_min, ent_max, ent_alloc, ent_box, ent_lit, ent_build, ent_fn, ent_mk, makeL, ent_makeFunc, valL_some, allocL, boxL, litL, callL, blkL, noRef, *]
        rfl
      case hs122 => rfl
      case hfB22 =>
        iterate 17 (first | refine FlowX.skF 14 (h := ?_) | refine FlowX.opA (h := ?_))
        exact FlowX.done
      case hpB22 => rfl
      case hdB22 => rfl
      case hfrB22 => rfl
      case hneB22 => rfl
      case hmask22 => rfl
      case hsE22 =>
        simp only [pick_nil, pick_all, List.cons_append, List.nil_append]
        rfl
      (repeat (first | refine WL.opA hΓ (h := ?_) | refine WL.opX hΓ (h := ?_) | refine WL.opY (h := ?_) | refine WL.opZ (h := ?_)))
      with_reducible apply WL.nil
      repeat (first | refine zN ?_ | (refine zO ?_; (repeat (first | refine za hΓ ?_ | refine zb hΓ ?_ | refine zc ?_ | refine zd ?_)); refine zE ?_) | refine zT ?_ | refine zF ?_ | with_reducible apply At.blkX rfl)
      refine At.retA (by rw [Tryz.results7]) (he := rfl)
    · have hr2 : szE (totBS l) (1048576 - (T : Int)) = -1 := if_neg b2
      rw [hr2] at c2
      simp only [initS, argPV, List.map_cons, List.map_nil, toPL, Nat.zero_add]
      repeat (first | refine zN ?_ | (refine zO ?_; (repeat (first | refine za hΓ ?_ | refine zb hΓ ?_ | refine zc ?_ | refine zd ?_)); refine zE ?_) | refine zT ?_ | refine zF ?_ | with_reducible apply At.blkX rfl)
      refine At.retA (by rw [Tryz.results7]) (he := rfl)
  · have hr : szE (totAn ((ah, at_, ala, ava, ane, ada), al)) 1048576 = -1 := if_neg b1
    rw [hr] at c1
    simp only [initS, argPV, List.map_cons, List.map_nil, toPL, Nat.zero_add]
    repeat (first | refine zN ?_ | (refine zO ?_; (repeat (first | refine za hΓ ?_ | refine zb hΓ ?_ | refine zc ?_ | refine zd ?_)); refine zE ?_) | refine zT ?_ | refine zF ?_ | with_reducible apply At.blkX rfl)
    refine At.retA (by rw [Tryz.results7]) (he := rfl)
end Go.Proofs.YtfgkfcfplodaoaaGreatDoor
