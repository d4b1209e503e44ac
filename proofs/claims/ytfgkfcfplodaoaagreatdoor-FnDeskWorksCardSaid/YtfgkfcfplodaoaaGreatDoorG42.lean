/-
  Put together: PEvHexI PEvLightF.
-/
import Derived.Test.YtfgkfcfplodaoaaGreatDoorG41
set_option linter.unusedSimpArgs false
set_option linter.unusedVariables false
set_option maxRecDepth 100000
section
namespace Go.Proofs.YtfgkfcfplodaoaaGreatDoor
open Go Go.RowKit
set_option maxHeartbeats 8000000
theorem hexI_s : Sound Tryz.prog 141 mHex := by
  refine Sound.mdl Tryz.func141 rfl Tryz.ntmps141 ?_
  rintro s w hs
  refine ⟨by simp, ?_⟩
  replace hs : s.size ≤ 1048576 := hs
  have hΓ : GSound Tryz.prog (look []) := env_nil
  have hv : hexS s = bsS (hexK s s.size) := rfl
  have hN := byteN_eq s
  have hT : ({ data := #[48, 49, 50, 51, 52, 53, 54, 55, 56, 57, 97, 98, 99, 100, 101, 102] } : ByteArray) = hexT := rfl
  replace hv := Lib.hid hv
  simp only [initS, argPV, List.map_cons, List.map_nil, toPL, Nat.zero_add]
  rw [hT]
  clear hT
  have hc : (2 : Int) * (s.size : Int) = ((2 * s.size : Nat) : Int) := by omega
  refine zR ?_
  refine zO ?_
  refine zL ?_
  refine WL.opMk0 (e := 5) (s := 1) (by_ := 1) (m := 2 * s.size) (z := .int .u8 0) (hel := ?m1) (hs := ?m2) (hb := ?m3) (hz := ?m4) rfl (by omega) (by omega) (h0 := ?m5) (h1 := ?m6) (by decide) ?_
  case m1 => simp only [TY]
  case m2 => simp only [TY]
  case m3 => simp only [TY]
  case m4 => simp only [TY]
  case m5 => rfl
  case m6 =>
    rw [← hc]
    simp (config := { maxSteps := 1000000 }) (disch := first | assumption | omega) only [TY, ar_u64, binE, eqCells, eqVal, eqOp, step_mk, makeE, List.toList_toArray, Value.oneCell', step_fnv, step_makeFunc, ev_func, callV, cells_agg, cells_int, cells_bool, cells_str, cells_sl, List.size_toArray, flatB_nil, flatB_cons, wid_nil, wid_cons, rowsF_len, rowsF_flat, rowsF_app, step_build, buildE, fillE, indexSlE, indexArrE, shiftE, indexArrV, indexStE, step_move, step_assign, step_pick, step_load, step_nilCheck, step_binOp, step_unOp, step_convert, step_slice, step_fieldAddr, step_field, step_indexAddr, step_index, step_extract, step_len, step_min, step_max, step_alloc, step_box, step_lit, step_app, step_fn, step_store, putV_some, getS_hit, getS_miss, getS_blk, getS_kill, getS_nil, getB_nil, getB_slot, getB_hit, getB_miss, getB_kill0, getB_kill1, ev_tmp, ev_int, ev_bool, ev_str, ev_nil, ev_agg, cl_int, cl_bool, cl_str, cl_nil, loadE, loadV, fieldAddrE, fieldE, partV, indexAddrE, lenE, lenO, strIdx, indexE, boundE, subE, sliceE, convE, minE, scal, nilE, tupE, capsE, optE, pickE, pbin, pint, pstr, pun, ar_in, ar_u32, ar_u8, allocE, boxE, litE, rowsO, leafO, leafsO, frz, clr, rowsOf, flB, Fl.and, Fl.nst, Fl.ok, Fl.isFl, noRef, nstOk, flatAt, hasAll, absL, appN, Fl.isNd, asN, storeN, Nat.reduceBNe, destOf, appE, storeE, argO, argsO, boxesO, callG, callE, impE, pvR, pvs, pvRL, pvT, owns, ownsT, ownsR, clrL, withB, PV.kill, PL.kill, PL.names, Blk.kill, PL.live, toPL, resV, resO, compsO, compO, rlsO, rlO, toRes, Leaf.isSc, List.map_cons, List.map_nil, List.all_cons, List.all_nil, List.length_cons, List.length_nil, List.drop_zero, List.drop_succ_cons, List.take_succ_cons, List.take_zero, List.drop_nil, List.take_nil, List.getElem?_cons_zero, List.getElem?_cons_succ, List.getElem?_nil, Option.map_some, Option.map_none, Option.bind_some, Option.isSome_some, Option.isSome_none, List.cons_append, List.nil_append, List.append_nil, if_true, if_false, reduceIte, Nat.reduceLT, Nat.reduceBEq, Nat.reduceLeDiff, Nat.reduceEqDiff, Nat.reduceAdd, Nat.reduceMul, Nat.zero_add, Nat.add_zero, Nat.mul_one, Int.reduceToNat, Bool.and_true, Bool.true_and, Bool.false_and, Bool.and_false, Bool.not_true, Bool.not_false, Bool.false_eq_true, decide_true, decide_false, and_self, and_true, true_and, or_true, true_or, or_false, false_or, if_pos, if_neg, Int.toNat_natCast, decide_eq_true, decide_eq_false, look_hit, look_miss, Int.ofNat_eq_natCast, Bool.or_false, Bool.or_true, Bool.true_or, Bool.false_or, Bool.not_eq_true, beq_self_eq_true, ne_eq, not_false_eq_true, not_true_eq_false, eq_self, *]
  clear hc
  refine zL ?_
  refine zE ?_
  refine zR ?_
  refine W.loopA (fun k => k ≤ s.size) (fun k : Nat => [.slot 0 (one (.sc (.string s))), .slot 3 (one (.all 8)), .blk 8 (.arr .ft 5 1 (rowsF cU8 (hexK s k))), .slot 4 (vI k)]) (fun k => s.size - k) 0 (Nat.zero_le _) (h := ?_)
  rintro k hk
  have hkl : (hexK s k).length ≤ 2097152 := by rw [hexK_len]; omega
  by_cases hlt : k < s.size
  · have ib := byte_at hlt
    have bl := byteN_lt s k
    have hN2 := byteN_eq hexT
    have i1 := byte_at (s := hexT) (i := byteN s k / 16) (show _ < 16 by omega)
    have i2 := byte_at (s := hexT) (i := byteN s k % 16) (show _ < 16 by omega)
    have happ := cU8_app2 (hexK s k) (byteN hexT (byteN s k / 16)) (byteN hexT (byteN s k % 16))
    rw [← hexK_succ] at happ
    have hz : hexT.size = 16 := rfl
    have s1 : ((byteN s k : Nat) : Int).fdiv (2 ^ min 4 IntKind.u8.bits) = ((byteN s k / 16 : Nat) : Int) := by
      rw [show (2 : Int) ^ min 4 IntKind.u8.bits = 16 from rfl, Int.fdiv_eq_ediv_of_nonneg _ (by omega)]
      omega
    have s2 : bits .and .u8 ((byteN s k : Nat) : Int) 15 = ((byteN s k % 16 : Nat) : Int) := by
      show IntKind.u8.wrap ((BitVec.ofInt 8 ((byteN s k : Nat) : Int) &&& BitVec.ofInt 8 15).toNat : Int) = _
      have h1 : (BitVec.ofInt 8 15).toNat = 2 ^ 4 - 1 := rfl
      rw [BitVec.toNat_and, ofInt_nat (by omega), h1, Nat.and_two_pow_sub_one_eq_mod]
      exact wrap_u8n (by omega)
    generalize hexT = T at *
    refine zR ?_
    refine W.drawB hΓ 12 [[], [], [], [1, 2], [1, 2, 3], [1, 2, 3, 4], [], [], [6, 7], [6, 7, 8], [6, 7, 8, 9], [1, 2, 3, 4, 5, 6, 7, 8, 9, 10], [0, 1, 2, 3, 4, 5, 6, 7, 8, 9, 10, 11], [0, 1, 2, 3, 4, 5, 6, 7, 8, 9, 10, 11, 12]] (Es := ?Es9) (rest := ?rest9) (st1 := ?st19) ?_
    refine zL ?_
    refine zE ?_
    refine zR ?_
    exact At.roundA (k + 1) (by omega) (by omega)
  · have hke : k = s.size := by omega
    subst hke
    have hb := bytes_rows (hexK s s.size)
    refine zR ?_
    refine At.retA (by rw [Tryz.results141]) (he := ?_)
    rw [hv.out]
    rfl
end Go.Proofs.YtfgkfcfplodaoaaGreatDoor

end
section
namespace Go.Proofs.YtfgkfcfplodaoaaGreatDoor
open Go Go.RowKit
set_option maxHeartbeats 8000000
def newX (t : TTrust) (b : TBlock) (now : Int) : TLight := (t, 1, (b.1, b.2.2.1), ([b.1], 1), ([], 0), now)
noncomputable def newB (t : TTrust) (b : TBlock) (now : Int) : Bool := decide (blockOk b) && (decide (lightOk (newX t b now)) && decide (now ≤ expT t b.1.2.1))
abbrev rLtN (x : TLight) : List RL := [.ro (.sc (.int .i64 x.1.1)), .ro (.sc (.int .i64 x.1.2)), .ro (.sc (.int .i64 x.2.1)), .ro (.sc (.int .i64 x.2.2.1.1.1)), .ro (.sc (.int .i64 x.2.2.1.1.2.1)), .ro (.sc (.string x.2.2.1.1.2.2.1)), .ro (.sc (.string x.2.2.1.1.2.2.2.1)), .ro (.sc (.string x.2.2.1.1.2.2.2.2.1)), .ro (.sc (.string x.2.2.1.1.2.2.2.2.2)), .own .ft 76 2 (rowsF cVal x.2.2.1.2), .own .ft 30 6 (rowsF cHeader x.2.2.2.1.1), .ro (.sc (.int .i64 x.2.2.2.1.2)), .ro (.sl []), .ro (.sc (.int .i64 x.2.2.2.2.1.2)), .ro (.sc (.int .i64 x.2.2.2.2.2))]
abbrev rLtZ : List RL := [.ro (.sc (.int .i64 0)), .ro (.sc (.int .i64 0)), .ro (.sc (.int .i64 0)), .ro (.sc (.int .i64 0)), .ro (.sc (.int .i64 0)), .ro (.sc (.string ByteArray.empty)), .ro (.sc (.string ByteArray.empty)), .ro (.sc (.string ByteArray.empty)), .ro (.sc (.string ByteArray.empty)), .ro (.sl []), .ro (.sl []), .ro (.sc (.int .i64 0)), .ro (.sl []), .ro (.sc (.int .i64 0)), .ro (.sc (.int .i64 0))]
abbrev rNew (x : TLight) (b : Bool) : Res := if b = true then .tup [(true, rLtN x), rSc (.bool true)] else .tup [(true, rLtZ), rSc (.bool false)]
abbrev TNew := TTrust × TBlock × Int
abbrev aNew (x : TNew) : List Arg := [aTr x.1, aBk x.2.1, aI x.2.2]
theorem aNew_inj : ∀ x y, aNew x = aNew y → x = y := by
  rintro ⟨⟨p, s⟩, b, n⟩ ⟨⟨p', s'⟩, b', n'⟩ h
  have h2 : [aBk b] = [aBk b'] := by injection h with _ h; injection h with h _; rw [h]
  have h3 := aBk_inj _ _ h2
  simp at h
  simp [h, h3]
noncomputable def mNew := mdl (fun x : TNew => okBkS x.2.1) aNew (fun x => rNew (newX x.1 x.2.1 x.2.2) (newB x.1 x.2.1 x.2.2))
theorem mNew_eq (t : TTrust) (b : TBlock) (now : Int) (h : okBkS b) : mNew [aTr t, aBk b, aI now] = some (rNew (newX t b now) (newB t b now)) := mdl_eq aNew_inj (t, b, now) h
abbrev rLtB (x : TLight) (b : Bool) : Res := .tup [(true, rLt x), rSc (.bool b)]
noncomputable def mSeen := mdl (fun x : TLight × Int => lightOk x.1) (fun x => [aLt x.1, aI x.2]) (fun x => rHdB (getHd x.1.2.2.2.1 x.2))
theorem mSeen_eq (x : TLight) (n : Int) (h : lightOk x) : mSeen [aLt x, aI n] = some (rHdB (getHd x.2.2.2.1 n)) := mdl_eq (by
  rintro ⟨a, b⟩ ⟨a', b'⟩ h
  have h1 : aLt a = aLt a' := by injection h
  have h2 := aLt_inj h1
  simp at h
  simp [h, h2]) (x, n) h
theorem lightOk_len {x : TLight} (h : lightOk x) : x.2.2.1.2.length ≤ 7 ∧ x.2.2.2.1.1.length ≤ 20 ∧ x.2.2.2.2.1.1.length ≤ 6 := ⟨h.2.1.2.1.1.2, h.2.2.1.1.1, tabOk_len h.2.2.2.1⟩
theorem seenI_s : Sound Tryz.prog 150 mSeen := by
  refine Sound.mdl Tryz.func150 rfl Tryz.ntmps150 ?_
  rintro ⟨⟨⟨p, s⟩, st, ⟨⟨h1, h2, h3, h4, h5, h6⟩, v⟩, ⟨l, n⟩, ⟨q, m⟩, now⟩, k⟩ w hx
  refine ⟨by simp, ?_⟩
  replace hx : lightOk ((p, s), st, ((h1, h2, h3, h4, h5, h6), v), (l, n), (q, m), now) := hx
  have hΓ : GSound Tryz.prog (look [(195, mLight), (197, mGetSt)]) := env_cons (has_of Tryz.func195 rfl rfl) lightI_s (env_cons (has_of Tryz.func197 rfl rfl) getStI_s env_nil)
  have hn := lightOk_len hx
  dsimp only at hn
  have c1 := mLight_eq ((p, s), st, ((h1, h2, h3, h4, h5, h6), v), (l, n), (q, m), now) ⟨show v.length ≤ _ by omega, show l.length ≤ _ by omega, show q.length ≤ _ by omega⟩
  rw [decide_eq_true hx] at c1
  have c2 := mGetSt_eq (l, n) k (show l.length ≤ _ by omega)
  have hlen := rowsF_len cHeader l
  clear hx
  generalize getHd (l, n) k = y at *
  obtain ⟨⟨y1, y2, y3, y4, y5, y6⟩, yb⟩ := y
  simp only [initS, argPV, List.map_cons, List.map_nil, toPL, Nat.zero_add]
  refine zR ?_
  refine At.retA (by rw [Tryz.results150]) (he := rfl)
def tickX (x : TLight) (d : Int) : TLight := (x.1, if expT x.1 x.2.2.1.1.2.1 < x.2.2.2.2.2 + d then 2 else x.2.1, x.2.2.1, x.2.2.2.1, x.2.2.2.2.1, x.2.2.2.2.2 + d)
def tickB (x : TLight) (d : Int) : Bool := decide (1 ≤ d ∧ d ≤ 1000) && decide (0 ≤ x.2.2.2.2.2 + d ∧ x.2.2.2.2.2 + d ≤ 1000000)
def tickL (x : TLight) (d : Int) : TLight := if tickB x d = true then tickX x d else x
noncomputable def mTick := mdl (fun x : TLight × Int => lightOk x.1) (fun x => [aLt x.1, aI x.2]) (fun x => rLtB (tickL x.1 x.2) (tickB x.1 x.2))
theorem mTick_eq (x : TLight) (d : Int) (h : lightOk x) : mTick [aLt x, aI d] = some (rLtB (tickL x d) (tickB x d)) := mdl_eq (by
  rintro ⟨a, b⟩ ⟨a', b'⟩ h
  have h1 : aLt a = aLt a' := by injection h
  have h2 := aLt_inj h1
  simp at h
  simp [h, h2]) (x, d) h
theorem tickI_s : Sound Tryz.prog 149 mTick := by
  refine Sound.mdl Tryz.func149 rfl Tryz.ntmps149 ?_
  rintro ⟨⟨⟨p, s⟩, st, ⟨⟨h1, h2, h3, h4, h5, h6⟩, v⟩, ⟨l, n⟩, ⟨q, m⟩, now⟩, d⟩ w hx
  refine ⟨by simp, ?_⟩
  replace hx : lightOk ((p, s), st, ((h1, h2, h3, h4, h5, h6), v), (l, n), (q, m), now) := hx
  have hΓ : GSound Tryz.prog (look [(195, mLight), (196, mCopyL), (139, mWithin), (125, mTime), (126, mExp)]) := env_cons (has_of Tryz.func195 rfl rfl) lightI_s (env_cons (has_of Tryz.func196 rfl rfl) copyLI_s (env_cons (has_of Tryz.func139 rfl rfl) within_s (env_cons (has_of Tryz.func125 rfl rfl) isTime_s (env_cons (has_of Tryz.func126 rfl rfl) expI_s env_nil))))
  have hn := lightOk_len hx
  dsimp only at hn
  have c1 := mLight_eq ((p, s), st, ((h1, h2, h3, h4, h5, h6), v), (l, n), (q, m), now) ⟨show v.length ≤ _ by omega, show l.length ≤ _ by omega, show q.length ≤ _ by omega⟩
  rw [decide_eq_true hx] at c1
  have c2 := mCopyL_eq ((p, s), st, ((h1, h2, h3, h4, h5, h6), v), (l, n), (q, m), now) ⟨show v.length ≤ _ by omega, show l.length ≤ _ by omega, show q.length ≤ _ by omega⟩
  have c3 := mWithin_eq d 1 1000
  have c4 := mTime_eq (now + d)
  have c5 := mExp_eq (p, s) h2
  have hnow : 0 ≤ now ∧ now ≤ 1000000 := hx.2.2.2.2.2.1
  have hlen1 := rowsF_len cVal v
  have hlen2 := rowsF_len cHeader l
  have hlen3 := rowsF_len cPeer q
  have hB : tickB ((p, s), st, ((h1, h2, h3, h4, h5, h6), v), (l, n), (q, m), now) d = (decide (1 ≤ d ∧ d ≤ 1000) && decide (0 ≤ now + d ∧ now + d ≤ 1000000)) := rfl
  have hL : tickL ((p, s), st, ((h1, h2, h3, h4, h5, h6), v), (l, n), (q, m), now) d = if tickB ((p, s), st, ((h1, h2, h3, h4, h5, h6), v), (l, n), (q, m), now) d = true then ((p, s), if expT (p, s) h2 < now + d then 2 else st, ((h1, h2, h3, h4, h5, h6), v), (l, n), (q, m), now + d) else ((p, s), st, ((h1, h2, h3, h4, h5, h6), v), (l, n), (q, m), now) := rfl
  rw [hB] at hL
  clear hx
  generalize expT (p, s) h2 = ex at *
  simp only [initS, argPV, List.map_cons, List.map_nil, toPL, Nat.zero_add]
  by_cases g1 : 1 ≤ d ∧ d ≤ 1000
  · rw [decide_eq_true g1] at c3 hB hL
    by_cases g2 : 0 ≤ now + d ∧ now + d ≤ 1000000
    · rw [decide_eq_true g2] at c4 hB hL
      rw [if_pos (show (true && true) = true from rfl)] at hL
      by_cases g3 : ex < now + d
      · rw [if_pos g3] at hL
        replace hB := Lib.hid hB
        replace hL := Lib.hid hL
        refine zR ?_
        refine W.drawB hΓ 10 [[], [0], [], [2], [], [4], [4, 5], [4, 5, 6], [2, 3, 4, 5, 6, 7], [0, 1, 2, 3, 4, 5, 6, 7, 8]] (Es := ?Es8) (rest := ?rest8) (st1 := ?st18) ?_
        refine zL ?_
        refine zE ?_
        refine zR ?_
        refine At.retA (by rw [Tryz.results149]) (he := ?_)
        rw [hB.out, hL.out]
        rfl
      · rw [if_neg g3] at hL
        replace hB := Lib.hid hB
        replace hL := Lib.hid hL
        refine zR ?_
        refine W.drawB hΓ 10 [[], [0], [], [2], [], [4], [4, 5], [4, 5, 6], [2, 3, 4, 5, 6, 7], [0, 1, 2, 3, 4, 5, 6, 7, 8]] (Es := ?Es12) (rest := ?rest12) (st1 := ?st112) ?_
        refine zL ?_
        refine zE ?_
        refine zR ?_
        refine At.retA (by rw [Tryz.results149]) (he := ?_)
        rw [hB.out, hL.out]
        rfl
    · rw [decide_eq_false g2] at c4 hB hL
      rw [if_neg (by simp)] at hL
      replace hB := Lib.hid hB
      replace hL := Lib.hid hL
      refine zR ?_
      refine At.retA (by rw [Tryz.results149]) (he := ?_)
      rw [hB.out, hL.out]
      rfl
  · rw [decide_eq_false g1] at c3 hB hL
    rw [if_neg (by simp)] at hL
    replace hB := Lib.hid hB
    replace hL := Lib.hid hL
    clear c4
    refine zR ?_
    refine At.retA (by rw [Tryz.results149]) (he := ?_)
    rw [hB.out, hL.out]
    rfl
theorem copyBI_s : Sound Tryz.prog 152 mCopyB := by
  refine Sound.mdl Tryz.func152 rfl Tryz.ntmps152 ?_
  rintro ⟨⟨h, t, la, va, ne, da⟩, b1, b2, ⟨ch, cr, ci, cs⟩⟩ w ⟨h1, h2, h3⟩
  refine ⟨by simp, ?_⟩
  dsimp only at h1 h2 h3
  have hΓ : GSound Tryz.prog (look [(70, mCopyV)]) := env_cons (has_of Tryz.func70 rfl rfl) copyV_s env_nil
  have c1 := mCopyV_eq b1 h1
  have c2 := mCopyV_eq b2 h2
  have k1 := rowsF_len cVal b1
  have k2 := rowsF_len cVal b2
  have k3 := rowsF_len cCSig cs
  have w1 := rowsF_wid (f := cVal) (s := 2) (fun _ => rfl) b1
  have w2 := rowsF_wid (f := cVal) (s := 2) (fun _ => rfl) b2
  have w3 := rowsF_wid (f := cCSig) (s := 2) (fun _ => rfl) cs
  simp only [initS, argPV, List.map_cons, List.map_nil, toPL, Nat.zero_add]
  refine zR ?_
  refine At.retA (by rw [Tryz.results152]) (he := rfl)
theorem newI_s : Sound Tryz.prog 151 mNew := by
  refine Sound.mdl Tryz.func151 rfl Tryz.ntmps151 ?_
  rintro ⟨⟨p, s⟩, ⟨⟨h, t, la, va, ne, da⟩, b1, b2, ⟨ch, cr, ci, cs⟩⟩, now⟩ w ⟨h1, h2, h3⟩
  refine ⟨by simp, ?_⟩
  dsimp only at h1 h2 h3
  have hΓ : GSound Tryz.prog (look [(70, mCopyV), (124, mBlock), (195, mLight), (126, mExp)]) := env_cons (has_of Tryz.func70 rfl rfl) copyV_s (env_cons (has_of Tryz.func124 rfl rfl) blkOkI_s (env_cons (has_of Tryz.func195 rfl rfl) lightI_s (env_cons (has_of Tryz.func126 rfl rfl) expI_s env_nil)))
  have c1 := mCopyV_eq b2 h2
  have c2 := mBlock_eq ((h, t, la, va, ne, da), b1, b2, (ch, cr, ci, cs)) ⟨show b1.length ≤ _ by omega, show b2.length ≤ _ by omega, show cs.length ≤ _ by omega⟩
  have c3 := mLight_eq (newX (p, s) ((h, t, la, va, ne, da), b1, b2, (ch, cr, ci, cs)) now) ⟨show b2.length ≤ _ by omega, Nat.le_trans (Nat.le_of_eq rfl : [(h, t, la, va, ne, da)].length ≤ 1) (by decide), Nat.zero_le _⟩
  have c4 := mExp_eq (p, s) t
  have hB : newB (p, s) ((h, t, la, va, ne, da), b1, b2, (ch, cr, ci, cs)) now = (decide (blockOk ((h, t, la, va, ne, da), b1, b2, (ch, cr, ci, cs))) && (decide (lightOk (newX (p, s) ((h, t, la, va, ne, da), b1, b2, (ch, cr, ci, cs)) now)) && decide (now ≤ expT (p, s) t))) := rfl
  have k2 := rowsF_len cVal b2
  generalize decide (lightOk (newX (p, s) ((h, t, la, va, ne, da), b1, b2, (ch, cr, ci, cs)) now)) = lb at *
  generalize expT (p, s) t = ex at *
  have hx : newX (p, s) ((h, t, la, va, ne, da), b1, b2, (ch, cr, ci, cs)) now = ((p, s), 1, ((h, t, la, va, ne, da), b2), ([(h, t, la, va, ne, da)], 1), ([], 0), now) := rfl
  rw [hx] at c3
  have hr1 : rowsF cHeader [(h, t, la, va, ne, da)] = [[.sc (.int .i64 h), .sc (.int .i64 t), .sc (.string la), .sc (.string va), .sc (.string ne), .sc (.string da)]] := rfl
  have hr2 : rowsF cPeer [] = [] := rfl
  dsimp only [aLt, lLt] at c3
  rw [hr1, hr2] at c3
  simp only [initS, argPV, List.map_cons, List.map_nil, toPL, Nat.zero_add]
  by_cases g1 : blockOk ((h, t, la, va, ne, da), b1, b2, (ch, cr, ci, cs))
  · rw [decide_eq_true g1] at c2 hB
    cases lb with
    | true =>
      by_cases g3 : now ≤ ex
      · rw [decide_eq_true g3] at hB
        replace hB := Lib.hid hB
        clear g1
        refine zR ?_
        refine W.drawB hΓ 14 [[], [], [1], [], [3], [3, 4], [1, 2, 3, 4, 5], [], [7], [7, 8], [7, 8, 9], [], [0, 1, 2, 3, 4, 5, 6, 7, 8, 9, 10, 11], [], [0, 1, 2, 3, 4, 5, 6, 7, 8, 9, 10, 11, 12, 13]] (Es := ?Es26) (rest := ?rest26) (st1 := ?st126) ?_
        refine zL ?_
        refine zE ?_
        refine zR ?_
        refine At.retA (by rw [Tryz.results151]) (he := ?_)
        rw [hB.out]
        rfl
      · rw [decide_eq_false g3] at hB
        replace hB := Lib.hid hB
        clear g1
        refine zR ?_
        refine W.drawB hΓ 14 [[], [], [1], [], [3], [3, 4], [1, 2, 3, 4, 5], [], [7], [7, 8], [7, 8, 9], [], [0, 1, 2, 3, 4, 5, 6, 7, 8, 9, 10, 11], [], [0, 1, 2, 3, 4, 5, 6, 7, 8, 9, 10, 11, 12, 13]] (Es := ?Es30) (rest := ?rest30) (st1 := ?st130) ?_
        refine zL ?_
        refine zE ?_
        refine zR ?_
        refine At.retA (by rw [Tryz.results151]) (he := ?_)
        rw [hB.out]
        rfl
    | false =>
      rw [Bool.false_and] at hB
      replace hB := Lib.hid hB
      clear g1 c4
      refine zR ?_
      refine W.drawB hΓ 14 [[], [], [1], [], [3], [3, 4], [1, 2, 3, 4, 5], [], [7], [7, 8], [7, 8, 9], [], [0, 1, 2, 3, 4, 5, 6, 7, 8, 9, 10, 11], [], [0, 1, 2, 3, 4, 5, 6, 7, 8, 9, 10, 11, 12, 13]] (Es := ?Es34) (rest := ?rest34) (st1 := ?st134) ?_
      refine zL ?_
      refine zE ?_
      refine zR ?_
      refine At.retA (by rw [Tryz.results151]) (he := ?_)
      rw [hB.out]
      rfl
  · rw [decide_eq_false g1, Bool.false_and] at hB
    rw [decide_eq_false g1] at c2
    replace hB := Lib.hid hB
    clear g1 c4 c3
    refine zR ?_
    refine W.drawB hΓ 14 [[], [], [1], [], [3], [3, 4], [1, 2, 3, 4, 5], [], [7], [7, 8], [7, 8, 9], [], [0, 1, 2, 3, 4, 5, 6, 7, 8, 9, 10, 11], [], [0, 1, 2, 3, 4, 5, 6, 7, 8, 9, 10, 11, 12, 13]] (Es := ?Es38) (rest := ?rest38) (st1 := ?st138) ?_
    refine zL ?_
    refine zE ?_
    refine zR ?_
    refine At.retA (by rw [Tryz.results151]) (he := ?_)
    rw [hB.out]
    rfl
end Go.Proofs.YtfgkfcfplodaoaaGreatDoor

end
