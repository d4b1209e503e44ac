/-
  A row of one's own takes another name.
-/
import Derived.Test.YtimnogjgokljbaaEvCu
namespace Go.Proofs.Ytimnogjgokljbaa
set_option maxRecDepth 100000
set_option linter.unusedVariables false
set_option linter.unusedSimpArgs false
open Go Go.RowKit
set_option linter.unusedVariables false
set_option linter.unusedSimpArgs false

section
variable {γ0 : Nat → Option Nat} {w0 : World} {N : Nat} {st : St} {a : Act} {w : World} {Q : Exit → Act → World → Prop} {e : Exit}
theorem R.ren (h : R γ0 w0 N st a w) {t n m el s : Nat} {fl : Fl} {rows : List (List Leaf)} (ht : getS st t = one (.all n)) (hb : getB st n = some (.arr fl el s rows)) (hnm : n ≠ m) (hm9 : m ≠ 999) :
    R γ0 w0 N (.slot t (one (.all m)) :: .blk m (.arr fl el s rows) :: .kill n :: .kill m :: st) a w := by
  obtain ⟨η, γ, hI⟩ := h
  have hI1 := hI.drop m
  generalize hγ1 : (fun b => if γ b = some m then none else γ b) = γ1 at hI1
  have hmn : ¬ m = n := fun e => hnm e.symm
  have hb1 : getB (.kill m :: st) n = some (.arr fl el s rows) := by simp only [getB, if_neg hmn, hb, Option.map_some, Blk.kill]
  have hbm : getB (.kill m :: st) m = none := by simp only [getB, if_true]
  have ht1 : getS (.kill m :: st) t = one (.all n) := by
    simp only [getS, ht, one, PV.kill, List.map_cons, List.map_nil, PL.kill, PL.names]
    simp [hmn, hnm]
  generalize Entry.kill m :: st = st1 at *
  refine ⟨fun k => if k = m then η n else η k, fun b => if γ1 b = some n then some m else γ1 b, ?_⟩
  have hk : Kp w w γ1 (fun b => if γ1 b = some n then some m else γ1 b) := ⟨Nat.le_refl _, fun b _ hg => ⟨by simp [hg], rfl⟩⟩
  have hg3 : ∀ k, k ≠ m → k ≠ n → getB (.slot t (one (.all m)) :: .blk m (.arr fl el s rows) :: .kill n :: st1) k = (getB st1 k).map (Blk.kill n) := fun k h1 h2 => by
    have h1' : ¬ m = k := fun e => h1 e.symm
    have h2' : ¬ n = k := fun e => h2 e.symm
    simp only [getB, if_neg h1', if_neg h2']
  have hg3m : getB (.slot t (one (.all m)) :: .blk m (.arr fl el s rows) :: .kill n :: st1) m = some (.arr fl el s rows) := by simp only [getB, if_true]
  have hg3n : getB (.slot t (one (.all m)) :: .blk m (.arr fl el s rows) :: .kill n :: st1) n = none := by simp only [getB, if_neg hmn, if_true]
  have hn : Nm (getB st1) (getB (.slot t (one (.all m)) :: .blk m (.arr fl el s rows) :: .kill n :: st1)) η (fun k => if k = m then η n else η k) (· ≠ n) := by
    intro k b hkn hbk
    have hkm : k ≠ m := fun e => by subst e; rw [hbm] at hbk; cases hbk
    refine ⟨by simp [hkm], ?_⟩
    have := hg3 k hkm hkn
    rw [hbk] at this
    cases b with
    | arr fl e s rows => exact ⟨fl, rows, this, rfl⟩
    | box ls => exact ⟨_, this⟩
  refine { hI1 with slots := fun t' => ?_, blks := fun k b hbk => ?_, live := fun b k hgb => ?_, low := fun b hb0 hg0 => ?_, pin := fun h9 b ls hgb hbx => ?_, pinA := hI1.pinA.to fun h9 fl1 e1 s1 rows1 hbx => ?_ }
  · by_cases e0 : t = t'
    · subst e0
      have h0 := hI1.slots t
      rw [ht1] at h0
      obtain ⟨l, hl, h1⟩ := h0
      cases hl
      show RepV _ _ _ _ (if t = t then _ else _) _
      rw [if_pos rfl]
      exact ⟨_, rfl, h1.1.trans (by simp), fl, el, s, rows, hg3m⟩
    · show RepV _ _ _ _ (if t = t' then _ else _) _
      rw [if_neg e0]
      exact (hI1.slots t').kill hn hk
  · by_cases hkm : k = m
    · subst hkm
      rw [hg3m] at hbk
      cases hbk
      have h1 := hI1.blks n _ hb1
      obtain ⟨xs, h2, h3, h4, h5, h6⟩ := h1
      have hgs : ∀ b, γ1 b = some n → (if γ1 b = some n then some k else γ1 b) = some k := fun b hb => by simp [hb]
      exact ⟨xs, by simpa using h2, by simpa using h3.kp (hk.vwN hgs), h4, fun b hb => by simp [h5 b (by simpa using hb)], by simpa using h6.kp hgs⟩
    · by_cases hkn : k = n
      · subst hkn
        rw [hg3n] at hbk
        cases hbk
      · rw [hg3 k hkm hkn] at hbk
        obtain ⟨b0, hb0, rfl⟩ := Option.map_eq_some_iff.1 hbk
        have h1 := hI1.blks k b0 hb0
        cases b0 with
        | box ls =>
          obtain ⟨b, us, t2, h2, h3, h4, h5⟩ := h1
          exact ⟨b, us, t2, by simp only [if_neg hkm]; exact h2, by simp [h3, hkn], h4, h5.kill hn hk⟩
        | arr fl e s rows =>
          obtain ⟨xs, h2, h3, h4, h5, h6⟩ := h1
          have hgs : ∀ b, γ1 b = some k → (if γ1 b = some n then some m else γ1 b) = some k := fun b hb => by simp [hb, hkn]
          exact ⟨xs, by simp only [if_neg hkm]; exact h2, by simp only [if_neg hkm]; exact h3.kp (hk.vwN hgs), h4, fun b hb => by simp only [if_neg hkm] at hb; simp [h5 b hb, hkn], by simp only [if_neg hkm]; exact h6.kp hgs⟩
  · by_cases hgn : γ1 b = some n
    · simp only [hgn, if_true, Option.some.injEq] at hgb
      subst hgb
      obtain ⟨h1, h2, h3⟩ := hI1.live b n hgn
      exact ⟨h1, h2.imp (fun h2 => by simpa using h2) (fun h2 => by rw [hg3m]; rw [hb1] at h2; exact h2), by rw [hg3m]; rfl⟩
    · simp only [hgn, if_false] at hgb
      obtain ⟨h1, h2, h3⟩ := hI1.live b k hgb
      have hkm : k ≠ m := fun e => by subst e; rw [hbm] at h3; cases h3
      have hkn : k ≠ n := fun e => hgn (e ▸ hgb)
      refine ⟨h1, h2.imp (fun h2 => by simp only [if_neg hkm]; exact h2) (fun h2 => ?_), ?_⟩
      · rw [hg3 k hkm hkn]
        exact nstB_kill h2
      · rw [hg3 k hkm hkn]
        simpa using h3
  · obtain ⟨h1, h2⟩ := hI1.low b hb0 hg0
    exact ⟨by simp [h1], h2⟩
  · by_cases h1 : (999 : Nat) = m
    · subst h1
      rw [hg3m] at hbx
      cases hbx
    · by_cases h2 : (999 : Nat) = n
      · subst h2
        rw [hg3n] at hbx
        cases hbx
      · rw [hg3 999 h1 h2] at hbx
        obtain ⟨b0, hb0, h3⟩ := Option.map_eq_some_iff.1 hbx
        have hgb1 : γ1 b = some 999 := by
          by_cases hgn : γ1 b = some n
          · simp only [hgn, if_true, Option.some.injEq] at hgb
            exact absurd hgb.symm h1
          · simpa [hgn] using hgb
        cases b0 with
        | box ls0 => exact hI1.pin h9 b ls0 hgb1 hb0
        | arr fl e s rows => cases h3
  · by_cases h2 : (999 : Nat) = n
    · subst h2
      rw [hg3n] at hbx
      cases hbx
    · rw [hg3 999 (fun e => hm9 e.symm) h2] at hbx
      obtain ⟨b0, hb0, h3⟩ := Option.map_eq_some_iff.1 hbx
      cases b0 with
      | box ls0 => cases h3
      | arr fl0 e0 s0 rows0 =>
        cases h3
        exact ⟨if_neg fun e => hm9 e.symm, _, _, hb0, rfl⟩
theorem At.ren {el s : Nat} {fl : Fl} {rows : List (List Leaf)} (t : Nat) (n m : Nat) (hnm : n ≠ m := by decide) (hm9 : m ≠ 999 := by decide) (ht : getS st t = one (.all n) := by simp (config := { maxSteps := 1000000 }) (disch := first | assumption | omega) only [TY, ar_u64, binE, eqCells, eqVal, eqOp, step_mk, makeE, List.toList_toArray, Value.oneCell', step_fnv, step_makeFunc, ev_func, callV, cells_agg, cells_int, cells_bool, cells_str, cells_sl, List.size_toArray, flatB_nil, flatB_cons, wid_nil, wid_cons, rowsF_len, rowsF_flat, rowsF_app, step_build, buildE, fillE, indexSlE, indexArrE, shiftE, indexArrV, indexStE, step_move, step_assign, step_pick, step_load, step_nilCheck, step_binOp, step_unOp, step_convert, step_slice, step_fieldAddr, step_field, step_indexAddr, step_index, step_extract, step_len, step_min, step_max, step_alloc, step_box, step_lit, step_app, step_fn, step_store, putV_some, getS_hit, getS_miss, getS_blk, getS_kill, getS_nil, getB_nil, getB_slot, getB_hit, getB_miss, getB_kill0, getB_kill1, ev_tmp, ev_int, ev_bool, ev_str, ev_nil, ev_agg, cl_int, cl_bool, cl_str, cl_nil, loadE, loadV, fieldAddrE, fieldE, partV, indexAddrE, lenE, lenO, strIdx, indexE, boundE, subE, sliceE, convE, minE, scal, nilE, tupE, capsE, optE, pickE, pbin, pint, pstr, pun, ar_in, ar_u32, ar_u8, allocE, boxE, litE, rowsO, leafO, leafsO, frz, clr, rowsOf, flB, Fl.and, Fl.nst, Fl.ok, Fl.isFl, noRef, nstOk, flatAt, hasAll, absL, appN, Fl.isNd, asN, storeN, Nat.reduceBNe, destOf, appE, storeE, argO, argsO, boxesO, callG, callE, impE, pvR, pvs, pvRL, pvT, owns, ownsT, ownsR, clrL, withB, PV.kill, PL.kill, PL.names, Blk.kill, PL.live, toPL, resV, resO, compsO, compO, rlsO, rlO, toRes, Leaf.isSc, List.map_cons, List.map_nil, List.all_cons, List.all_nil, List.length_cons, List.length_nil, List.drop_zero, List.drop_succ_cons, List.take_succ_cons, List.take_zero, List.drop_nil, List.take_nil, List.getElem?_cons_zero, List.getElem?_cons_succ, List.getElem?_nil, Option.map_some, Option.map_none, Option.bind_some, Option.isSome_some, Option.isSome_none, List.cons_append, List.nil_append, List.append_nil, if_true, if_false, reduceIte, Nat.reduceLT, Nat.reduceBEq, Nat.reduceLeDiff, Nat.reduceEqDiff, Nat.reduceAdd, Nat.reduceMul, Nat.zero_add, Nat.add_zero, Nat.mul_one, Int.reduceToNat, Bool.and_true, Bool.true_and, Bool.false_and, Bool.and_false, Bool.not_true, Bool.not_false, Bool.false_eq_true, decide_true, decide_false, and_self, and_true, true_and, or_true, true_or, or_false, false_or, if_pos, if_neg, Int.toNat_natCast, decide_eq_true, decide_eq_false, look_hit, look_miss, Int.ofNat_eq_natCast, Bool.or_false, Bool.or_true, Bool.true_or, Bool.false_or, Bool.not_eq_true, beq_self_eq_true, ne_eq, not_false_eq_true, not_true_eq_false, eq_self, *] <;> rfl) (hb : getB st n = some (.arr fl el s rows) := by simp (config := { maxSteps := 1000000 }) (disch := first | assumption | omega) only [TY, ar_u64, binE, eqCells, eqVal, eqOp, step_mk, makeE, List.toList_toArray, Value.oneCell', step_fnv, step_makeFunc, ev_func, callV, cells_agg, cells_int, cells_bool, cells_str, cells_sl, List.size_toArray, flatB_nil, flatB_cons, wid_nil, wid_cons, rowsF_len, rowsF_flat, rowsF_app, step_build, buildE, fillE, indexSlE, indexArrE, shiftE, indexArrV, indexStE, step_move, step_assign, step_pick, step_load, step_nilCheck, step_binOp, step_unOp, step_convert, step_slice, step_fieldAddr, step_field, step_indexAddr, step_index, step_extract, step_len, step_min, step_max, step_alloc, step_box, step_lit, step_app, step_fn, step_store, putV_some, getS_hit, getS_miss, getS_blk, getS_kill, getS_nil, getB_nil, getB_slot, getB_hit, getB_miss, getB_kill0, getB_kill1, ev_tmp, ev_int, ev_bool, ev_str, ev_nil, ev_agg, cl_int, cl_bool, cl_str, cl_nil, loadE, loadV, fieldAddrE, fieldE, partV, indexAddrE, lenE, lenO, strIdx, indexE, boundE, subE, sliceE, convE, minE, scal, nilE, tupE, capsE, optE, pickE, pbin, pint, pstr, pun, ar_in, ar_u32, ar_u8, allocE, boxE, litE, rowsO, leafO, leafsO, frz, clr, rowsOf, flB, Fl.and, Fl.nst, Fl.ok, Fl.isFl, noRef, nstOk, flatAt, hasAll, absL, appN, Fl.isNd, asN, storeN, Nat.reduceBNe, destOf, appE, storeE, argO, argsO, boxesO, callG, callE, impE, pvR, pvs, pvRL, pvT, owns, ownsT, ownsR, clrL, withB, PV.kill, PL.kill, PL.names, Blk.kill, PL.live, toPL, resV, resO, compsO, compO, rlsO, rlO, toRes, Leaf.isSc, List.map_cons, List.map_nil, List.all_cons, List.all_nil, List.length_cons, List.length_nil, List.drop_zero, List.drop_succ_cons, List.take_succ_cons, List.take_zero, List.drop_nil, List.take_nil, List.getElem?_cons_zero, List.getElem?_cons_succ, List.getElem?_nil, Option.map_some, Option.map_none, Option.bind_some, Option.isSome_some, Option.isSome_none, List.cons_append, List.nil_append, List.append_nil, if_true, if_false, reduceIte, Nat.reduceLT, Nat.reduceBEq, Nat.reduceLeDiff, Nat.reduceEqDiff, Nat.reduceAdd, Nat.reduceMul, Nat.zero_add, Nat.add_zero, Nat.mul_one, Int.reduceToNat, Bool.and_true, Bool.true_and, Bool.false_and, Bool.and_false, Bool.not_true, Bool.not_false, Bool.false_eq_true, decide_true, decide_false, and_self, and_true, true_and, or_true, true_or, or_false, false_or, if_pos, if_neg, Int.toNat_natCast, decide_eq_true, decide_eq_false, look_hit, look_miss, Int.ofNat_eq_natCast, Bool.or_false, Bool.or_true, Bool.true_or, Bool.false_or, Bool.not_eq_true, beq_self_eq_true, ne_eq, not_false_eq_true, not_true_eq_false, eq_self, *] <;> rfl)
    (h : At γ0 w0 N (.slot t (one (.all m)) :: .blk m (.arr fl el s rows) :: .kill n :: .kill m :: st) e Q) : At γ0 w0 N st e Q := fun a w hR => h a w (hR.ren ht hb hnm hm9)
end
end Go.Proofs.Ytimnogjgokljbaa
