/-
  A row that holds rows of its own is one that holds data.
-/
import Derived.Test.YtimnogjgokljbaaEvNc
namespace Go.Proofs.Ytimnogjgokljbaa
set_option maxRecDepth 100000
set_option linter.unusedVariables false
set_option linter.unusedSimpArgs false
open Go Go.RowKit
set_option linter.unusedVariables false
section
variable {γ0 : Nat → Option Nat} {w0 : World} {N : Nat} {st : St} {a : Act} {w : World} {Q : Exit → Act → World → Prop} {c : Code} {x : Exit}
theorem R.loose (h : R γ0 w0 N st a w) {n e s : Nat} {rows : List (List Leaf)} (hb : getB st n = some (.arr .nd e s rows)) : R γ0 w0 N (.blk n (.arr .no e s rows) :: st) a w := by
  obtain ⟨η, γ, hI⟩ := h
  have hget : ∀ m, m ≠ n → getB (.blk n (.arr .no e s rows) :: st) m = getB st m := fun m hm => if_neg (fun e => hm e.symm)
  let γ' : Nat → Option Nat := fun b => if γ b = some n ∧ (η n).ownBlock ≠ some b then none else γ b
  have hk : Kp w w γ γ' := ⟨Nat.le_refl _, fun b _ hg => ⟨by simp [γ', hg], rfl⟩⟩
  have hm' : ∀ m b, m ≠ n → γ b = some m → γ' b = some m := fun m b hm hb => by
    simp only [γ']
    rw [if_neg (fun h => hm (by have := h.1; rw [hb] at this; injection this)), hb]
  have hnm : Nm (getB st) (getB (.blk n (.arr .no e s rows) :: st)) η η (fun _ => True) := by
    intro m b' _ hb'
    refine ⟨rfl, ?_⟩
    by_cases hm : m = n
    · subst hm
      rw [hb] at hb'
      cases hb'
      exact ⟨.no, rows, getB_hit _ _ _, rfl⟩
    · cases b' with
      | arr fl e s rows => exact ⟨fl, rows, by rw [hget m hm]; exact hb', rfl⟩
      | box ls => exact ⟨ls, by rw [hget m hm]; exact hb'⟩
  obtain ⟨xs, h1, h2, h3, h4, h5⟩ := hI.blks n _ hb
  refine ⟨η, γ', { hI with slots := fun k => (hI.slots k).kp hnm hk, blks := fun m b' hb' => ?_, live := fun b m hb' => ?_, low := fun b hb hg => ⟨by simp [γ', (hI.low b hb hg).1], (hI.low b hb hg).2⟩, pin := fun h9 b ls hb' hbx => ?_, pinA := hI.pinA.to fun h9 fl e s rows' hbx => ⟨rfl, ?_⟩ }⟩
  · by_cases hm : m = n
    · subst hm
      rw [getB_hit] at hb'
      cases hb'
      refine ⟨xs, h1, h2.kp ⟨Nat.le_refl _, fun b _ hg => ⟨?_, rfl⟩⟩, h3, fun b hb => ?_, ⟨fun e => (by cases e), fun e => (by cases e)⟩⟩
      · simp only [vw, Fl.nst, if_true] at hg
        rw [vw_of rfl]
        split at hg
        · rename_i h9
          simp only [γ']
          rw [if_pos h9]
        · cases hg
      · simp only [γ']
        rw [if_neg (fun h => h.2 hb)]
        exact h4 b hb
    · rw [hget m hm] at hb'
      have h1 := hI.blks m b' hb'
      cases b' with
      | box ls => exact RepB.kp_box hnm hk h1 rfl (fun b hb => ⟨hm' m b hm hb, rfl⟩)
      | arr fl e s rows => exact RepB.kp_arr hk h1 rfl (fun b hb => ⟨hm' m b hm hb, rfl⟩)
  · have hg : γ b = some m ∧ (m = n → (η n).ownBlock = some b) := by
      simp only [γ'] at hb'
      split at hb'
      · cases hb'
      · rename_i h9
        refine ⟨hb', fun e' => ?_⟩
        by_cases ho : (η n).ownBlock = some b
        · exact ho
        · exact absurd ⟨e' ▸ hb', ho⟩ h9
    obtain ⟨g1, g2, g3⟩ := hI.live b m hg.1
    by_cases hm : m = n
    · subst hm
      exact ⟨g1, .inl ((hdr_own h1).2 (hg.2 rfl)), by rw [getB_hit]; rfl⟩
    · rw [hget m hm]
      exact ⟨g1, g2, g3⟩
  · have hg : γ b = some 999 := by
      simp only [γ'] at hb'
      split at hb'
      · cases hb'
      · exact hb'
    by_cases hm : (999 : Nat) = n
    · subst hm
      rw [getB_hit] at hbx
      cases hbx
    · rw [hget 999 hm] at hbx
      exact hI.pin h9 b ls hg hbx
  · by_cases hm : (999 : Nat) = n
    · subst hm
      rw [getB_hit] at hbx
      cases hbx
      exact ⟨_, _, hb, rfl⟩
    · rw [hget 999 hm] at hbx
      exact ⟨_, _, hbx, rfl⟩
theorem W.loose (n : Nat) {e s : Nat} {rows : List (List Leaf)} (hb : getB st n = some (.arr .nd e s rows) := by simp (config := { maxSteps := 1000000 }) (disch := first | assumption | omega) only [TY, ar_u64, binE, eqCells, eqVal, eqOp, step_mk, makeE, List.toList_toArray, Value.oneCell', step_fnv, step_makeFunc, ev_func, callV, cells_agg, cells_int, cells_bool, cells_str, cells_sl, List.size_toArray, flatB_nil, flatB_cons, wid_nil, wid_cons, rowsF_len, rowsF_flat, rowsF_app, step_build, buildE, fillE, indexSlE, indexArrE, shiftE, indexArrV, indexStE, step_move, step_assign, step_pick, step_load, step_nilCheck, step_binOp, step_unOp, step_convert, step_slice, step_fieldAddr, step_field, step_indexAddr, step_index, step_extract, step_len, step_min, step_max, step_alloc, step_box, step_lit, step_app, step_fn, step_store, putV_some, getS_hit, getS_miss, getS_blk, getS_kill, getS_nil, getB_nil, getB_slot, getB_hit, getB_miss, getB_kill0, getB_kill1, ev_tmp, ev_int, ev_bool, ev_str, ev_nil, ev_agg, cl_int, cl_bool, cl_str, cl_nil, loadE, loadV, fieldAddrE, fieldE, partV, indexAddrE, lenE, lenO, strIdx, indexE, boundE, subE, sliceE, convE, minE, scal, nilE, tupE, capsE, optE, pickE, pbin, pint, pstr, pun, ar_in, ar_u32, ar_u8, allocE, boxE, litE, rowsO, leafO, leafsO, frz, clr, rowsOf, flB, Fl.and, Fl.nst, Fl.ok, Fl.isFl, noRef, nstOk, flatAt, hasAll, absL, appN, Fl.isNd, asN, storeN, Nat.reduceBNe, destOf, appE, storeE, argO, argsO, boxesO, callG, callE, impE, pvR, pvs, pvRL, pvT, owns, ownsT, ownsR, clrL, withB, PV.kill, PL.kill, PL.names, Blk.kill, PL.live, toPL, resV, resO, compsO, compO, rlsO, rlO, toRes, Leaf.isSc, List.map_cons, List.map_nil, List.all_cons, List.all_nil, List.length_cons, List.length_nil, List.drop_zero, List.drop_succ_cons, List.take_succ_cons, List.take_zero, List.drop_nil, List.take_nil, List.getElem?_cons_zero, List.getElem?_cons_succ, List.getElem?_nil, Option.map_some, Option.map_none, Option.bind_some, Option.isSome_some, Option.isSome_none, List.cons_append, List.nil_append, List.append_nil, if_true, if_false, reduceIte, Nat.reduceLT, Nat.reduceBEq, Nat.reduceLeDiff, Nat.reduceEqDiff, Nat.reduceAdd, Nat.reduceMul, Nat.zero_add, Nat.add_zero, Nat.mul_one, Int.reduceToNat, Bool.and_true, Bool.true_and, Bool.false_and, Bool.and_false, Bool.not_true, Bool.not_false, Bool.false_eq_true, decide_true, decide_false, and_self, and_true, true_and, or_true, true_or, or_false, false_or, if_pos, if_neg, Int.toNat_natCast, decide_eq_true, decide_eq_false, look_hit, look_miss, Int.ofNat_eq_natCast, Bool.or_false, Bool.or_true, Bool.true_or, Bool.false_or, Bool.not_eq_true, beq_self_eq_true, ne_eq, not_false_eq_true, not_true_eq_false, eq_self, *] <;> rfl) (h : W Try.prog γ0 w0 N (.blk n (.arr .no e s rows) :: st) c Q) : W Try.prog γ0 w0 N st c Q := fun a w hR => h a w (hR.loose hb)
end
end Go.Proofs.Ytimnogjgokljbaa
