/-
  Put together: EvBookR EvBookP EvBookK.
-/
import Derived.Test.YtimnogjgokljbaaDoorHEvBookI
section
/-!
  booked of impl: the row is filtered, one item is added, and all are sorted.
-/
namespace Go.Proofs.YtimnogjgokljbaaDoor
set_option maxRecDepth 100000
set_option linter.unusedVariables false
set_option linter.unusedSimpArgs false
open Go Go.RowKit
set_option maxHeartbeats 8000000
set_option linter.unusedVariables false

theorem idxP_cases (p : TItem → Bool) (l : List TItem) : (∃ k, ∃ hk : k < l.length, idxP p l = (k : Int) ∧ p l[k] = true ∧ (l.take k).filter (fun x => !p x) = l.take k) ∨ (idxP p l = -1 ∧ l.filter (fun x => !p x) = l) := by
  unfold idxP
  by_cases h : l.findIdx p < l.length
  · left
    rw [if_pos h]
    refine ⟨_, h, rfl, List.findIdx_getElem (w := h), List.filter_eq_self.2 fun x hx => ?_⟩
    obtain ⟨j, hj, rfl⟩ := List.getElem_of_mem hx
    rw [List.length_take] at hj
    rw [List.getElem_take]
    have := List.not_of_lt_findIdx (p := p) (xs := l) (i := j) (by omega)
    simpa using this
  · right
    rw [if_neg h]
    refine ⟨rfl, List.filter_eq_self.2 fun x hx => ?_⟩
    cases hp : p x with
    | false => rfl
    | true => exact absurd (List.findIdx_lt_length_of_exists ⟨x, hx, hp⟩) h
/-- a row under way: i elements are kept of the first j -/
structure CutInv (p : TItem → Bool) (l q : List TItem) (i j : Nat) : Prop where
  len : q.length = l.length
  lt : i < j
  le : j ≤ l.length
  kept : q.take i = (l.take j).filter fun x => !p x
  rest : ∀ t, j ≤ t → q[t]? = l[t]?
theorem CutInv.row {p : TItem → Bool} {l q : List TItem} {i j : Nat} (h : CutInv p l q i j) (hj : j < l.length) : ∃ hq : j < q.length, q[j] = l[j] := by
  have hq : j < q.length := by rw [h.len]; exact hj
  refine ⟨hq, ?_⟩
  have := h.rest j (Nat.le_refl _)
  rw [List.getElem?_eq_getElem hq, List.getElem?_eq_getElem hj] at this
  exact Option.some.inj this
theorem take_last {α : Type} {l : List α} {j : Nat} (hj : j < l.length) : l.take (j + 1) = l.take j ++ [l[j]] := by
  rw [List.take_add_one, List.getElem?_eq_getElem hj]; rfl
theorem CutInv.keep {p : TItem → Bool} {l q : List TItem} {i j : Nat} (h : CutInv p l q i j) (hj : j < l.length) (hp : p l[j] = false) : CutInv p l (q.set i l[j]) (i + 1) (j + 1) where
  len := by rw [List.length_set, h.len]
  lt := by have := h.lt; omega
  le := hj
  kept := by
    have h1 := h.lt
    have h2 := h.len
    rw [take_last hj, List.filter_append, ← h.kept]
    have hi : i < (q.set i l[j]).length := by rw [List.length_set]; omega
    rw [take_last hi, List.take_set_of_le (Nat.le_refl _), List.getElem_set_self]
    simp [hp]
  rest t ht := by
    have h1 := h.lt
    rw [List.getElem?_set_ne (by omega)]
    exact h.rest t (by omega)
theorem CutInv.skip {p : TItem → Bool} {l q : List TItem} {i j : Nat} (h : CutInv p l q i j) (hj : j < l.length) (hp : p l[j] = true) : CutInv p l q i (j + 1) where
  len := h.len
  lt := by have := h.lt; omega
  le := hj
  kept := by rw [take_last hj, List.filter_append, ← h.kept]; simp [hp]
  rest t ht := h.rest t (by omega)
theorem CutInv.start {p : TItem → Bool} {l : List TItem} {k : Nat} (hk : k < l.length) (hp : p l[k] = true) (hf : (l.take k).filter (fun x => !p x) = l.take k) : CutInv p l l k (k + 1) where
  len := rfl
  lt := by omega
  le := hk
  kept := by rw [take_last hk, List.filter_append, hf]; simp [hp]
  rest t ht := rfl

theorem delI_s (key : ByteArray) : CutsBy Tryd.prog 64 65 cItem 36 2 [.string key] (fun x => decide (x.1 = key)) := by
  have hc1 : ∀ v ∈ [Value.string key], v.oneCell' = true := fun v hv => by
    simp only [List.mem_cons, List.not_mem_nil, or_false] at hv
    subst hv; rfl
  have hΓ : GSound Tryd.prog (look [(58, mIdxIt 65 [[.sc (.string key)]] (fun x => decide (x.1 = key))), (65, mKeyI)]) := env_cons (has_of Tryd.func58 rfl rfl) (idxIt_s (has_of Tryd.func65 rfl rfl) keyD_s (fun x => mKeyI_eq x key)) (env_cons (has_of Tryd.func65 rfl rfl) keyD_s env_nil)
  constructor
  · intro A c b1 w hgl hc hb1 hcs
    refine enterXF (rows := []) Tryd.func64 rfl Tryd.ntmps64 (by decide) (.emp hc) hc1 hgl hb1 hcs ?_
    have c := mIdxIt_eq 65 [[.sc (.string key)]] (fun x => decide (x.1 = key)) [] (by simp)
    have e : idxP (fun x : TItem => decide (x.1 = key)) [] = -1 := rfl
    have e0 : rowsF cItem ([] : List TItem) = [] := rfl
    rw [e] at c
    simp only [aL, e0] at c
    simp only [List.map_cons, List.map_nil]
    repeat (first | with_reducible apply W.seq | with_reducible apply W.block | with_reducible apply W.skip | with_reducible apply W.exit | with_reducible apply W.ret | with_reducible apply At.seqN | with_reducible apply At.blkN | with_reducible apply At.blkE | with_reducible apply At.blkR | with_reducible apply At.thenX | with_reducible apply At.thenR | with_reducible apply At.blkX rfl | ((with_reducible apply W.ops); (repeat (first | refine WL.opA hΓ (h := ?_) | refine WL.opX hΓ (h := ?_) | refine WL.opY (h := ?_) | refine WL.opZ (h := ?_))); with_reducible apply WL.nil) | refine W.condT (h := ?_) | refine W.condF (h := ?_))
    refine At.retX (t := 4) (rows := []) ?_ ?_
    · rw [Tryd.results64]
    · rfl
  · intro b b1 cap cur l w hgl hne hb1 hcs hh hl0 hlc hcap hsz htk hl62 hone
    refine enterA (s := 2) Tryd.func64 rfl Tryd.ntmps64 (by decide) (fun _ => rfl) hc1 hgl hne hb1 hcs hh hlc hcap hsz htk hone ?_
    have c := mIdxIt_eq 65 [[.sc (.string key)]] (fun x => decide (x.1 = key)) l hl62
    clear hcs hne hgl hb1 htk hone hcap hlc
    have hl12 := hl0
    rcases idxP_cases (fun x : TItem => decide (x.1 = key)) l with ⟨k, hk, e1, e2, e3⟩ | ⟨e1, e2⟩
    · rw [e1] at c
      simp only [initA, List.map_cons, List.map_nil]
      have hki : ((k : Nat) : Int) ≠ -1 := by omega
      repeat (first | with_reducible apply W.seq | with_reducible apply W.block | with_reducible apply W.skip | with_reducible apply W.exit | with_reducible apply W.ret | with_reducible apply At.seqN | with_reducible apply At.blkN | with_reducible apply At.blkE | with_reducible apply At.blkR | with_reducible apply At.thenX | with_reducible apply At.thenR | with_reducible apply At.blkX rfl | ((with_reducible apply W.ops); (repeat (first | refine WL.opA hΓ (h := ?_) | refine WL.opX hΓ (h := ?_) | refine WL.opY (h := ?_) | refine WL.opZ (h := ?_))); with_reducible apply WL.nil) | refine W.condT (h := ?_) | refine W.condF (h := ?_))
      have hst := CutInv.start hk e2 e3
      clear e2 e3 e1 c
      refine W.loopA (fun x : Nat × Nat × List TItem => CutInv (fun x : TItem => decide (x.1 = key)) l x.2.2 x.1 x.2.1) (fun x : Nat × Nat × List TItem => [.slot 5 (vI x.1), .slot 6 (vI x.2.1), .slot 0 (one (.all 999)), .blk 999 (.arr true 36 2 (rowsF cItem x.2.2)), .slot 1 (one (.clo 65 [[.sc (.string key)]]))]) (fun x => l.length - x.2.1) (k, k + 1, l) hst (h := ?_)
      rintro ⟨i, j, q⟩ hq
      dsimp only at hq ⊢
      have hql : q.length = l.length := hq.len
      have hij := hq.lt
      have hjl := hq.le
      have hrl : (rowsF cItem q).length = l.length := by rw [rowsF_len, hql]
      by_cases hlt : j < l.length
      · obtain ⟨hqj, hx⟩ := hq.row hlt
        have hrow := item_row hqj
        have hrowi := item_row (l := q) (k := i) (by omega)
        have hc := mKeyI_eq q[j] key
        cases hp : decide (q[j].1 = key) with
        | false =>
          have hnx := hq.keep hlt (by rw [← hx]; exact hp)
          rw [hp] at hc
          rw [← hx] at hnx
          have hset : (rowsF cItem q).set i (bItem q[j]) = rowsF cItem (q.set i q[j]) := rowsF_set cItem q i q[j]
          clear hx hp hst hq
          generalize q[j] = x at *
          generalize q[i] = y at *
          obtain ⟨a, b⟩ := x
          obtain ⟨a2, b2⟩ := y
          dsimp only [aItem, bItem] at hc hrow hrowi hset
          repeat (first | with_reducible apply W.seq | with_reducible apply W.block | with_reducible apply W.skip | with_reducible apply W.exit | with_reducible apply W.ret | with_reducible apply At.seqN | with_reducible apply At.blkN | with_reducible apply At.blkE | with_reducible apply At.blkR | with_reducible apply At.thenX | with_reducible apply At.thenR | with_reducible apply At.blkX rfl | ((with_reducible apply W.ops); (repeat (first | refine WL.opA hΓ (h := ?_) | refine WL.opX hΓ (h := ?_) | refine WL.opY (h := ?_) | refine WL.opZ (h := ?_))); with_reducible apply WL.nil) | refine W.condT (h := ?_) | refine W.condF (h := ?_))
          exact At.roundA (i + 1, j + 1, q.set i (a, b)) hnx (by dsimp only; omega)
        | true =>
          have hnx := hq.skip hlt (by rw [← hx]; exact hp)
          rw [hp] at hc
          clear hx hp hst hq
          generalize q[j] = x at *
          generalize q[i] = y at *
          obtain ⟨a, b⟩ := x
          dsimp only [aItem, bItem] at hc hrow
          repeat (first | with_reducible apply W.seq | with_reducible apply W.block | with_reducible apply W.skip | with_reducible apply W.exit | with_reducible apply W.ret | with_reducible apply At.seqN | with_reducible apply At.blkN | with_reducible apply At.blkE | with_reducible apply At.blkR | with_reducible apply At.thenX | with_reducible apply At.thenR | with_reducible apply At.blkX rfl | ((with_reducible apply W.ops); (repeat (first | refine WL.opA hΓ (h := ?_) | refine WL.opX hΓ (h := ?_) | refine WL.opY (h := ?_) | refine WL.opZ (h := ?_))); with_reducible apply WL.nil) | refine W.condT (h := ?_) | refine W.condF (h := ?_))
          exact At.roundA (i, j + 1, q) hnx (by dsimp only; omega)
      · have hje : j = l.length := by omega
        subst hje
        have hkept := hq.kept
        rw [List.take_length] at hkept
        clear hst hq
        have hli : (((l.length : Nat) : Int) - ((i : Nat) : Int)).toNat = l.length - i := by omega
        repeat (first | with_reducible apply W.seq | with_reducible apply W.block | with_reducible apply W.skip | with_reducible apply W.exit | with_reducible apply W.ret | with_reducible apply At.seqN | with_reducible apply At.blkN | with_reducible apply At.blkE | with_reducible apply At.blkR | with_reducible apply At.thenX | with_reducible apply At.thenR | with_reducible apply At.blkX rfl | ((with_reducible apply W.ops); (repeat (first | refine WL.opA hΓ (h := ?_) | refine WL.opX hΓ (h := ?_) | refine WL.opY (h := ?_) | refine WL.opZ (h := ?_))); with_reducible apply WL.nil) | refine W.condT (h := ?_) | refine W.condF (h := ?_))
        with_reducible apply W.ops
        repeat (first | refine WL.opA hΓ (h := ?_) | refine WL.opX hΓ (h := ?_) | refine WL.opY (h := ?_) | refine WL.opZ (h := ?_))
        refine WL.opClear (n := 999) (off := i) (len := l.length - i) (fl := true) (s := 2) (e := 36) (rows := rowsF cItem q) (z := .agg #[.string ByteArray.empty, .int .i64 0]) (zs := [.string ByteArray.empty, .int .i64 0]) ?hp (by omega) ?hb (by rw [hrl]; omega) ?he ?hz rfl rfl (fun v hv => by simp only [List.mem_cons, List.not_mem_nil, or_false] at hv; rcases hv with rfl | rfl <;> rfl) (by decide) ?h
        case hp => simp (config := { maxSteps := 1000000 }) (disch := first | assumption | omega) only [TY, ar_u64, binE, eqCells, eqVal, eqOp, step_mk, makeE, List.toList_toArray, Value.oneCell', step_fnv, step_makeFunc, ev_func, callV, cells_agg, cells_int, cells_bool, cells_str, cells_sl, List.size_toArray, flatB_nil, flatB_cons, wid_nil, wid_cons, rowsF_len, rowsF_flat, rowsF_app, step_build, buildE, fillE, indexSlE, indexArrE, shiftE, indexArrV, indexStE, step_move, step_assign, step_pick, step_load, step_nilCheck, step_binOp, step_unOp, step_convert, step_slice, step_fieldAddr, step_field, step_indexAddr, step_index, step_extract, step_len, step_min, step_max, step_alloc, step_box, step_lit, step_app, step_fn, step_store, putV_some, getS_hit, getS_miss, getS_blk, getS_kill, getS_nil, getB_nil, getB_slot, getB_hit, getB_miss, getB_kill0, getB_kill1, ev_tmp, ev_int, ev_bool, ev_str, ev_nil, ev_agg, cl_int, cl_bool, cl_str, cl_nil, loadE, loadV, fieldAddrE, fieldE, partV, indexAddrE, lenE, lenO, strIdx, indexE, boundE, subE, sliceE, convE, minE, scal, nilE, tupE, capsE, optE, pickE, pbin, pint, pstr, pun, ar_in, ar_u32, ar_u8, allocE, boxE, litE, rowsO, leafO, leafsO, frz, clr, rowsOf, destOf, appE, storeE, argO, argsO, boxesO, callG, callE, impE, pvR, pvs, pvRL, pvT, owns, ownsT, ownsR, clrL, withB, PV.kill, PL.kill, PL.names, Blk.kill, PL.live, toPL, resV, resO, compsO, compO, rlsO, rlO, toRes, Leaf.isSc, List.map_cons, List.map_nil, List.all_cons, List.all_nil, List.length_cons, List.length_nil, List.drop_zero, List.drop_succ_cons, List.take_succ_cons, List.take_zero, List.drop_nil, List.take_nil, List.getElem?_cons_zero, List.getElem?_cons_succ, List.getElem?_nil, Option.map_some, Option.map_none, Option.bind_some, Option.isSome_some, Option.isSome_none, List.cons_append, List.nil_append, List.append_nil, if_true, if_false, reduceIte, Nat.reduceLT, Nat.reduceBEq, Nat.reduceLeDiff, Nat.reduceEqDiff, Nat.reduceAdd, Nat.reduceMul, Nat.zero_add, Nat.add_zero, Nat.mul_one, Int.reduceToNat, Bool.and_true, Bool.true_and, Bool.false_and, Bool.and_false, Bool.not_true, Bool.not_false, Bool.false_eq_true, decide_true, decide_false, and_self, and_true, true_and, or_true, true_or, or_false, false_or, if_pos, if_neg, Int.toNat_natCast, decide_eq_true, decide_eq_false, look_hit, look_miss, Int.ofNat_eq_natCast, Bool.or_false, Bool.or_true, Bool.true_or, Bool.false_or, Bool.not_eq_true, beq_self_eq_true, ne_eq, not_false_eq_true, not_true_eq_false, eq_self, *]
        case hb => simp (config := { maxSteps := 1000000 }) (disch := first | assumption | omega) only [TY, ar_u64, binE, eqCells, eqVal, eqOp, step_mk, makeE, List.toList_toArray, Value.oneCell', step_fnv, step_makeFunc, ev_func, callV, cells_agg, cells_int, cells_bool, cells_str, cells_sl, List.size_toArray, flatB_nil, flatB_cons, wid_nil, wid_cons, rowsF_len, rowsF_flat, rowsF_app, step_build, buildE, fillE, indexSlE, indexArrE, shiftE, indexArrV, indexStE, step_move, step_assign, step_pick, step_load, step_nilCheck, step_binOp, step_unOp, step_convert, step_slice, step_fieldAddr, step_field, step_indexAddr, step_index, step_extract, step_len, step_min, step_max, step_alloc, step_box, step_lit, step_app, step_fn, step_store, putV_some, getS_hit, getS_miss, getS_blk, getS_kill, getS_nil, getB_nil, getB_slot, getB_hit, getB_miss, getB_kill0, getB_kill1, ev_tmp, ev_int, ev_bool, ev_str, ev_nil, ev_agg, cl_int, cl_bool, cl_str, cl_nil, loadE, loadV, fieldAddrE, fieldE, partV, indexAddrE, lenE, lenO, strIdx, indexE, boundE, subE, sliceE, convE, minE, scal, nilE, tupE, capsE, optE, pickE, pbin, pint, pstr, pun, ar_in, ar_u32, ar_u8, allocE, boxE, litE, rowsO, leafO, leafsO, frz, clr, rowsOf, destOf, appE, storeE, argO, argsO, boxesO, callG, callE, impE, pvR, pvs, pvRL, pvT, owns, ownsT, ownsR, clrL, withB, PV.kill, PL.kill, PL.names, Blk.kill, PL.live, toPL, resV, resO, compsO, compO, rlsO, rlO, toRes, Leaf.isSc, List.map_cons, List.map_nil, List.all_cons, List.all_nil, List.length_cons, List.length_nil, List.drop_zero, List.drop_succ_cons, List.take_succ_cons, List.take_zero, List.drop_nil, List.take_nil, List.getElem?_cons_zero, List.getElem?_cons_succ, List.getElem?_nil, Option.map_some, Option.map_none, Option.bind_some, Option.isSome_some, Option.isSome_none, List.cons_append, List.nil_append, List.append_nil, if_true, if_false, reduceIte, Nat.reduceLT, Nat.reduceBEq, Nat.reduceLeDiff, Nat.reduceEqDiff, Nat.reduceAdd, Nat.reduceMul, Nat.zero_add, Nat.add_zero, Nat.mul_one, Int.reduceToNat, Bool.and_true, Bool.true_and, Bool.false_and, Bool.and_false, Bool.not_true, Bool.not_false, Bool.false_eq_true, decide_true, decide_false, and_self, and_true, true_and, or_true, true_or, or_false, false_or, if_pos, if_neg, Int.toNat_natCast, decide_eq_true, decide_eq_false, look_hit, look_miss, Int.ofNat_eq_natCast, Bool.or_false, Bool.or_true, Bool.true_or, Bool.false_or, Bool.not_eq_true, beq_self_eq_true, ne_eq, not_false_eq_true, not_true_eq_false, eq_self, *]
        case he => simp only [TY]
        case hz => simp only [TY]
        intro rows' hr1 hr2
        have hr3 : rows'.take i = rowsF cItem (l.filter fun x => !decide (x.1 = key)) := by
          rw [hr2, ← hkept]
          unfold rowsF
          rw [List.map_take]
        have hr4 : rows'.length = l.length := by rw [hr1, hrl]
        clear hrl hql hr1 hr2 hkept
        (repeat (first | refine WL.opA hΓ (h := ?_) | refine WL.opX hΓ (h := ?_) | refine WL.opY (h := ?_) | refine WL.opZ (h := ?_)))
        with_reducible apply WL.nil
        repeat (first | with_reducible apply W.seq | with_reducible apply W.block | with_reducible apply W.skip | with_reducible apply W.exit | with_reducible apply W.ret | with_reducible apply At.seqN | with_reducible apply At.blkN | with_reducible apply At.blkE | with_reducible apply At.blkR | with_reducible apply At.thenX | with_reducible apply At.thenR | with_reducible apply At.blkX rfl | ((with_reducible apply W.ops); (repeat (first | refine WL.opA hΓ (h := ?_) | refine WL.opX hΓ (h := ?_) | refine WL.opY (h := ?_) | refine WL.opZ (h := ?_))); with_reducible apply WL.nil) | refine W.condT (h := ?_) | refine W.condF (h := ?_))
        refine At.retCut (t := 4) (m := i) _ (by decide) (by decide) ?_ hh hsz (by omega) (.inr rfl) rfl hr3 (by omega)
        rw [Tryd.results64]
    · rw [e1] at c
      simp only [initA, List.map_cons, List.map_nil]
      repeat (first | with_reducible apply W.seq | with_reducible apply W.block | with_reducible apply W.skip | with_reducible apply W.exit | with_reducible apply W.ret | with_reducible apply At.seqN | with_reducible apply At.blkN | with_reducible apply At.blkE | with_reducible apply At.blkR | with_reducible apply At.thenX | with_reducible apply At.thenR | with_reducible apply At.blkX rfl | ((with_reducible apply W.ops); (repeat (first | refine WL.opA hΓ (h := ?_) | refine WL.opX hΓ (h := ?_) | refine WL.opY (h := ?_) | refine WL.opZ (h := ?_))); with_reducible apply WL.nil) | refine W.condT (h := ?_) | refine W.condF (h := ?_))
      rw [e2]
      refine At.retCut (t := 4) (m := (rowsF cItem l).length) l (by decide) (by decide) ?_ hh hsz (by rw [rowsF_len]; exact hl0) (.inl ⟨rfl, rfl⟩) rfl (by rw [List.take_length]) (Nat.le_refl _)
      rw [Tryd.results64]
end Go.Proofs.YtimnogjgokljbaaDoor

end
section
/-!
  booked: a filtered row with one more, sorted, is setI; amount.
-/
namespace Go.Proofs.YtimnogjgokljbaaDoor
set_option maxRecDepth 100000
set_option linter.unusedVariables false
set_option linter.unusedSimpArgs false
open Go Go.RowKit
set_option maxHeartbeats 4000000
set_option linter.unusedVariables false

def cmpI (a b : TItem) : Int := if klt a.1 b.1 = true then -1 else 1
theorem cmpI_lt (a b : TItem) : cmpI a b < 0 ↔ klt a.1 b.1 = true := by
  unfold cmpI
  split <;> simp_all
def addI (key : ByteArray) (n : Int) : List TItem := if n = 0 then [] else [(key, n)]
theorem filter_gt {key : ByteArray} {l : List TItem} (h : ∀ x ∈ l, x.1 ≠ key) : (l.filter fun x => !decide (x.1 = key)) = l := by
  refine List.filter_eq_self.2 fun x hx => ?_
  simp [h x hx]
theorem perm_set {key : ByteArray} {n : Int} : ∀ {l : List TItem} (_ : AscI l), (setI key n l).Perm ((l.filter fun x => !decide (x.1 = key)) ++ addI key n)
  | [], _ => by
    unfold setI addI
    split <;> exact List.Perm.refl _
  | x :: r, h => by
    obtain ⟨h1, h2⟩ := List.pairwise_cons.1 h
    unfold setI
    by_cases hlt : klt x.1 key = true
    · rw [if_pos hlt, List.filter_cons, if_pos (by simp [klt_ne hlt])]
      exact (perm_set h2).cons x
    · rw [if_neg hlt]
      by_cases heq : x.1 = key
      · have hf := filter_gt (key := key) (l := r) (fun y hy => fun e => klt_ne (h1 y hy) (by rw [heq, e]))
        have hx : (!decide (x.1 = key)) = false := by rw [decide_eq_true heq]; rfl
        rw [if_pos heq, List.filter_cons, hx, hf]
        simp only [Bool.false_eq_true, if_false]
        unfold addI
        by_cases hn : n = 0
        · rw [if_pos hn, if_pos hn, List.append_nil]
        · rw [if_neg hn, if_neg hn]
          exact (List.perm_append_singleton (key, n) r).symm
      · have hkx : klt key x.1 = true := by
          rcases klt_tri x.1 key with h | h | h
          · exact absurd h hlt
          · exact absurd h heq
          · exact h
        have hf := filter_gt (key := key) (l := x :: r) (fun y hy => fun e => by
          rcases List.mem_cons.1 hy with rfl | hy
          · exact heq e
          · have := klt_trans hkx (h1 y hy)
            rw [e, klt_irr] at this
            cases this)
        rw [if_neg heq, hf]
        unfold addI
        by_cases hn : n = 0
        · rw [if_pos hn, if_pos hn, List.append_nil]
        · rw [if_neg hn, if_neg hn]
          exact (List.perm_append_singleton (key, n) (x :: r)).symm
theorem sortI_one : ∀ {m l : List TItem} (_ : l.Perm m) (_ : l.Pairwise fun x y => ¬ cmpI y x < 0) (_ : AscI m), l = m
  | [], l, hp, _, _ => List.Perm.eq_nil hp
  | a :: m, l, hp, hs, hm => by
    obtain ⟨m1, m2⟩ := List.pairwise_cons.1 hm
    cases l with
    | nil => exact absurd hp.symm (by simp)
    | cons c l =>
      obtain ⟨s1, s2⟩ := List.pairwise_cons.1 hs
      have hca : c = a := by
        rcases List.mem_cons.1 (hp.mem_iff.1 List.mem_cons_self) with h | h
        · exact h
        · rcases List.mem_cons.1 (hp.mem_iff.2 (List.mem_cons_self (a := a) (l := m))) with h' | h'
          · exact h'.symm
          · exact absurd ((cmpI_lt a c).2 (m1 c h)) (s1 a h')
      subst hca
      rw [sortI_one hp.cons_inv s2 m2]
noncomputable def mAmt := mdl (fun s : ByteArray => s.size ≤ 9223372036854775807) (fun s => [aS s]) (fun s => .tup [rSc (.int .i64 (readZ s).1), rSc (.bool ((readZ s).2 && decide ((readZ s).1 ≤ 1000000)))])
theorem mAmt_eq (s : ByteArray) (h : s.size ≤ 9223372036854775807) : mAmt [aS s] = some (.tup [rSc (.int .i64 (readZ s).1), rSc (.bool ((readZ s).2 && decide ((readZ s).1 ≤ 1000000)))]) := mdl_eq (by intro a b h; simpa using h) s h
theorem amount_s : Sound Tryd.prog 48 mAmt := by
  refine Sound.mdl Tryd.func48 rfl Tryd.ntmps48 ?_
  rintro s w hs
  refine ⟨by simp, ?_⟩
  replace hs : s.size ≤ 9223372036854775807 := hs
  have hΓ : GSound Tryd.prog (look [(63, mRead)]) := env_cons (has_of Tryd.func63 rfl rfl) readI_s env_nil
  have c := mRead_eq s hs
  cases hr : (readZ s).2 with
  | false =>
    rw [hr] at c
    simp only [initS, argPV, List.map_cons, List.map_nil, toPL, Nat.zero_add]
    repeat (first | with_reducible apply W.seq | with_reducible apply W.block | with_reducible apply W.skip | with_reducible apply W.exit | with_reducible apply W.ret | with_reducible apply At.seqN | with_reducible apply At.blkN | with_reducible apply At.blkE | with_reducible apply At.blkR | with_reducible apply At.thenX | with_reducible apply At.thenR | with_reducible apply At.blkX rfl | ((with_reducible apply W.ops); (repeat (first | refine WL.opA hΓ (h := ?_) | refine WL.opX hΓ (h := ?_) | refine WL.opY (h := ?_) | refine WL.opZ (h := ?_))); with_reducible apply WL.nil) | refine W.condT (h := ?_) | refine W.condF (h := ?_))
    refine At.retA (by rw [Tryd.results48]) (he := ?_)
    simp [hr]
  | true =>
    rw [hr] at c
    simp only [initS, argPV, List.map_cons, List.map_nil, toPL, Nat.zero_add]
    repeat (first | with_reducible apply W.seq | with_reducible apply W.block | with_reducible apply W.skip | with_reducible apply W.exit | with_reducible apply W.ret | with_reducible apply At.seqN | with_reducible apply At.blkN | with_reducible apply At.blkE | with_reducible apply At.blkR | with_reducible apply At.thenX | with_reducible apply At.thenR | with_reducible apply At.blkX rfl | ((with_reducible apply W.ops); (repeat (first | refine WL.opA hΓ (h := ?_) | refine WL.opX hΓ (h := ?_) | refine WL.opY (h := ?_) | refine WL.opZ (h := ?_))); with_reducible apply WL.nil) | refine W.condT (h := ?_) | refine W.condF (h := ?_))
    refine At.retA (by rw [Tryd.results48]) (he := ?_)
    simp [hr]
end Go.Proofs.YtimnogjgokljbaaDoor

end
section
/-!
  A line of a book: impl's reading of it (letters first) against spec's (the sign first).
-/
namespace Go.Proofs.YtimnogjgokljbaaDoor
set_option maxRecDepth 100000
set_option linter.unusedVariables false
set_option linter.unusedSimpArgs false
open Go Go.RowKit
set_option maxHeartbeats 4000000
set_option linter.unusedVariables false

def azN (d : Nat) : Prop := 97 ≤ d ∧ d ≤ 122
instance (d : Nat) : Decidable (azN d) := by unfold azN; infer_instance
theorem letters_bl (s : ByteArray) : lettersN s = ((bl s).takeWhile fun d => decide (azN d)).length := by
  unfold lettersN bl
  rw [List.takeWhile_map, List.length_map]
  rfl
theorem lettersN_lo {s : ByteArray} {j : Nat} (h : j < lettersN s) : ∃ hj : j < (bl s).length, azN (bl s)[j] := by
  rw [letters_bl] at h
  have hp := List.takeWhile_prefix (l := bl s) fun d => decide (azN d)
  have hj : j < (bl s).length := Nat.lt_of_lt_of_le h hp.length_le
  refine ⟨hj, ?_⟩
  have h1 : ((bl s).takeWhile fun d => decide (azN d))[j] = (bl s)[j] := (List.IsPrefix.getElem hp h)
  have all : ∀ (l : List Nat), ∀ x ∈ l.takeWhile (fun d => decide (azN d)), azN x := by
    intro l
    induction l with
    | nil => intro x hx; simp at hx
    | cons y r ih =>
      intro x hx
      rw [List.takeWhile_cons] at hx
      split at hx
      · rename_i hy
        rcases List.mem_cons.1 hx with rfl | hx
        · exact of_decide_eq_true hy
        · exact ih x hx
      · cases hx
  have h2 := all _ _ (List.getElem_mem h)
  rw [h1] at h2
  exact h2
theorem lettersN_hi {s : ByteArray} (h : lettersN s < (bl s).length) : ¬ azN (bl s)[lettersN s] := by
  intro ha
  have key : ∀ (l : List Nat) (hl : (l.takeWhile fun d => decide (azN d)).length < l.length), ¬ azN l[(l.takeWhile fun d => decide (azN d)).length] := by
    intro l
    induction l with
    | nil => intro hl; simp at hl
    | cons x r ih =>
      intro hl hz
      by_cases hx : azN x
      · simp only [List.takeWhile_cons, decide_eq_true hx, if_true, List.length_cons, List.getElem_cons_succ] at hl hz
        exact ih (by omega) hz
      · simp only [List.takeWhile_cons, decide_eq_false hx, Bool.false_eq_true, if_false, List.length_nil, List.getElem_cons_zero] at hz
        exact hx hz
  have e := letters_bl s
  have h' : ((bl s).takeWhile fun d => decide (azN d)).length < (bl s).length := by rw [← e]; exact h
  have := key (bl s) h'
  simp only [← e] at this
  exact this ha
theorem sg_az {d : Nat} (h : azN d) : isSg d = false := by
  unfold azN at h
  simp only [isSg, Bool.or_eq_false_iff, decide_eq_false_iff_not]
  omega
/-- where impl finds a sign, spec finds it, too -/
theorem link_yes {line : ByteArray} (h : lettersN line < (bl line).length) (hs : isSg (bl line)[lettersN line] = true) :
    keyZ line = line.extract 0 (lettersN line) ∧ sigZ line = (bl line)[lettersN line] ∧ resZ line = line.extract (lettersN line + 1) line.size := by
  have hi : byI isSg line = lettersN line := byI_at h (fun j hj => by
    obtain ⟨hj2, ha⟩ := lettersN_lo hj
    exact sg_az ha) hs
  unfold keyZ sigZ resZ cutZ
  rw [dif_pos (by rw [hi]; exact h)]
  simp only [hi]
  exact ⟨trivial, trivial, trivial⟩
/-- where impl finds none, what spec finds is no good key -/
theorem link_no {line : ByteArray} (hs : ∀ h : lettersN line < (bl line).length, isSg (bl line)[lettersN line] = false) : sigZ line = 0 ∨ ¬ keyOk (keyZ line) := by
  unfold sigZ keyZ cutZ
  by_cases hb : byI isSg line < (bl line).length
  · right
    rw [dif_pos hb]
    dsimp only
    have hsg : isSg (bl line)[byI isSg line] = true := List.findIdx_getElem (w := hb)
    have hk : lettersN line < byI isSg line := by
      rcases Nat.lt_trichotomy (lettersN line) (byI isSg line) with h | h | h
      · exact h
      · exfalso
        have := hs (by rw [h]; exact hb)
        simp only [h] at this
        rw [hsg] at this
        cases this
      · exfalso
        obtain ⟨hj, ha⟩ := lettersN_lo h
        rw [sg_az ha] at hsg
        cases hsg
    have hlen : lettersN line < (bl line).length := Nat.lt_trans hk hb
    have hna := lettersN_hi hlen
    intro hko
    apply hna
    obtain ⟨b, hb1, hb2⟩ := bl_at hlen
    have hmem : b ∈ (line.extract 0 (byI isSg line)).data.toList := by
      rw [ByteArray.data_extract, Array.toList_extract]
      refine List.mem_of_getElem? (i := lettersN line) ?_
      simp only [List.extract_eq_take_drop, Nat.sub_zero, List.drop_zero, List.getElem?_take]
      rw [if_pos hk]
      exact hb1
    have := hko.2.2 b hmem
    rw [← hb2]
    exact this
  · left
    rw [dif_neg hb]
end Go.Proofs.YtimnogjgokljbaaDoor

end
