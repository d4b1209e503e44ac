/-
  booked of impl: the row is filtered, one item is added, and all are sorted.
-/
import Derived.Test.YtlogbmdfjnldlaaEvBookI
namespace Go.Proofs.Ytlogbmdfjnldlaa
set_option maxRecDepth 100000
set_option linter.unusedVariables false
set_option linter.unusedSimpArgs false
open Go Go.RowKit
set_option maxHeartbeats 8000000
set_option linter.unusedVariables false

theorem idxP_cases (p : TItem → Bool) (l : List TItem) : (∃ k, ∃ hk : k < l.length, idxP p l = (k : Int) ∧ p l[k] = true ∧ (l.take k).filter (fun x => !p x) = l.take k) ∨ (idxP p l = -1 ∧ l.filter (fun x => !p x) = l) := by
  unfold idxP
  by_cases h : l.findIdx p < l.length
  · left
    rw [if_pos h]
    refine ⟨_, h, rfl, List.findIdx_getElem (w := h), List.filter_eq_self.2 fun x hx => ?_⟩
    obtain ⟨j, hj, rfl⟩ := List.getElem_of_mem hx
    rw [List.length_take] at hj
    rw [List.getElem_take]
    have := List.not_of_lt_findIdx (p := p) (xs := l) (i := j) (by omega)
    simpa using this
  · right
    rw [if_neg h]
    refine ⟨rfl, List.filter_eq_self.2 fun x hx => ?_⟩
    cases hp : p x with
    | false => rfl
    | true => exact absurd (List.findIdx_lt_length_of_exists ⟨x, hx, hp⟩) h
/-- a row under way: i elements are kept of the first j -/
structure CutInv (p : TItem → Bool) (l q : List TItem) (i j : Nat) : Prop where
  len : q.length = l.length
  lt : i < j
  le : j ≤ l.length
  kept : q.take i = (l.take j).filter fun x => !p x
  rest : ∀ t, j ≤ t → q[t]? = l[t]?
theorem CutInv.row {p : TItem → Bool} {l q : List TItem} {i j : Nat} (h : CutInv p l q i j) (hj : j < l.length) : ∃ hq : j < q.length, q[j] = l[j] := by
  have hq : j < q.length := by rw [h.len]; exact hj
  refine ⟨hq, ?_⟩
  have := h.rest j (Nat.le_refl _)
  rw [List.getElem?_eq_getElem hq, List.getElem?_eq_getElem hj] at this
  exact Option.some.inj this
theorem take_last {α : Type} {l : List α} {j : Nat} (hj : j < l.length) : l.take (j + 1) = l.take j ++ [l[j]] := by
  rw [List.take_add_one, List.getElem?_eq_getElem hj]; rfl
theorem CutInv.keep {p : TItem → Bool} {l q : List TItem} {i j : Nat} (h : CutInv p l q i j) (hj : j < l.length) (hp : p l[j] = false) : CutInv p l (q.set i l[j]) (i + 1) (j + 1) where
  len := by rw [List.length_set, h.len]
  lt := by have := h.lt; omega
  le := hj
  kept := by
    have h1 := h.lt
    have h2 := h.len
    rw [take_last hj, List.filter_append, ← h.kept]
    have hi : i < (q.set i l[j]).length := by rw [List.length_set]; omega
    rw [take_last hi, List.take_set_of_le (Nat.le_refl _), List.getElem_set_self]
    simp [hp]
  rest t ht := by
    have h1 := h.lt
    rw [List.getElem?_set_ne (by omega)]
    exact h.rest t (by omega)
theorem CutInv.skip {p : TItem → Bool} {l q : List TItem} {i j : Nat} (h : CutInv p l q i j) (hj : j < l.length) (hp : p l[j] = true) : CutInv p l q i (j + 1) where
  len := h.len
  lt := by have := h.lt; omega
  le := hj
  kept := by rw [take_last hj, List.filter_append, ← h.kept]; simp [hp]
  rest t ht := h.rest t (by omega)
theorem CutInv.start {p : TItem → Bool} {l : List TItem} {k : Nat} (hk : k < l.length) (hp : p l[k] = true) (hf : (l.take k).filter (fun x => !p x) = l.take k) : CutInv p l l k (k + 1) where
  len := rfl
  lt := by omega
  le := hk
  kept := by rw [take_last hk, List.filter_append, hf]; simp [hp]
  rest t ht := rfl

theorem delI_s (key : ByteArray) : CutsBy Try.prog 166 167 cItem 139 2 [.string key] (fun x => decide (x.1 = key)) := by
  have hc1 : ∀ v ∈ [Value.string key], v.oneCell' = true := fun v hv => by
    simp only [List.mem_cons, List.not_mem_nil, or_false] at hv
    subst hv; rfl
  have hΓ : GSound Try.prog (look [(183, mIdxIt 167 [[.sc (.string key)]] (fun x => decide (x.1 = key))), (167, mKeyI)]) := env_cons (has_of Try.func183 rfl rfl) (idxIt_s (has_of Try.func167 rfl rfl) keyD_s (fun x => mKeyI_eq x key)) (env_cons (has_of Try.func167 rfl rfl) keyD_s env_nil)
  constructor
  · intro A c b1 w hgl hc hb1 hcs
    refine enterXF (rows := []) Try.func166 rfl Try.ntmps166 (by decide) (.emp hc) hc1 hgl hb1 hcs ?_
    have c := mIdxIt_eq 167 [[.sc (.string key)]] (fun x => decide (x.1 = key)) [] (by simp)
    have e : idxP (fun x : TItem => decide (x.1 = key)) [] = -1 := rfl
    have e0 : rowsF cItem ([] : List TItem) = [] := rfl
    rw [e] at c
    simp only [aL, e0] at c
    simp only [List.map_cons, List.map_nil]
    repeat (first | with_reducible apply W.seq | with_reducible apply W.block | with_reducible apply W.skip | with_reducible apply W.exit | with_reducible apply W.ret | with_reducible apply At.seqN | with_reducible apply At.blkN | with_reducible apply At.blkE | with_reducible apply At.blkR | with_reducible apply At.thenX | with_reducible apply At.thenR | with_reducible apply At.blkX rfl | ((with_reducible apply W.ops); (repeat (first | refine WL.opA hΓ (h := ?_) | refine WL.opX hΓ (h := ?_) | refine WL.opY (h := ?_) | refine WL.opZ (h := ?_))); with_reducible apply WL.nil) | refine W.condT (h := ?_) | refine W.condF (h := ?_))
    refine At.retX (t := 4) (rows := []) ?_ ?_
    · rw [Try.results166]
    · rfl
  · intro b b1 cap cur l w hgl hne hb1 hcs hh hl0 hlc hcap hsz htk hl62 hone
    refine enterA (s := 2) Try.func166 rfl Try.ntmps166 (by decide) (fun _ => rfl) hc1 hgl hne hb1 hcs hh hlc hcap hsz htk hone ?_
    have c := mIdxIt_eq 167 [[.sc (.string key)]] (fun x => decide (x.1 = key)) l hl62
    clear hcs hne hgl hb1 htk hone hcap hlc
    have hl12 := hl0
    rcases idxP_cases (fun x : TItem => decide (x.1 = key)) l with ⟨k, hk, e1, e2, e3⟩ | ⟨e1, e2⟩
    · rw [e1] at c
      simp only [initA, List.map_cons, List.map_nil]
      have hki : ((k : Nat) : Int) ≠ -1 := by omega
      repeat (first | with_reducible apply W.seq | with_reducible apply W.block | with_reducible apply W.skip | with_reducible apply W.exit | with_reducible apply W.ret | with_reducible apply At.seqN | with_reducible apply At.blkN | with_reducible apply At.blkE | with_reducible apply At.blkR | with_reducible apply At.thenX | with_reducible apply At.thenR | with_reducible apply At.blkX rfl | ((with_reducible apply W.ops); (repeat (first | refine WL.opA hΓ (h := ?_) | refine WL.opX hΓ (h := ?_) | refine WL.opY (h := ?_) | refine WL.opZ (h := ?_))); with_reducible apply WL.nil) | refine W.condT (h := ?_) | refine W.condF (h := ?_))
      have hst := CutInv.start hk e2 e3
      clear e2 e3 e1 c
      refine W.loopA (fun x : Nat × Nat × List TItem => CutInv (fun x : TItem => decide (x.1 = key)) l x.2.2 x.1 x.2.1) (fun x : Nat × Nat × List TItem => [.slot 5 (vI x.1), .slot 6 (vI x.2.1), .slot 0 (one (.all 999)), .blk 999 (.arr true 139 2 (rowsF cItem x.2.2)), .slot 1 (one (.clo 167 [[.sc (.string key)]]))]) (fun x => l.length - x.2.1) (k, k + 1, l) hst (h := ?_)
      rintro ⟨i, j, q⟩ hq
      dsimp only at hq ⊢
      have hql : q.length = l.length := hq.len
      have hij := hq.lt
      have hjl := hq.le
      have hrl : (rowsF cItem q).length = l.length := by rw [rowsF_len, hql]
      by_cases hlt : j < l.length
      · obtain ⟨hqj, hx⟩ := hq.row hlt
        have hrow := item_row hqj
        have hrowi := item_row (l := q) (k := i) (by omega)
        have hc := mKeyI_eq q[j] key
        cases hp : decide (q[j].1 = key) with
        | false =>
          have hnx := hq.keep hlt (by rw [← hx]; exact hp)
          rw [hp] at hc
          rw [← hx] at hnx
          have hset : (rowsF cItem q).set i (bItem q[j]) = rowsF cItem (q.set i q[j]) := rowsF_set cItem q i q[j]
          clear hx hp hst hq
          generalize q[j] = x at *
          generalize q[i] = y at *
          obtain ⟨a, b⟩ := x
          obtain ⟨a2, b2⟩ := y
          dsimp only [aItem, bItem] at hc hrow hrowi hset
          repeat (first | with_reducible apply W.seq | with_reducible apply W.block | with_reducible apply W.skip | with_reducible apply W.exit | with_reducible apply W.ret | with_reducible apply At.seqN | with_reducible apply At.blkN | with_reducible apply At.blkE | with_reducible apply At.blkR | with_reducible apply At.thenX | with_reducible apply At.thenR | with_reducible apply At.blkX rfl | ((with_reducible apply W.ops); (repeat (first | refine WL.opA hΓ (h := ?_) | refine WL.opX hΓ (h := ?_) | refine WL.opY (h := ?_) | refine WL.opZ (h := ?_))); with_reducible apply WL.nil) | refine W.condT (h := ?_) | refine W.condF (h := ?_))
          exact At.roundA (i + 1, j + 1, q.set i (a, b)) hnx (by dsimp only; omega)
        | true =>
          have hnx := hq.skip hlt (by rw [← hx]; exact hp)
          rw [hp] at hc
          clear hx hp hst hq
          generalize q[j] = x at *
          generalize q[i] = y at *
          obtain ⟨a, b⟩ := x
          dsimp only [aItem, bItem] at hc hrow
          repeat (first | with_reducible apply W.seq | with_reducible apply W.block | with_reducible apply W.skip | with_reducible apply W.exit | with_reducible apply W.ret | with_reducible apply At.seqN | with_reducible apply At.blkN | with_reducible apply At.blkE | with_reducible apply At.blkR | with_reducible apply At.thenX | with_reducible apply At.thenR | with_reducible apply At.blkX rfl | ((with_reducible apply W.ops); (repeat (first | refine WL.opA hΓ (h := ?_) | refine WL.opX hΓ (h := ?_) | refine WL.opY (h := ?_) | refine WL.opZ (h := ?_))); with_reducible apply WL.nil) | refine W.condT (h := ?_) | refine W.condF (h := ?_))
          exact At.roundA (i, j + 1, q) hnx (by dsimp only; omega)
      · have hje : j = l.length := by omega
        subst hje
        have hkept := hq.kept
        rw [List.take_length] at hkept
        clear hst hq
        have hli : (((l.length : Nat) : Int) - ((i : Nat) : Int)).toNat = l.length - i := by omega
        repeat (first | with_reducible apply W.seq | with_reducible apply W.block | with_reducible apply W.skip | with_reducible apply W.exit | with_reducible apply W.ret | with_reducible apply At.seqN | with_reducible apply At.blkN | with_reducible apply At.blkE | with_reducible apply At.blkR | with_reducible apply At.thenX | with_reducible apply At.thenR | with_reducible apply At.blkX rfl | ((with_reducible apply W.ops); (repeat (first | refine WL.opA hΓ (h := ?_) | refine WL.opX hΓ (h := ?_) | refine WL.opY (h := ?_) | refine WL.opZ (h := ?_))); with_reducible apply WL.nil) | refine W.condT (h := ?_) | refine W.condF (h := ?_))
        with_reducible apply W.ops
        repeat (first | refine WL.opA hΓ (h := ?_) | refine WL.opX hΓ (h := ?_) | refine WL.opY (h := ?_) | refine WL.opZ (h := ?_))
        refine WL.opClear (n := 999) (off := i) (len := l.length - i) (fl := true) (s := 2) (e := 139) (rows := rowsF cItem q) (z := .agg #[.string ByteArray.empty, .int .i64 0]) (zs := [.string ByteArray.empty, .int .i64 0]) ?hp (by omega) ?hb (by rw [hrl]; omega) ?he ?hz rfl rfl (fun v hv => by simp only [List.mem_cons, List.not_mem_nil, or_false] at hv; rcases hv with rfl | rfl <;> rfl) (by decide) ?h
        case hp => simp (config := { maxSteps := 1000000 }) (disch := first | assumption | omega) only [TY, ar_u64, binE, eqCells, eqVal, eqOp, step_mk, makeE, List.toList_toArray, Value.oneCell', step_fnv, step_makeFunc, ev_func, callV, cells_agg, cells_int, cells_bool, cells_str, cells_sl, List.size_toArray, flatB_nil, flatB_cons, wid_nil, wid_cons, rowsF_len, rowsF_flat, rowsF_app, step_build, buildE, fillE, indexSlE, indexArrE, shiftE, indexArrV, indexStE, step_move, step_assign, step_pick, step_load, step_nilCheck, step_binOp, step_unOp, step_convert, step_slice, step_fieldAddr, step_field, step_indexAddr, step_index, step_extract, step_len, step_min, step_max, step_alloc, step_box, step_lit, step_app, step_fn, step_store, putV_some, getS_hit, getS_miss, getS_blk, getS_kill, getS_nil, getB_nil, getB_slot, getB_hit, getB_miss, getB_kill0, getB_kill1, ev_tmp, ev_int, ev_bool, ev_str, ev_nil, ev_agg, cl_int, cl_bool, cl_str, cl_nil, loadE, loadV, fieldAddrE, fieldE, partV, indexAddrE, lenE, lenO, strIdx, indexE, boundE, subE, sliceE, convE, minE, scal, nilE, tupE, capsE, optE, pickE, pbin, pint, pstr, pun, ar_in, ar_u32, ar_u8, allocE, boxE, litE, rowsO, leafO, leafsO, frz, clr, rowsOf, destOf, appE, storeE, argO, argsO, boxesO, callG, callE, impE, pvR, pvs, pvRL, pvT, owns, ownsT, ownsR, clrL, withB, PV.kill, PL.kill, PL.names, Blk.kill, PL.live, toPL, resV, resO, compsO, compO, rlsO, rlO, toRes, Leaf.isSc, List.map_cons, List.map_nil, List.all_cons, List.all_nil, List.length_cons, List.length_nil, List.drop_zero, List.drop_succ_cons, List.take_succ_cons, List.take_zero, List.drop_nil, List.take_nil, List.getElem?_cons_zero, List.getElem?_cons_succ, List.getElem?_nil, Option.map_some, Option.map_none, Option.bind_some, Option.isSome_some, Option.isSome_none, List.cons_append, List.nil_append, List.append_nil, if_true, if_false, reduceIte, Nat.reduceLT, Nat.reduceBEq, Nat.reduceLeDiff, Nat.reduceEqDiff, Nat.reduceAdd, Nat.reduceMul, Nat.zero_add, Nat.add_zero, Nat.mul_one, Int.reduceToNat, Bool.and_true, Bool.true_and, Bool.false_and, Bool.and_false, Bool.not_true, Bool.not_false, Bool.false_eq_true, decide_true, decide_false, and_self, and_true, true_and, or_true, true_or, or_false, false_or, if_pos, if_neg, Int.toNat_natCast, decide_eq_true, decide_eq_false, look_hit, look_miss, Int.ofNat_eq_natCast, Bool.or_false, Bool.or_true, Bool.true_or, Bool.false_or, Bool.not_eq_true, beq_self_eq_true, ne_eq, not_false_eq_true, not_true_eq_false, eq_self, *]
        case hb => simp (config := { maxSteps := 1000000 }) (disch := first | assumption | omega) only [TY, ar_u64, binE, eqCells, eqVal, eqOp, step_mk, makeE, List.toList_toArray, Value.oneCell', step_fnv, step_makeFunc, ev_func, callV, cells_agg, cells_int, cells_bool, cells_str, cells_sl, List.size_toArray, flatB_nil, flatB_cons, wid_nil, wid_cons, rowsF_len, rowsF_flat, rowsF_app, step_build, buildE, fillE, indexSlE, indexArrE, shiftE, indexArrV, indexStE, step_move, step_assign, step_pick, step_load, step_nilCheck, step_binOp, step_unOp, step_convert, step_slice, step_fieldAddr, step_field, step_indexAddr, step_index, step_extract, step_len, step_min, step_max, step_alloc, step_box, step_lit, step_app, step_fn, step_store, putV_some, getS_hit, getS_miss, getS_blk, getS_kill, getS_nil, getB_nil, getB_slot, getB_hit, getB_miss, getB_kill0, getB_kill1, ev_tmp, ev_int, ev_bool, ev_str, ev_nil, ev_agg, cl_int, cl_bool, cl_str, cl_nil, loadE, loadV, fieldAddrE, fieldE, partV, indexAddrE, lenE, lenO, strIdx, indexE, boundE, subE, sliceE, convE, minE, scal, nilE, tupE, capsE, optE, pickE, pbin, pint, pstr, pun, ar_in, ar_u32, ar_u8, allocE, boxE, litE, rowsO, leafO, leafsO, frz, clr, rowsOf, destOf, appE, storeE, argO, argsO, boxesO, callG, callE, impE, pvR, pvs, pvRL, pvT, owns, ownsT, ownsR, clrL, withB, PV.kill, PL.kill, PL.names, Blk.kill, PL.live, toPL, resV, resO, compsO, compO, rlsO, rlO, toRes, Leaf.isSc, List.map_cons, List.map_nil, List.all_cons, List.all_nil, List.length_cons, List.length_nil, List.drop_zero, List.drop_succ_cons, List.take_succ_cons, List.take_zero, List.drop_nil, List.take_nil, List.getElem?_cons_zero, List.getElem?_cons_succ, List.getElem?_nil, Option.map_some, Option.map_none, Option.bind_some, Option.isSome_some, Option.isSome_none, List.cons_append, List.nil_append, List.append_nil, if_true, if_false, reduceIte, Nat.reduceLT, Nat.reduceBEq, Nat.reduceLeDiff, Nat.reduceEqDiff, Nat.reduceAdd, Nat.reduceMul, Nat.zero_add, Nat.add_zero, Nat.mul_one, Int.reduceToNat, Bool.and_true, Bool.true_and, Bool.false_and, Bool.and_false, Bool.not_true, Bool.not_false, Bool.false_eq_true, decide_true, decide_false, and_self, and_true, true_and, or_true, true_or, or_false, false_or, if_pos, if_neg, Int.toNat_natCast, decide_eq_true, decide_eq_false, look_hit, look_miss, Int.ofNat_eq_natCast, Bool.or_false, Bool.or_true, Bool.true_or, Bool.false_or, Bool.not_eq_true, beq_self_eq_true, ne_eq, not_false_eq_true, not_true_eq_false, eq_self, *]
        case he => simp only [TY]
        case hz => simp only [TY]
        intro rows' hr1 hr2
        have hr3 : rows'.take i = rowsF cItem (l.filter fun x => !decide (x.1 = key)) := by
          rw [hr2, ← hkept]
          unfold rowsF
          rw [List.map_take]
        have hr4 : rows'.length = l.length := by rw [hr1, hrl]
        clear hrl hql hr1 hr2 hkept
        (repeat (first | refine WL.opA hΓ (h := ?_) | refine WL.opX hΓ (h := ?_) | refine WL.opY (h := ?_) | refine WL.opZ (h := ?_)))
        with_reducible apply WL.nil
        repeat (first | with_reducible apply W.seq | with_reducible apply W.block | with_reducible apply W.skip | with_reducible apply W.exit | with_reducible apply W.ret | with_reducible apply At.seqN | with_reducible apply At.blkN | with_reducible apply At.blkE | with_reducible apply At.blkR | with_reducible apply At.thenX | with_reducible apply At.thenR | with_reducible apply At.blkX rfl | ((with_reducible apply W.ops); (repeat (first | refine WL.opA hΓ (h := ?_) | refine WL.opX hΓ (h := ?_) | refine WL.opY (h := ?_) | refine WL.opZ (h := ?_))); with_reducible apply WL.nil) | refine W.condT (h := ?_) | refine W.condF (h := ?_))
        refine At.retCut (t := 4) (m := i) _ (by decide) (by decide) ?_ hh hsz (by omega) (.inr rfl) rfl hr3 (by omega)
        rw [Try.results166]
    · rw [e1] at c
      simp only [initA, List.map_cons, List.map_nil]
      repeat (first | with_reducible apply W.seq | with_reducible apply W.block | with_reducible apply W.skip | with_reducible apply W.exit | with_reducible apply W.ret | with_reducible apply At.seqN | with_reducible apply At.blkN | with_reducible apply At.blkE | with_reducible apply At.blkR | with_reducible apply At.thenX | with_reducible apply At.thenR | with_reducible apply At.blkX rfl | ((with_reducible apply W.ops); (repeat (first | refine WL.opA hΓ (h := ?_) | refine WL.opX hΓ (h := ?_) | refine WL.opY (h := ?_) | refine WL.opZ (h := ?_))); with_reducible apply WL.nil) | refine W.condT (h := ?_) | refine W.condF (h := ?_))
      rw [e2]
      refine At.retCut (t := 4) (m := (rowsF cItem l).length) l (by decide) (by decide) ?_ hh hsz (by rw [rowsF_len]; exact hl0) (.inl ⟨rfl, rfl⟩) rfl (by rw [List.take_length]) (Nat.le_refl _)
      rw [Try.results166]
end Go.Proofs.Ytlogbmdfjnldlaa
