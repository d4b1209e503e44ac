/-
  Put together: EvReadZ EvFrz.
-/
import Derived.Test.YtimnogjgokljbaaDoorHEvDecZ
import Derived.Test.YtimnogjgokljbaaDoorG7
section
/-!
  What ReadDec computes: the number whose decimal text it is.
-/
namespace Go.Proofs.YtimnogjgokljbaaDoor
set_option maxRecDepth 100000
set_option linter.unusedVariables false
set_option linter.unusedSimpArgs false
open Go Go.RowKit
set_option maxHeartbeats 4000000
set_option linter.unusedVariables false

/-- a text's bytes -/
def bl (s : ByteArray) : List Nat := s.data.toList.map UInt8.toNat
theorem bl_len (s : ByteArray) : (bl s).length = s.size := by unfold bl; rw [List.length_map, Array.length_toList]; rfl
theorem bl_bsS {l : List Nat} (h : ∀ d ∈ l, d < 256) : bl (bsS l) = l := by
  unfold bl bsS
  simp only [List.map_map]
  conv => rhs; rw [← List.map_id l]
  refine List.map_congr_left fun d hd => ?_
  have := h d hd
  simp only [Function.comp_apply, UInt8.toNat_ofNat', id_eq]
  omega
theorem bl_at {s : ByteArray} {i : Nat} (h : i < (bl s).length) : ∃ b : UInt8, s.data.toList[i]? = some b ∧ b.toNat = (bl s)[i] := by
  have hi : i < s.data.toList.length := by
    have := h
    unfold bl at this
    rwa [List.length_map] at this
  have h2 : (bl s)[i]? = some (s.data.toList[i]).toNat := by unfold bl; rw [List.getElem?_map, List.getElem?_eq_getElem hi]; rfl
  exact ⟨s.data.toList[i], List.getElem?_eq_getElem hi, (List.getElem?_eq_some_iff.1 h2).2.symm⟩
def isDg (d : Nat) : Prop := 48 ≤ d ∧ d ≤ 57
instance (d : Nat) : Decidable (isDg d) := by unfold isDg; infer_instance
def valD (a : Nat) (l : List Nat) : Nat := l.foldl (fun a d => a * 10 + (d - 48)) a
theorem digF_dg : ∀ k n, ∀ d ∈ digF k n, isDg d
  | 0, n, d, h => by
    have h1 : d = 48 + n % 10 := List.mem_singleton.1 h
    rw [h1]
    unfold isDg; omega
  | k + 1, n, d, h => by
    unfold digF at h
    split at h
    · rw [List.mem_singleton.1 h]
      unfold isDg; omega
    · rcases List.mem_append.1 h with h | h
      · exact digF_dg k _ d h
      · rw [List.mem_singleton.1 h]
        unfold isDg; omega
theorem digF_val : ∀ k n, n < 10 ^ (k + 1) → valD 0 (digF k n) = n
  | 0, n, h => by
    simp [digF, valD]
    simp at h
    omega
  | k + 1, n, h => by
    unfold digF
    split
    · simp [valD]; omega
    · rename_i hn
      have ih := digF_val k (n / 10) (by rw [Nat.pow_succ] at h; omega)
      unfold valD at ih ⊢
      rw [List.foldl_append, ih]
      simp
      omega
theorem digF_max : ∀ k n j, n < 10 ^ (j + 1) → (digF k n).length ≤ j + 1
  | 0, n, j, _ => by simp [digF]
  | k + 1, n, j, h => by
    unfold digF
    split
    · simp
    · rename_i hn
      cases j with
      | zero => simp at h; omega
      | succ j =>
        have := digF_max k (n / 10) j (by rw [Nat.pow_succ] at h; omega)
        simp
        omega
theorem valD_lt : ∀ (l : List Nat) (a : Nat), (∀ d ∈ l, isDg d) → valD a l < (a + 1) * 10 ^ l.length
  | [], a, _ => by simp [valD]
  | d :: l, a, h => by
    have hd := h d List.mem_cons_self
    have ih := valD_lt l (a * 10 + (d - 48)) (fun x hx => h x (List.mem_cons_of_mem _ hx))
    have e : valD a (d :: l) = valD (a * 10 + (d - 48)) l := rfl
    rw [e]
    refine Nat.lt_of_lt_of_le ih ?_
    rw [List.length_cons, Nat.pow_succ]
    unfold isDg at hd
    have : a * 10 + (d - 48) + 1 ≤ (a + 1) * 10 := by omega
    calc (a * 10 + (d - 48) + 1) * 10 ^ l.length ≤ ((a + 1) * 10) * 10 ^ l.length := Nat.mul_le_mul_right _ this
      _ = (a + 1) * (10 ^ l.length * 10) := by rw [Nat.mul_assoc, Nat.mul_comm 10]
theorem valD_snoc (a : Nat) (l : List Nat) (d : Nat) : valD a (l ++ [d]) = valD a l * 10 + (d - 48) := by
  unfold valD
  rw [List.foldl_append]
  rfl
theorem digL_props {n : Nat} (h : n ≤ 999999999) : (∀ d ∈ digL n, isDg d) ∧ valD 0 (digL n) = n ∧ (digL n).length ≤ 9 ∧ 0 < (digL n).length :=
  ⟨digF_dg 9 n, digF_val 9 n (by omega), digF_max 9 n 8 (by omega), digF_pos 9 n⟩
/-- the parts of a number's text -/
theorem decZ_parts {n : Int} (h : okDecZ n) : ∃ (neg : Bool) (l : List Nat), decZ n = (if neg then 45 :: l else l) ∧ (∀ d ∈ l, isDg d) ∧ l.length ≤ 9 ∧ 0 < l.length ∧ n = if neg then -((valD 0 l : Nat) : Int) else ((valD 0 l : Nat) : Int) := by
  obtain ⟨h1, h2⟩ := h
  rcases int_cases n with rfl | ⟨a, ha, rfl⟩ | ⟨a, ha, rfl⟩
  · exact ⟨false, [48], rfl, fun d hd => by rw [List.mem_singleton.1 hd]; decide, by decide, by decide, rfl⟩
  · obtain ⟨p1, p2, p3, p4⟩ := digL_props (n := a) (by omega)
    exact ⟨false, digL a, by rw [decZ_pos ha]; rfl, p1, p3, p4, by rw [p2]; rfl⟩
  · obtain ⟨p1, p2, p3, p4⟩ := digL_props (n := a) (by omega)
    exact ⟨true, digL a, by rw [decZ_neg ha]; rfl, p1, p3, p4, by rw [p2]; rfl⟩
theorem decZ_lt {n : Int} (h : okDecZ n) : ∀ d ∈ decZ n, d < 256 := by
  obtain ⟨neg, l, e, p1, _⟩ := decZ_parts h
  rw [e]
  intro d hd
  have key : ∀ d ∈ l, d < 256 := fun d hd => by have := p1 d hd; unfold isDg at this; omega
  cases neg with
  | false => exact key d hd
  | true =>
    rcases List.mem_cons.1 hd with rfl | hd
    · decide
    · exact key d hd
/-- the sign and the digits of a text -/
def sgn (L : List Nat) : Bool := decide (L.head? = some 45)
def dgs (L : List Nat) : List Nat := if sgn L then L.tail else L
def sval (L : List Nat) : Int := if sgn L then -((valD 0 (dgs L) : Nat) : Int) else ((valD 0 (dgs L) : Nat) : Int)
theorem decZ_sval {n : Int} (h : okDecZ n) : (∀ d ∈ dgs (decZ n), isDg d) ∧ (dgs (decZ n)).length ≤ 9 ∧ 0 < (dgs (decZ n)).length ∧ sval (decZ n) = n := by
  obtain ⟨neg, l, e, p1, p2, p3, p4⟩ := decZ_parts h
  have hs : sgn (decZ n) = neg := by
    rw [e]
    unfold sgn
    cases neg with
    | true => simp
    | false =>
      cases l with
      | nil => cases p3
      | cons d l =>
        have := p1 d List.mem_cons_self
        unfold isDg at this
        simp
        omega
  have hd : dgs (decZ n) = l := by
    unfold dgs
    rw [hs, e]
    cases neg <;> rfl
  have hv : sval (decZ n) = n := by
    unfold sval
    rw [hs, hd]
    exact p4.symm
  rw [hd]
  exact ⟨p1, p2, p3, hv⟩
open Classical in
/-- the number that a text shows -/
noncomputable def readZ (s : ByteArray) : Int × Bool := if ∃ n, okDecZ n ∧ bsS (decZ n) = s then (sval (bl s), true) else (0, false)
theorem readZ_yes {s : ByteArray} {n : Int} (h : okDecZ n) (he : bsS (decZ n) = s) : readZ s = (n, true) := by
  have hb : bl s = decZ n := by rw [← he]; exact bl_bsS (decZ_lt h)
  unfold readZ
  rw [if_pos ⟨n, h, he⟩, hb, (decZ_sval h).2.2.2]
theorem readZ_no {s : ByteArray} (h : ∀ n, okDecZ n → bl s = decZ n → bsS (decZ n) = s → False) : readZ s = (0, false) := by
  unfold readZ
  rw [if_neg]
  rintro ⟨n, h1, h2⟩
  exact h n h1 (by rw [← h2]; exact bl_bsS (decZ_lt h1)) h2
end Go.Proofs.YtimnogjgokljbaaDoor

end
section
/-!
  A row of one's own becomes data.
-/
namespace Go.Proofs.YtimnogjgokljbaaDoor
set_option maxRecDepth 100000
set_option linter.unusedVariables false
set_option linter.unusedSimpArgs false
open Go Go.RowKit

section
variable {P : Program} {γ0 : Nat → Option Nat} {w0 : World} {N : Nat} {st : St} {a : Act} {w : World} {Q : Exit → Act → World → Prop} {c : Code}
theorem R.frz (h : R γ0 w0 N st a w) {t n : Nat} {fl : Bool} {e s : Nat} {rows : List (List Leaf)} (ht : getS st t = one (.all n)) (hb : getB st n = some (.arr fl e s rows)) : R γ0 w0 N (.slot t (one (.sl rows)) :: .kill n :: st) a w := by
  obtain ⟨η, γ, hI⟩ := h
  obtain ⟨γ', h1, h2⟩ := hI.frz [.all n]
  have hu := hI.slots t
  rw [ht] at hu
  have hk : ∀ b, γ b = none → γ' b = none := fun b hb => by
    cases hg : γ' b with
    | none => rfl
    | some m => have := (h2 b m hg).1; rw [hb] at this; cases this
  have hrep : RepL w γ' (.sl rows) (a.tmps.getD t undef) := by
    obtain ⟨l, e1, h3⟩ := hu
    cases e1
    refine leafO_sound hI hk (fun b m hbm he => ?_) h3 (by simp only [leafO, hb])
    have hm : m = n := by
      rcases he with e | ⟨o, k, e⟩
      · cases e; rfl
      · cases e
    subst hm
    cases hg : γ' b with
    | none => rfl
    | some k =>
      obtain ⟨h4, h5⟩ := h2 b k hg
      rw [hbm] at h4
      cases h4
      exact absurd rfl ((h5 _ List.mem_cons_self).1 m rfl)
  refine ⟨η, γ', { h1 with slots := fun k => ?_ }⟩
  show RepV (getB (.kill n :: st)) η γ' w (if t = k then one (.sl rows) else getS (.kill n :: st) k) (a.tmps.getD k undef)
  by_cases e : t = k
  · subst e
    rw [if_pos rfl]
    exact ⟨_, rfl, hrep⟩
  · rw [if_neg e]
    exact h1.slots k
theorem W.frz (t n : Nat) {fl : Bool} {e s : Nat} {rows : List (List Leaf)} (ht : getS st t = one (.all n)) (hb : getB st n = some (.arr fl e s rows)) (h : W P γ0 w0 N (.slot t (one (.sl rows)) :: .kill n :: st) c Q) : W P γ0 w0 N st c Q :=
  fun a w hR => h a w (hR.frz ht hb)
theorem At.frz (t n : Nat) {x : Exit} {fl : Bool} {e s : Nat} {rows : List (List Leaf)} (ht : getS st t = one (.all n)) (hb : getB st n = some (.arr fl e s rows)) (h : At γ0 w0 N (.slot t (one (.sl rows)) :: .kill n :: st) x Q) : At γ0 w0 N st x Q :=
  fun a w hR => h a w (hR.frz ht hb)
end
/-- less is kept -/
theorem W.subA {γ0 : Nat → Option Nat} {w0 : World} {N : Nat} {st : St} {Q : Exit → Act → World → Prop} {c : Code} (st' : St) (hs : Sub st' st := by simp (disch := omega) only [Sub, SubL, getS_hit, getS_miss, getS_blk, getS_kill, getS_nil, getB_nil, getB_slot, getB_hit, getB_miss, getB_kill0, getB_kill1, lsNms, vsNms, PL.nms, PV.nms, Blk.nms, bound, PV.kill, PL.kill, PL.names, List.append_nil, List.nil_append, List.cons_append, and_true, true_and, and_self, *] <;> (repeat' apply And.intro) <;> rfl) (h : W Tryd.prog γ0 w0 N st' c Q) : W Tryd.prog γ0 w0 N st c Q := W.sub hs h
theorem W.frzA {γ0 : Nat → Option Nat} {w0 : World} {N : Nat} {st : St} {Q : Exit → Act → World → Prop} {c : Code} (t n : Nat) {fl : Bool} {e s : Nat} {rows : List (List Leaf)} (ht : getS st t = one (.all n) := by simp (config := { maxSteps := 1000000 }) (disch := first | assumption | omega) only [TY, ar_u64, binE, eqCells, eqVal, eqOp, step_mk, makeE, List.toList_toArray, Value.oneCell', step_fnv, step_makeFunc, ev_func, callV, cells_agg, cells_int, cells_bool, cells_str, cells_sl, List.size_toArray, flatB_nil, flatB_cons, wid_nil, wid_cons, rowsF_len, rowsF_flat, rowsF_app, step_build, buildE, fillE, indexSlE, indexArrE, shiftE, indexArrV, indexStE, step_move, step_assign, step_pick, step_load, step_nilCheck, step_binOp, step_unOp, step_convert, step_slice, step_fieldAddr, step_field, step_indexAddr, step_index, step_extract, step_len, step_min, step_max, step_alloc, step_box, step_lit, step_app, step_fn, step_store, putV_some, getS_hit, getS_miss, getS_blk, getS_kill, getS_nil, getB_nil, getB_slot, getB_hit, getB_miss, getB_kill0, getB_kill1, ev_tmp, ev_int, ev_bool, ev_str, ev_nil, ev_agg, cl_int, cl_bool, cl_str, cl_nil, loadE, loadV, fieldAddrE, fieldE, partV, indexAddrE, lenE, lenO, strIdx, indexE, boundE, subE, sliceE, convE, minE, scal, nilE, tupE, capsE, optE, pickE, pbin, pint, pstr, pun, ar_in, ar_u32, ar_u8, allocE, boxE, litE, rowsO, leafO, leafsO, frz, clr, rowsOf, destOf, appE, storeE, argO, argsO, boxesO, callG, callE, impE, pvR, pvs, pvRL, pvT, owns, ownsT, ownsR, clrL, withB, PV.kill, PL.kill, PL.names, Blk.kill, PL.live, toPL, resV, resO, compsO, compO, rlsO, rlO, toRes, Leaf.isSc, List.map_cons, List.map_nil, List.all_cons, List.all_nil, List.length_cons, List.length_nil, List.drop_zero, List.drop_succ_cons, List.take_succ_cons, List.take_zero, List.drop_nil, List.take_nil, List.getElem?_cons_zero, List.getElem?_cons_succ, List.getElem?_nil, Option.map_some, Option.map_none, Option.bind_some, Option.isSome_some, Option.isSome_none, List.cons_append, List.nil_append, List.append_nil, if_true, if_false, reduceIte, Nat.reduceLT, Nat.reduceBEq, Nat.reduceLeDiff, Nat.reduceEqDiff, Nat.reduceAdd, Nat.reduceMul, Nat.zero_add, Nat.add_zero, Nat.mul_one, Int.reduceToNat, Bool.and_true, Bool.true_and, Bool.false_and, Bool.and_false, Bool.not_true, Bool.not_false, Bool.false_eq_true, decide_true, decide_false, and_self, and_true, true_and, or_true, true_or, or_false, false_or, if_pos, if_neg, Int.toNat_natCast, decide_eq_true, decide_eq_false, look_hit, look_miss, Int.ofNat_eq_natCast, Bool.or_false, Bool.or_true, Bool.true_or, Bool.false_or, Bool.not_eq_true, beq_self_eq_true, ne_eq, not_false_eq_true, not_true_eq_false, eq_self, *] <;> rfl) (hb : getB st n = some (.arr fl e s rows) := by simp (config := { maxSteps := 1000000 }) (disch := first | assumption | omega) only [TY, ar_u64, binE, eqCells, eqVal, eqOp, step_mk, makeE, List.toList_toArray, Value.oneCell', step_fnv, step_makeFunc, ev_func, callV, cells_agg, cells_int, cells_bool, cells_str, cells_sl, List.size_toArray, flatB_nil, flatB_cons, wid_nil, wid_cons, rowsF_len, rowsF_flat, rowsF_app, step_build, buildE, fillE, indexSlE, indexArrE, shiftE, indexArrV, indexStE, step_move, step_assign, step_pick, step_load, step_nilCheck, step_binOp, step_unOp, step_convert, step_slice, step_fieldAddr, step_field, step_indexAddr, step_index, step_extract, step_len, step_min, step_max, step_alloc, step_box, step_lit, step_app, step_fn, step_store, putV_some, getS_hit, getS_miss, getS_blk, getS_kill, getS_nil, getB_nil, getB_slot, getB_hit, getB_miss, getB_kill0, getB_kill1, ev_tmp, ev_int, ev_bool, ev_str, ev_nil, ev_agg, cl_int, cl_bool, cl_str, cl_nil, loadE, loadV, fieldAddrE, fieldE, partV, indexAddrE, lenE, lenO, strIdx, indexE, boundE, subE, sliceE, convE, minE, scal, nilE, tupE, capsE, optE, pickE, pbin, pint, pstr, pun, ar_in, ar_u32, ar_u8, allocE, boxE, litE, rowsO, leafO, leafsO, frz, clr, rowsOf, destOf, appE, storeE, argO, argsO, boxesO, callG, callE, impE, pvR, pvs, pvRL, pvT, owns, ownsT, ownsR, clrL, withB, PV.kill, PL.kill, PL.names, Blk.kill, PL.live, toPL, resV, resO, compsO, compO, rlsO, rlO, toRes, Leaf.isSc, List.map_cons, List.map_nil, List.all_cons, List.all_nil, List.length_cons, List.length_nil, List.drop_zero, List.drop_succ_cons, List.take_succ_cons, List.take_zero, List.drop_nil, List.take_nil, List.getElem?_cons_zero, List.getElem?_cons_succ, List.getElem?_nil, Option.map_some, Option.map_none, Option.bind_some, Option.isSome_some, Option.isSome_none, List.cons_append, List.nil_append, List.append_nil, if_true, if_false, reduceIte, Nat.reduceLT, Nat.reduceBEq, Nat.reduceLeDiff, Nat.reduceEqDiff, Nat.reduceAdd, Nat.reduceMul, Nat.zero_add, Nat.add_zero, Nat.mul_one, Int.reduceToNat, Bool.and_true, Bool.true_and, Bool.false_and, Bool.and_false, Bool.not_true, Bool.not_false, Bool.false_eq_true, decide_true, decide_false, and_self, and_true, true_and, or_true, true_or, or_false, false_or, if_pos, if_neg, Int.toNat_natCast, decide_eq_true, decide_eq_false, look_hit, look_miss, Int.ofNat_eq_natCast, Bool.or_false, Bool.or_true, Bool.true_or, Bool.false_or, Bool.not_eq_true, beq_self_eq_true, ne_eq, not_false_eq_true, not_true_eq_false, eq_self, *] <;> rfl)
    (h : W Tryd.prog γ0 w0 N (.slot t (one (.sl rows)) :: .kill n :: st) c Q) : W Tryd.prog γ0 w0 N st c Q := W.frz t n ht hb h
theorem At.frzA {γ0 : Nat → Option Nat} {w0 : World} {N : Nat} {st : St} {Q : Exit → Act → World → Prop} {x : Exit} (t n : Nat) {fl : Bool} {e s : Nat} {rows : List (List Leaf)} (ht : getS st t = one (.all n) := by simp (config := { maxSteps := 1000000 }) (disch := first | assumption | omega) only [TY, ar_u64, binE, eqCells, eqVal, eqOp, step_mk, makeE, List.toList_toArray, Value.oneCell', step_fnv, step_makeFunc, ev_func, callV, cells_agg, cells_int, cells_bool, cells_str, cells_sl, List.size_toArray, flatB_nil, flatB_cons, wid_nil, wid_cons, rowsF_len, rowsF_flat, rowsF_app, step_build, buildE, fillE, indexSlE, indexArrE, shiftE, indexArrV, indexStE, step_move, step_assign, step_pick, step_load, step_nilCheck, step_binOp, step_unOp, step_convert, step_slice, step_fieldAddr, step_field, step_indexAddr, step_index, step_extract, step_len, step_min, step_max, step_alloc, step_box, step_lit, step_app, step_fn, step_store, putV_some, getS_hit, getS_miss, getS_blk, getS_kill, getS_nil, getB_nil, getB_slot, getB_hit, getB_miss, getB_kill0, getB_kill1, ev_tmp, ev_int, ev_bool, ev_str, ev_nil, ev_agg, cl_int, cl_bool, cl_str, cl_nil, loadE, loadV, fieldAddrE, fieldE, partV, indexAddrE, lenE, lenO, strIdx, indexE, boundE, subE, sliceE, convE, minE, scal, nilE, tupE, capsE, optE, pickE, pbin, pint, pstr, pun, ar_in, ar_u32, ar_u8, allocE, boxE, litE, rowsO, leafO, leafsO, frz, clr, rowsOf, destOf, appE, storeE, argO, argsO, boxesO, callG, callE, impE, pvR, pvs, pvRL, pvT, owns, ownsT, ownsR, clrL, withB, PV.kill, PL.kill, PL.names, Blk.kill, PL.live, toPL, resV, resO, compsO, compO, rlsO, rlO, toRes, Leaf.isSc, List.map_cons, List.map_nil, List.all_cons, List.all_nil, List.length_cons, List.length_nil, List.drop_zero, List.drop_succ_cons, List.take_succ_cons, List.take_zero, List.drop_nil, List.take_nil, List.getElem?_cons_zero, List.getElem?_cons_succ, List.getElem?_nil, Option.map_some, Option.map_none, Option.bind_some, Option.isSome_some, Option.isSome_none, List.cons_append, List.nil_append, List.append_nil, if_true, if_false, reduceIte, Nat.reduceLT, Nat.reduceBEq, Nat.reduceLeDiff, Nat.reduceEqDiff, Nat.reduceAdd, Nat.reduceMul, Nat.zero_add, Nat.add_zero, Nat.mul_one, Int.reduceToNat, Bool.and_true, Bool.true_and, Bool.false_and, Bool.and_false, Bool.not_true, Bool.not_false, Bool.false_eq_true, decide_true, decide_false, and_self, and_true, true_and, or_true, true_or, or_false, false_or, if_pos, if_neg, Int.toNat_natCast, decide_eq_true, decide_eq_false, look_hit, look_miss, Int.ofNat_eq_natCast, Bool.or_false, Bool.or_true, Bool.true_or, Bool.false_or, Bool.not_eq_true, beq_self_eq_true, ne_eq, not_false_eq_true, not_true_eq_false, eq_self, *] <;> rfl) (hb : getB st n = some (.arr fl e s rows) := by simp (config := { maxSteps := 1000000 }) (disch := first | assumption | omega) only [TY, ar_u64, binE, eqCells, eqVal, eqOp, step_mk, makeE, List.toList_toArray, Value.oneCell', step_fnv, step_makeFunc, ev_func, callV, cells_agg, cells_int, cells_bool, cells_str, cells_sl, List.size_toArray, flatB_nil, flatB_cons, wid_nil, wid_cons, rowsF_len, rowsF_flat, rowsF_app, step_build, buildE, fillE, indexSlE, indexArrE, shiftE, indexArrV, indexStE, step_move, step_assign, step_pick, step_load, step_nilCheck, step_binOp, step_unOp, step_convert, step_slice, step_fieldAddr, step_field, step_indexAddr, step_index, step_extract, step_len, step_min, step_max, step_alloc, step_box, step_lit, step_app, step_fn, step_store, putV_some, getS_hit, getS_miss, getS_blk, getS_kill, getS_nil, getB_nil, getB_slot, getB_hit, getB_miss, getB_kill0, getB_kill1, ev_tmp, ev_int, ev_bool, ev_str, ev_nil, ev_agg, cl_int, cl_bool, cl_str, cl_nil, loadE, loadV, fieldAddrE, fieldE, partV, indexAddrE, lenE, lenO, strIdx, indexE, boundE, subE, sliceE, convE, minE, scal, nilE, tupE, capsE, optE, pickE, pbin, pint, pstr, pun, ar_in, ar_u32, ar_u8, allocE, boxE, litE, rowsO, leafO, leafsO, frz, clr, rowsOf, destOf, appE, storeE, argO, argsO, boxesO, callG, callE, impE, pvR, pvs, pvRL, pvT, owns, ownsT, ownsR, clrL, withB, PV.kill, PL.kill, PL.names, Blk.kill, PL.live, toPL, resV, resO, compsO, compO, rlsO, rlO, toRes, Leaf.isSc, List.map_cons, List.map_nil, List.all_cons, List.all_nil, List.length_cons, List.length_nil, List.drop_zero, List.drop_succ_cons, List.take_succ_cons, List.take_zero, List.drop_nil, List.take_nil, List.getElem?_cons_zero, List.getElem?_cons_succ, List.getElem?_nil, Option.map_some, Option.map_none, Option.bind_some, Option.isSome_some, Option.isSome_none, List.cons_append, List.nil_append, List.append_nil, if_true, if_false, reduceIte, Nat.reduceLT, Nat.reduceBEq, Nat.reduceLeDiff, Nat.reduceEqDiff, Nat.reduceAdd, Nat.reduceMul, Nat.zero_add, Nat.add_zero, Nat.mul_one, Int.reduceToNat, Bool.and_true, Bool.true_and, Bool.false_and, Bool.and_false, Bool.not_true, Bool.not_false, Bool.false_eq_true, decide_true, decide_false, and_self, and_true, true_and, or_true, true_or, or_false, false_or, if_pos, if_neg, Int.toNat_natCast, decide_eq_true, decide_eq_false, look_hit, look_miss, Int.ofNat_eq_natCast, Bool.or_false, Bool.or_true, Bool.true_or, Bool.false_or, Bool.not_eq_true, beq_self_eq_true, ne_eq, not_false_eq_true, not_true_eq_false, eq_self, *] <;> rfl)
    (h : At γ0 w0 N (.slot t (one (.sl rows)) :: .kill n :: st) x Q) : At γ0 w0 N st x Q := At.frz t n ht hb h

end Go.Proofs.YtimnogjgokljbaaDoor

end
