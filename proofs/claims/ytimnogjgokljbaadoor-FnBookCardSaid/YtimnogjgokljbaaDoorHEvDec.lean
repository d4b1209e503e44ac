/-
  Dec of both programs at positive numbers; the texts of a book; BookHash.
-/
import Derived.Test.YtimnogjgokljbaaDoorHEvTree
import Derived.Test.YtimnogjgokljbaaDoorHEvLate
import Derived.Test.YtimnogjgokljbaaDoorG13
namespace Go.Proofs.YtimnogjgokljbaaDoor
set_option maxRecDepth 100000
set_option linter.unusedVariables false
set_option linter.unusedSimpArgs false
open Go Go.RowKit
set_option maxHeartbeats 4000000

/-- the digits of a number -/
def decF : Nat → Nat → List Nat
  | 0, n => [48 + n % 10]
  | k + 1, n => if n < 10 then [48 + n % 10] else decF k (n / 10) ++ [48 + n % 10]
def decL (n : Nat) : List Nat := decF 7 n
theorem decF_lo (k : Nat) {n : Nat} (h : n < 10) : decF k n = [48 + n % 10] := by
  cases k with
  | zero => rfl
  | succ k => simp [decF, h]
theorem decF_hi (k : Nat) {n : Nat} (h : ¬ n < 10) : decF (k + 1) n = decF k (n / 10) ++ [48 + n % 10] := by simp [decF, h]
theorem decF_len : ∀ k n, (decF k n).length ≤ k + 1
  | 0, n => by simp [decF]
  | k + 1, n => by
    unfold decF
    split
    · simp
    · have := decF_len k (n / 10)
      simp; omega
def decS (n : Nat) : ByteArray := bsS (decL n)
theorem decS_size (n : Nat) : (decS n).size ≤ 8 := by unfold decS; rw [bsS_size]; exact decF_len 7 n
/-- how far the digits are written: (left to write, at most so many more, written) -/
def DecI (n : Nat) (x : Nat × Nat × List Nat) : Prop := (x.1 = 0 ∧ x.2.2 = decL n) ∨ (¬ x.1 = 0 ∧ decF x.2.1 x.1 ++ x.2.2 = decL n ∧ x.1 < 10 ^ (x.2.1 + 1) ∧ x.1 ≤ 1000000)
theorem decF_pos (k n : Nat) : 0 < (decF k n).length := by
  cases k with
  | zero => simp [decF]
  | succ k => unfold decF; split <;> simp
theorem DecI.len {n : Nat} {x : Nat × Nat × List Nat} (h : DecI n x) (h0 : ¬ x.1 = 0) : x.2.2.length ≤ 7 := by
  rcases h with h | h
  · exact absurd h.1 h0
  · have h1 := congrArg List.length h.2.1
    have h2 : (decL n).length ≤ 8 := decF_len 7 n
    have h3 := decF_pos x.2.1 x.1
    rw [List.length_append] at h1
    omega
theorem DecI.next {n m k : Nat} {L : List Nat} (h : DecI n (m, k, L)) (h0 : ¬ m = 0) : ∃ k', DecI n (m / 10, k', (48 + m % 10) :: L) := by
  rcases h with h | ⟨_, h2, h3, h4⟩
  · exact absurd h.1 h0
  · dsimp only at h2 h3 h4
    by_cases hm : m < 10
    · rw [decF_lo _ hm] at h2
      exact ⟨0, .inl ⟨Nat.div_eq_of_lt hm, h2⟩⟩
    · cases k with
      | zero => exact absurd h3 (by simpa using hm)
      | succ k =>
        rw [decF_hi _ hm, List.append_assoc] at h2
        refine ⟨k, .inr ⟨by dsimp only; omega, h2, ?_, by dsimp only; omega⟩⟩
        dsimp only
        rw [Nat.pow_succ] at h3
        omega
theorem DecI.done {n k : Nat} {L : List Nat} (h : DecI n (0, k, L)) : L = decL n := by
  rcases h with h | h
  · exact h.2
  · exact absurd rfl h.1
noncomputable def mDec := mdl (fun n : Nat => 1 ≤ n ∧ n ≤ 1000000) (fun n => [aI (n : Int)]) (fun n => rS (decS n))
theorem mDec_eq (n : Nat) (h1 : 1 ≤ n) (h2 : n ≤ 1000000) : mDec [aI (n : Int)] = some (rS (decS n)) := mdl_eq (by intro a b h; simp at h; omega) n ⟨h1, h2⟩
theorem decS_s : Sound Tryd.prog 15 mDec := by
  refine Sound.mdl Tryd.func15 rfl Tryd.ntmps15 ?_
  rintro n w ⟨n1, n2⟩
  refine ⟨by simp, ?_⟩
  have hΓ : GSound Tryd.prog (look []) := env_nil
  simp only [initS, argPV, List.map_cons, List.map_nil, toPL, Nat.zero_add]
  repeat (first | with_reducible apply W.seq | with_reducible apply W.block | with_reducible apply W.skip | with_reducible apply W.exit | with_reducible apply W.ret | with_reducible apply At.seqN | with_reducible apply At.blkN | with_reducible apply At.blkE | with_reducible apply At.blkR | with_reducible apply At.thenX | with_reducible apply At.thenR | with_reducible apply At.blkX rfl | ((with_reducible apply W.ops); (repeat (first | refine WL.opA hΓ (h := ?_) | refine WL.opX hΓ (h := ?_) | refine WL.opY (h := ?_) | refine WL.opZ (h := ?_))); with_reducible apply WL.nil) | refine W.condT (h := ?_) | refine W.condF (h := ?_))
  refine W.loopA (DecI n) (fun x => [.slot 0 (vI (x.1 : Int)), .slot 3 (vS (bsS x.2.2)), .slot 4 (vB false)]) (fun x => x.1) (n, 7, []) (.inr ⟨by dsimp only; omega, List.append_nil _, by dsimp only; omega, n2⟩) (h := ?_)
  rintro ⟨m, k, L⟩ hI
  dsimp only
  by_cases hm : m = 0
  · subst hm
    have hd := hI.done
    subst hd
    clear hI
    repeat (first | with_reducible apply W.seq | with_reducible apply W.block | with_reducible apply W.skip | with_reducible apply W.exit | with_reducible apply W.ret | with_reducible apply At.seqN | with_reducible apply At.blkN | with_reducible apply At.blkE | with_reducible apply At.blkR | with_reducible apply At.thenX | with_reducible apply At.thenR | with_reducible apply At.blkX rfl | ((with_reducible apply W.ops); (repeat (first | refine WL.opA hΓ (h := ?_) | refine WL.opX hΓ (h := ?_) | refine WL.opY (h := ?_) | refine WL.opZ (h := ?_))); with_reducible apply WL.nil) | refine W.condT (h := ?_) | refine W.condF (h := ?_))
    refine At.retA (by rw [Tryd.results15]) (he := rfl)
  · have hln : L.length ≤ 7 := hI.len hm
    obtain ⟨k', hnx⟩ := hI.next hm
    have hm6 : m ≤ 1000000 := by
      rcases hI with h | h
      · exact absurd h.1 hm
      · exact h.2.2.2
    have t1 : (m : Int).tmod 10 = ((m % 10 : Nat) : Int) := by rw [Int.tmod_eq_emod_of_nonneg (by omega)]; omega
    have t2 : (m : Int).tdiv 10 = ((m / 10 : Nat) : Int) := by rw [Int.tdiv_eq_ediv_of_nonneg (by omega)]; omega
    have hw : IntKind.u8.wrap (48 + ((m % 10 : Nat) : Int)) = ((48 + m % 10 : Nat) : Int) := by
      rw [show 48 + ((m % 10 : Nat) : Int) = ((48 + m % 10 : Nat) : Int) by omega]
      exact wrap_u8n (by omega)
    have hb : bytesE [[.sc (.int .u8 ((48 + m % 10 : Nat) : Int))]] = some [UInt8.ofNat (48 + m % 10)] := bytes_rows [48 + m % 10]
    have hcat : (⟨[UInt8.ofNat (48 + m % 10)].toArray⟩ : ByteArray) ++ bsS L = bsS ((48 + m % 10) :: L) := bsS_app [48 + m % 10] L
    have z1 : (⟨[UInt8.ofNat (48 + m % 10)].toArray⟩ : ByteArray).size = 1 := rfl
    have z2 := bsS_size L
    clear hI
    repeat (first | with_reducible apply W.seq | with_reducible apply W.block | with_reducible apply W.skip | with_reducible apply W.exit | with_reducible apply W.ret | with_reducible apply At.seqN | with_reducible apply At.blkN | with_reducible apply At.blkE | with_reducible apply At.blkR | with_reducible apply At.thenX | with_reducible apply At.thenR | with_reducible apply At.blkX rfl | ((with_reducible apply W.ops); (repeat (first | refine WL.opA hΓ (h := ?_) | refine WL.opX hΓ (h := ?_) | refine WL.opY (h := ?_) | refine WL.opZ (h := ?_))); with_reducible apply WL.nil) | refine W.condT (h := ?_) | refine W.condF (h := ?_))
    exact At.roundA (m / 10, k', (48 + m % 10) :: L) hnx (by dsimp only; omega)
/-- i pairs of a row, turned round, have been put right -/
def mixR (D : List Nat) (i : Nat) : List Nat := (List.range D.length).map fun k => if k < i ∨ D.length - 1 - i < k then D.getD k 0 else D.getD (D.length - 1 - k) 0
theorem mixR_len (D : List Nat) (i : Nat) : (mixR D i).length = D.length := by simp [mixR]
theorem mixR_zero (D : List Nat) : mixR D 0 = D.reverse := by
  refine List.ext_getElem (by simp [mixR]) fun k h1 h2 => ?_
  rw [mixR_len] at h1
  simp only [mixR, List.getElem_map, List.getElem_range, List.getElem_reverse]
  rw [if_neg (by omega), List.getD_eq_getElem?_getD, List.getElem?_eq_getElem (by omega)]
  rfl
theorem mixR_all {D : List Nat} {i : Nat} (h : ¬ 2 * i + 1 < D.length) : mixR D i = D := by
  refine List.ext_getElem (mixR_len _ _) fun k h1 h2 => ?_
  simp only [mixR, List.getElem_map, List.getElem_range]
  by_cases hk : k < i ∨ D.length - 1 - i < k
  · rw [if_pos hk, List.getD_eq_getElem?_getD, List.getElem?_eq_getElem h2]; rfl
  · rw [if_neg hk]
    have e : D.length - 1 - k = k := by omega
    rw [e, List.getD_eq_getElem?_getD, List.getElem?_eq_getElem h2]; rfl
theorem mixR_i {D : List Nat} {i : Nat} (h : 2 * i + 1 < D.length) : (mixR D i)[i]? = some (D.getD (D.length - 1 - i) 0) := by
  have hl : i < D.length := by omega
  simp only [mixR, List.getElem?_map, List.getElem?_range hl, Option.map_some]
  rw [if_neg (by omega)]
theorem mixR_j {D : List Nat} {i : Nat} (h : 2 * i + 1 < D.length) : (mixR D i)[D.length - 1 - i]? = some (D.getD i 0) := by
  have hl : D.length - 1 - i < D.length := by omega
  simp only [mixR, List.getElem?_map, List.getElem?_range hl, Option.map_some]
  rw [if_neg (by omega)]
  congr 2
  omega
theorem mixR_set {D : List Nat} {i : Nat} (h : 2 * i + 1 < D.length) : ((mixR D i).set i (D.getD i 0)).set (D.length - 1 - i) (D.getD (D.length - 1 - i) 0) = mixR D (i + 1) := by
  refine List.ext_getElem (by simp [mixR]) fun k h1 h2 => ?_
  simp only [List.getElem_set, mixR, List.getElem_map, List.getElem_range]
  by_cases e1 : D.length - 1 - i = k
  · rw [if_pos e1, if_pos (by omega), e1]
  · rw [if_neg e1]
    by_cases e2 : i = k
    · rw [if_pos e2, if_pos (by omega), e2]
    · rw [if_neg e2]
      by_cases hk : k < i ∨ D.length - 1 - i < k
      · rw [if_pos hk, if_pos (by omega)]
      · rw [if_neg hk, if_neg (by omega)]
def jv (D : List Nat) (i : Nat) : Int := (D.length : Int) - 1 - (i : Int)
theorem decI_s : Sound Tryd.prog 55 mDec := by
  refine Sound.mdl Tryd.func55 rfl Tryd.ntmps55 ?_
  rintro n w ⟨n1, n2⟩
  refine ⟨by simp, ?_⟩
  have hΓ : GSound Tryd.prog (look []) := env_nil
  have hnil : ([] : List (List Leaf)) = rowsF cU8 (([] : List Nat).reverse) := rfl
  simp only [initS, argPV, List.map_cons, List.map_nil, toPL, Nat.zero_add]
  repeat (first | with_reducible apply W.seq | with_reducible apply W.block | with_reducible apply W.skip | with_reducible apply W.exit | with_reducible apply W.ret | with_reducible apply At.seqN | with_reducible apply At.blkN | with_reducible apply At.blkE | with_reducible apply At.blkR | with_reducible apply At.thenX | with_reducible apply At.thenR | with_reducible apply At.blkX rfl | ((with_reducible apply W.ops); (repeat (first | refine WL.opA hΓ (h := ?_) | refine WL.opX hΓ (h := ?_) | refine WL.opY (h := ?_) | refine WL.opZ (h := ?_))); with_reducible apply WL.nil) | refine W.condT (h := ?_) | refine W.condF (h := ?_))
  refine W.loopA (DecI n) (fun x => [.slot 0 (vI (n : Int)), .slot 4 (vI (x.1 : Int)), .slot 3 (one (.all 10)), .blk 10 (.arr true 5 1 (rowsF cU8 x.2.2.reverse))]) (fun x => x.1) (n, 7, []) (.inr ⟨by dsimp only; omega, List.append_nil _, by dsimp only; omega, n2⟩) (h := ?_)
  clear hnil
  rintro ⟨m, k, L⟩ hI
  dsimp only
  by_cases hm : m = 0
  · subst hm
    have hd := hI.done
    subst hd
    clear hI
    have hl8 : (decL n).length ≤ 8 := decF_len 7 n
    have hl0 := decF_pos 7 n
    have hlr : (decL n).reverse.length = (decL n).length := List.length_reverse
    change 0 < (decL n).length at hl0
    have hv : decS n = bsS (decL n) := rfl
    generalize decL n = D at *
    repeat (first | with_reducible apply W.seq | with_reducible apply W.block | with_reducible apply W.skip | with_reducible apply W.exit | with_reducible apply W.ret | with_reducible apply At.seqN | with_reducible apply At.blkN | with_reducible apply At.blkE | with_reducible apply At.blkR | with_reducible apply At.thenX | with_reducible apply At.thenR | with_reducible apply At.blkX rfl | ((with_reducible apply W.ops); (repeat (first | refine WL.opA hΓ (h := ?_) | refine WL.opX hΓ (h := ?_) | refine WL.opY (h := ?_) | refine WL.opZ (h := ?_))); with_reducible apply WL.nil) | refine W.condT (h := ?_) | refine W.condF (h := ?_))
    have hz := mixR_zero D
    have hj0 : jv D 0 = (D.length : Int) - 1 := by unfold jv; omega
    refine W.loopA (fun i => 2 * i ≤ D.length + 1) (fun i : Nat => [.slot 6 (vI (i : Int)), .slot 7 (vI (jv D i)), .slot 3 (one (.all 10)), .blk 10 (.arr true 5 1 (rowsF cU8 (mixR D i)))]) (fun i => D.length - i) 0 (by omega) (h := ?_)
    clear hz hj0
    rintro i hi
    have hml := mixR_len D i
    have hmr := rowsF_len cU8 (mixR D i)
    rw [hml] at hmr
    by_cases hlt : 2 * i + 1 < D.length
    · have hj : jv D i = ((D.length - 1 - i : Nat) : Int) := by unfold jv; omega
      have hj1 : ((D.length - 1 - i : Nat) : Int) - 1 = jv D (i + 1) := by unfold jv; omega
      have ri := rowU (mixR_i hlt)
      have rj := rowU (mixR_j hlt)
      have hs1 := rowsF_set cU8 (mixR D i) i (D.getD i 0)
      have hs2 := rowsF_set cU8 ((mixR D i).set i (D.getD i 0)) (D.length - 1 - i) (D.getD (D.length - 1 - i) 0)
      rw [mixR_set hlt] at hs2
      have rj2 : (rowsF cU8 ((mixR D i).set i (D.getD i 0)))[D.length - 1 - i]? = some [.sc (.int .u8 ((D.getD i 0 : Nat) : Int))] := rowU (by rw [List.getElem?_set_ne (by omega)]; exact mixR_j hlt)
      have hl2 : (rowsF cU8 ((mixR D i).set i (D.getD i 0))).length = D.length := by rw [rowsF_len, List.length_set, hml]
      simp only [cU8, List.map_cons, List.map_nil] at hs1 hs2
      generalize D.getD i 0 = x at *
      generalize D.getD (D.length - 1 - i) 0 = y at *
      clear hml
      repeat (first | with_reducible apply W.seq | with_reducible apply W.block | with_reducible apply W.skip | with_reducible apply W.exit | with_reducible apply W.ret | with_reducible apply At.seqN | with_reducible apply At.blkN | with_reducible apply At.blkE | with_reducible apply At.blkR | with_reducible apply At.thenX | with_reducible apply At.thenR | with_reducible apply At.blkX rfl | ((with_reducible apply W.ops); (repeat (first | refine WL.opA hΓ (h := ?_) | refine WL.opX hΓ (h := ?_) | refine WL.opY (h := ?_) | refine WL.opZ (h := ?_))); with_reducible apply WL.nil) | refine W.condT (h := ?_) | refine W.condF (h := ?_))
      refine W.lateA hΓ 13 [[], [], [], [], [], [], [4, 5], [4, 5, 6], [], [], [8, 9], [8, 9, 10], [0, 1, 4, 5, 6, 7, 8, 9, 10, 11], [0, 1, 4, 5, 6, 7, 8, 9, 10, 11, 12], [0, 1, 2, 3, 4, 5, 6, 7, 8, 9, 10, 11, 12, 13], [0, 1, 2, 3, 4, 5, 6, 7, 8, 9, 10, 11, 12, 13, 14]] [2, 3] (rest := ?rest12) (Es := ?Es12) (st1 := ?st112) (stA := ?stA12) (t := ?t12) (x := ?x12) (y := ?y12) (ty := ?ty12) (pos := ?pos12) (after := ?af12) (n := ?n12) (b := ?b12) (h := ?h12) (hl := ?hl12) (hf := ?hf12) (hp := ?hp12) (hd := ?hd12) (hfr := ?hfr12) (hA := ?hA12) (hst := ?hst12) (hst1 := ?hst112) (hT := ?hT12)
      case h12 => kernel_rfl
      case hl12 => kernel_rfl
      case hf12 =>
        repeat (first | refine FlowT.opA (h := ?_) | refine FlowT.opX (h := ?_) | refine FlowT.opY (h := ?_) | refine FlowT.opZ (h := ?_))
        exact FlowT.done
      case hp12 => rfl
      case hd12 => rfl
      case hfr12 => rfl
      case hA12 =>
        simp (disch := decide) only [pick_nil, pick_t, pick_f, List.cons_append, List.nil_append, Nat.reduceAdd]
        rfl
      case hst12 =>
        unfold storeL
        simp (config := { maxSteps := 1000000 }) (disch := first | assumption | omega) only [TY, ar_u64, binE, eqCells, eqVal, eqOp, step_mk, makeE, List.toList_toArray, Value.oneCell', step_fnv, step_makeFunc, ev_func, callV, cells_agg, cells_int, cells_bool, cells_str, cells_sl, List.size_toArray, flatB_nil, flatB_cons, wid_nil, wid_cons, rowsF_len, rowsF_flat, rowsF_app, step_build, buildE, fillE, indexSlE, indexArrE, shiftE, indexArrV, indexStE, step_move, step_assign, step_pick, step_load, step_nilCheck, step_binOp, step_unOp, step_convert, step_slice, step_fieldAddr, step_field, step_indexAddr, step_index, step_extract, step_len, step_min, step_max, step_alloc, step_box, step_lit, step_app, step_fn, step_store, putV_some, getS_hit, getS_miss, getS_blk, getS_kill, getS_nil, getB_nil, getB_slot, getB_hit, getB_miss, getB_kill0, getB_kill1, ev_tmp, ev_int, ev_bool, ev_str, ev_nil, ev_agg, cl_int, cl_bool, cl_str, cl_nil, loadE, loadV, fieldAddrE, fieldE, partV, indexAddrE, lenE, lenO, strIdx, indexE, boundE, subE, sliceE, convE, minE, scal, nilE, tupE, capsE, optE, pickE, pbin, pint, pstr, pun, ar_in, ar_u32, ar_u8, allocE, boxE, litE, rowsO, leafO, leafsO, frz, clr, rowsOf, destOf, appE, storeE, argO, argsO, boxesO, callG, callE, impE, pvR, pvs, pvRL, pvT, owns, ownsT, ownsR, clrL, withB, PV.kill, PL.kill, PL.names, Blk.kill, PL.live, toPL, resV, resO, compsO, compO, rlsO, rlO, toRes, Leaf.isSc, List.map_cons, List.map_nil, List.all_cons, List.all_nil, List.length_cons, List.length_nil, List.drop_zero, List.drop_succ_cons, List.take_succ_cons, List.take_zero, List.drop_nil, List.take_nil, List.getElem?_cons_zero, List.getElem?_cons_succ, List.getElem?_nil, Option.map_some, Option.map_none, Option.bind_some, Option.isSome_some, Option.isSome_none, List.cons_append, List.nil_append, List.append_nil, if_true, if_false, reduceIte, Nat.reduceLT, Nat.reduceBEq, Nat.reduceLeDiff, Nat.reduceEqDiff, Nat.reduceAdd, Nat.reduceMul, Nat.zero_add, Nat.add_zero, Nat.mul_one, Int.reduceToNat, Bool.and_true, Bool.true_and, Bool.false_and, Bool.and_false, Bool.not_true, Bool.not_false, Bool.false_eq_true, decide_true, decide_false, and_self, and_true, true_and, or_true, true_or, or_false, false_or, if_pos, if_neg, Int.toNat_natCast, decide_eq_true, decide_eq_false, look_hit, look_miss, Int.ofNat_eq_natCast, Bool.or_false, Bool.or_true, Bool.true_or, Bool.false_or, Bool.not_eq_true, beq_self_eq_true, ne_eq, not_false_eq_true, not_true_eq_false, eq_self, ent_move, ent_assign, ent_pick, ent_load, ent_nilCheck, ent_binOp, ent_unOp, ent_convert, ent_slice, ent_fieldAddr, ent_field, ent_indexAddr, ent_index, ent_extract, ent_len, ent_min, ent_max, ent_alloc, ent_box, ent_lit, ent_build, ent_fn, ent_mk, makeL, ent_makeFunc, valL_some, allocL, boxL, litL, callL, blkL, noRef, *]
        rfl
      case hst112 =>
        simp only [pick_nil, pick_all, List.cons_append, List.nil_append]
        rfl
      (repeat (first | refine WL.opA hΓ (h := ?_) | refine WL.opX hΓ (h := ?_) | refine WL.opY (h := ?_) | refine WL.opZ (h := ?_)))
      with_reducible apply WL.nil
      repeat (first | with_reducible apply W.seq | with_reducible apply W.block | with_reducible apply W.skip | with_reducible apply W.exit | with_reducible apply W.ret | with_reducible apply At.seqN | with_reducible apply At.blkN | with_reducible apply At.blkE | with_reducible apply At.blkR | with_reducible apply At.thenX | with_reducible apply At.thenR | with_reducible apply At.blkX rfl | ((with_reducible apply W.ops); (repeat (first | refine WL.opA hΓ (h := ?_) | refine WL.opX hΓ (h := ?_) | refine WL.opY (h := ?_) | refine WL.opZ (h := ?_))); with_reducible apply WL.nil) | refine W.condT (h := ?_) | refine W.condF (h := ?_))
      exact At.roundA (i + 1) (by omega) (by omega)
    · have hall := mixR_all hlt
      have hjx : jv D i = (D.length : Int) - 1 - (i : Int) := rfl
      have hb := bytes_rows D
      rw [hall] at *
      clear hml hmr
      repeat (first | with_reducible apply W.seq | with_reducible apply W.block | with_reducible apply W.skip | with_reducible apply W.exit | with_reducible apply W.ret | with_reducible apply At.seqN | with_reducible apply At.blkN | with_reducible apply At.blkE | with_reducible apply At.blkR | with_reducible apply At.thenX | with_reducible apply At.thenR | with_reducible apply At.blkX rfl | ((with_reducible apply W.ops); (repeat (first | refine WL.opA hΓ (h := ?_) | refine WL.opX hΓ (h := ?_) | refine WL.opY (h := ?_) | refine WL.opZ (h := ?_))); with_reducible apply WL.nil) | refine W.condT (h := ?_) | refine W.condF (h := ?_))
      refine At.retA (by rw [Tryd.results55]) (he := ?_)
      rw [hv]
      rfl
  · have hln : L.length ≤ 7 := hI.len hm
    obtain ⟨k', hnx⟩ := hI.next hm
    have hm6 : m ≤ 1000000 := by
      rcases hI with h | h
      · exact absurd h.1 hm
      · exact h.2.2.2
    have t1 : (m : Int).tmod 10 = ((m % 10 : Nat) : Int) := by rw [Int.tmod_eq_emod_of_nonneg (by omega)]; omega
    have t2 : (m : Int).tdiv 10 = ((m / 10 : Nat) : Int) := by rw [Int.tdiv_eq_ediv_of_nonneg (by omega)]; omega
    have hw : IntKind.u8.wrap (48 + ((m % 10 : Nat) : Int)) = ((48 + m % 10 : Nat) : Int) := by
      rw [show 48 + ((m % 10 : Nat) : Int) = ((48 + m % 10 : Nat) : Int) by omega]
      exact wrap_u8n (by omega)
    have hlr : L.reverse.length = L.length := List.length_reverse
    have hap : rowsF cU8 L.reverse ++ [[.sc (.int .u8 ((48 + m % 10 : Nat) : Int))]] = rowsF cU8 ((48 + m % 10) :: L).reverse := by
      rw [List.reverse_cons]
      exact cU8_app _ _
    clear hI
    repeat (first | with_reducible apply W.seq | with_reducible apply W.block | with_reducible apply W.skip | with_reducible apply W.exit | with_reducible apply W.ret | with_reducible apply At.seqN | with_reducible apply At.blkN | with_reducible apply At.blkE | with_reducible apply At.blkR | with_reducible apply At.thenX | with_reducible apply At.thenR | with_reducible apply At.blkX rfl | ((with_reducible apply W.ops); (repeat (first | refine WL.opA hΓ (h := ?_) | refine WL.opX hΓ (h := ?_) | refine WL.opY (h := ?_) | refine WL.opZ (h := ?_))); with_reducible apply WL.nil) | refine W.condT (h := ?_) | refine W.condF (h := ?_))
    exact At.roundA (m / 10, k', (48 + m % 10) :: L) hnx (by dsimp only; omega)

end Go.Proofs.YtimnogjgokljbaaDoor
