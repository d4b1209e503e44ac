/-
  A row of eras of one's own is marked, and is data from then on; holding.
-/
import Derived.Test.YtimnogjgokljbaaEvMkE
namespace Go.Proofs.Ytimnogjgokljbaa
set_option maxRecDepth 100000
set_option linter.unusedVariables false
set_option linter.unusedSimpArgs false
open Go Go.RowKit
set_option maxHeartbeats 4000000
set_option linter.unusedVariables false
set_option linter.unusedSimpArgs false

theorem own_of_rep {α : Type} {f : α → List Value} {s : Nat} {w : World} {γ : Nat → Option Nat} {l : List α} {u : Value} (hf : ∀ x, (f x).length = s) (h : RepL w γ (.sl (rowsF f l)) u) (hd : ∀ b, hdrBlock u = some b → ∃ cs t, w.heap[b]? = some (.cells cs t (0, 0))) : OwnS w 0 s f u l := by
  have hlen := rowsF_len f l
  generalize hr : rowsF f l = rows at h
  cases h with
  | @emp A c hc =>
    have : l = [] := by
      cases l with
      | nil => rfl
      | cons _ _ => simp [rowsF] at hr
    subst this
    exact ⟨A, c, rfl, Nat.zero_le _, hc, fun h => absurd rfl h⟩
  | @sl _ b off s' cap val g1 g2 g3 g4 g5 g6 g7 =>
    rw [hr] at hlen
    rw [hlen] at g3 ⊢
    obtain ⟨cs, t, hh⟩ := hd b rfl
    refine ⟨_, cap, rfl, g3, g4, fun hne => ⟨b, off, rfl, Nat.zero_le _, g2, fun o => by simp [World.frozen?, hh], fun i x hi j u hu => ?_⟩⟩
    have hrow : rows[i]? = some ((f x).map Leaf.sc) := by rw [← hr]; unfold rowsF; rw [List.getElem?_map, hi]; rfl
    have hcell : ((f x).map Leaf.sc)[j]? = some (.sc u) := by rw [List.getElem?_map, hu]; rfl
    have hs : s' = s := by rw [← g5 _ (List.mem_of_getElem? hrow)]; simp [hf]
    subst hs
    have e1 := g6 i _ j _ hrow hcell
    have e2 := g7 i _ j _ hrow hcell
    rw [e1]
    generalize val i j = q at e2
    cases e2
    rfl
theorem eraG_get {l : List TEra} {i : Nat} (h : i < l.length) : (eraRows l)[i]? = some [.sc (.int .i64 (eraG l i).1), .sl (rowsF cVal (eraG l i).2)] := by
  rw [eraRows_get h]
  simp only [eraG, List.getD_eq_getElem?_getD, List.getElem?_eq_getElem h, Option.getD_some]
def mkEl (l : List TEra) (k : Nat) : List TEra := (List.range l.length).map fun i => (((kE l k i : Nat) : Int), marked mkVal 2 (kE l k i + 1) (eraG l i).2.length)
theorem mkEl_len (l : List TEra) (k : Nat) : (mkEl l k).length = l.length := by simp [mkEl]
theorem mkEl_row {l : List TEra} {k i : Nat} (h : i < l.length) : (eraRows (mkEl l k))[i]? = some [.sc (.int .i64 ((kE l k i : Nat) : Int)), .sl (rowsF cVal (marked mkVal 2 (kE l k i + 1) (eraG l i).2.length))] := by
  unfold eraRows mkEl
  rw [List.getElem?_map, List.getElem?_map, List.getElem?_range h]
  rfl
section
variable {P : Program} {γ0 : Nat → Option Nat} {w0 : World} {N : Nat} {st : St} {a : Act} {w : World} {η : Nat → Value} {γ : Nat → Option Nat} {Q : Exit → Act → World → Prop}
/-- what a row of eras of one's own is in memory -/
theorem nd_open (h : Inv γ0 w0 N st a w η γ) {n e : Nat} {l : List TEra} (hb : getB st n = some (.arr .nd e 2 (eraRows l))) :
    (l = [] ∧ ∃ A c, η n = .slice A 0 c ∧ c ≤ maxLen) ∨ ∃ (b c : Nat) (us : Nat → Value), η n = .slice (some ⟨b, 0, none⟩) l.length c ∧ l.length ≤ c ∧ c ≤ maxLen ∧ b < w.heap.size ∧ γ b = some n ∧ (∀ k, OwnAt w 0 2 cEv b 0 (evE l us k 0)) ∧
      (∀ i, i < l.length → OwnS w 0 2 cVal (us i) (eraG l i).2) ∧ (∀ i, i < l.length → (us i).ownBlock ≠ some b) ∧ (∀ i j, i < l.length → j < l.length → i ≠ j → ∀ q, (us i).ownBlock = some q → (us j).ownBlock ≠ some q) ∧ (∀ i, i < l.length → ∀ q, (us i).ownBlock = some q → γ q = some n) := by
  obtain ⟨xs, ⟨hxl, ho⟩, hr, hw, hg, _, hdis⟩ := h.blks n _ hb
  rw [eraRows_len] at ho hxl
  rcases ho with ⟨he, hz⟩ | ⟨g, cap, cur, he, _, hh, hnc, hcm, hcs, ht⟩
  · exact .inl ⟨List.length_eq_zero_iff.1 hz, none, 0, he, Nat.zero_le _⟩
  · have hd := hdis rfl
    have hfl : ∀ i, i < l.length → (eraRows l).flatten[i * 2 + 0]? = some (.sc (.int .i64 (eraG l i).1)) ∧ (eraRows l).flatten[i * 2 + 1]? = some (.sl (rowsF cVal (eraG l i).2)) := fun i hi =>
      ⟨flatten_row hw (eraG_get hi) 0 (by omega), flatten_row hw (eraG_get hi) 1 (by omega)⟩
    have hx : ∀ i, i < l.length → xs[i * 2 + 0]? = some (.int .i64 (eraG l i).1) ∧ ∃ u, xs[i * 2 + 1]? = some u ∧ RepL w (vw .nd n (η n) γ) (.sl (rowsF cVal (eraG l i).2)) u := fun i hi => by
      obtain ⟨u0, h1, h2⟩ := hr.2 _ _ (hfl i hi).1
      cases h2
      exact ⟨h1, hr.2 _ _ (hfl i hi).2⟩
    have hcell : ∀ j v, xs[j]? = some v → w.cell? ⟨g, j, none⟩ = some v := fun j v hj => by
      rw [← ht, List.getElem?_take] at hj
      split at hj
      · simp only [World.cell?, hh]
        simpa using hj
      · cases hj
    let us : Nat → Value := fun i => (xs[i * 2 + 1]?).getD undef
    have hus : ∀ i, i < l.length → xs[i * 2 + 1]? = some (us i) ∧ RepL w (vw .nd n (η n) γ) (.sl (rowsF cVal (eraG l i).2)) (us i) := fun i hi => by
      obtain ⟨_, u, h1, h2⟩ := hx i hi
      have : us i = u := by show (xs[i * 2 + 1]?).getD undef = u; rw [h1]; rfl
      rw [this]
      exact ⟨h1, h2⟩
    have hob : ∀ i, i < l.length → ∀ q, (us i).ownBlock = some q ↔ hdrBlock (us i) = some q := fun i hi q => by
      obtain ⟨_, h2⟩ := hus i hi
      generalize us i = u at h2
      generalize rowsF cVal (eraG l i).2 = rr at h2
      cases h2 with
      | emp hc =>
        rename_i A c
        cases A <;> exact Iff.rfl
      | sl val g1 g2 g3 g4 g5 g6 g7 => exact Iff.rfl
    have hdq : ∀ i, i < l.length → ∀ q, hdrBlock (us i) = some q → γ q = some n ∧ (η n).ownBlock ≠ some q ∧ ∃ cs t, w.heap[q]? = some (.cells cs t (0, 0)) := fun i hi q hq => hd.1 (i * 2 + 1) _ _ q (hfl i hi).2 (hus i hi).1 hq
    refine .inr ⟨g, cap, us, he, hnc, hcm, heap_lt hh, hg g (by rw [he]; rfl), fun k => ⟨Nat.zero_le _, heap_lt hh, fun o => by simp [World.frozen?, hh], fun i x hi j u hu => ?_⟩, fun i hi => own_of_rep (fun _ => rfl) (hus i hi).2 fun q hq => (hdq i hi q hq).2.2, fun i hi hq => ?_, fun i j hi hj hne q hq hq2 => ?_, fun i hi q hq => (hdq i hi q ((hob i hi q).1 hq)).1⟩
    · have hil : i < l.length := by have := (List.getElem?_eq_some_iff.1 hi).1; rw [evE_len] at this; exact this
      rw [evE_get hil, if_neg (Nat.not_lt_zero i)] at hi
      cases hi
      rw [Nat.zero_add]
      have hj2 : j < 2 := (List.getElem?_eq_some_iff.1 hu).1
      rcases j with _ | _ | j
      · cases hu
        exact hcell _ _ (hx i hil).1
      · cases hu
        exact hcell _ _ (hus i hil).1
      · omega
    · have := (hdq i hi g ((hob i hi g).1 hq)).2.1
      rw [he] at this
      exact this rfl
    · exact hd.2 (i * 2 + 1) (j * 2 + 1) _ _ _ _ q (by omega) (hfl i hi).2 (hfl j hj).2 (hus i hi).1 (hus j hj).1 ((hob i hi q).1 hq) ((hob j hj q).1 hq2)
end
theorem markE_nil (A : Option Addr) (c k : Nat) (hc : c ≤ maxLen) (w : World) : Calls Try.prog 13 #[.slice A 0 c, .int .i64 (k : Int)] w fun e w' => e = .returned (.int .i64 (k : Int)) ∧ Below w.heap.size w w' := by
  go_enter Try.func13, Try.ntmps13
  go_wp2_with fail
  refine wp_loop_rounds 1 ?_
  rw [rounds_succ]
  go_wp2_with fail
  go_ret
  exact ⟨rfl, Below.refl _ _⟩
section
variable {γ0 : Nat → Option Nat} {w0 : World} {N : Nat} {st st1 : St} {a : Act} {w : World} {η : Nat → Value} {γ : Nat → Option Nat} {Q : Exit → Act → World → Prop}
theorem WL.opMarkE {ops : Array Oper} {r : List Oper} {d e : Nat} {x0 x1 : Operand} {ts : Array TypeId} {ty : TypeId} {pos : String} {after : Array Edge} {l : List TEra} (n k : Nat) (h0 : 0 < k) (hn : kE l k l.length ≤ 1099511627776)
    (hf : Has Try.prog 13) (hN : d < N := by decide)
    (hx : ev st x0 = one (.all n) := by simp (config := { maxSteps := 1000000 }) (disch := first | assumption | omega) only [TY, ar_u64, binE, eqCells, eqVal, eqOp, step_mk, makeE, List.toList_toArray, Value.oneCell', step_fnv, step_makeFunc, ev_func, callV, cells_agg, cells_int, cells_bool, cells_str, cells_sl, List.size_toArray, flatB_nil, flatB_cons, wid_nil, wid_cons, rowsF_len, rowsF_flat, rowsF_app, step_build, buildE, fillE, indexSlE, indexArrE, shiftE, indexArrV, indexStE, step_move, step_assign, step_pick, step_load, step_nilCheck, step_binOp, step_unOp, step_convert, step_slice, step_fieldAddr, step_field, step_indexAddr, step_index, step_extract, step_len, step_min, step_max, step_alloc, step_box, step_lit, step_app, step_fn, step_store, putV_some, getS_hit, getS_miss, getS_blk, getS_kill, getS_nil, getB_nil, getB_slot, getB_hit, getB_miss, getB_kill0, getB_kill1, ev_tmp, ev_int, ev_bool, ev_str, ev_nil, ev_agg, cl_int, cl_bool, cl_str, cl_nil, loadE, loadV, fieldAddrE, fieldE, partV, indexAddrE, lenE, lenO, strIdx, indexE, boundE, subE, sliceE, convE, minE, scal, nilE, tupE, capsE, optE, pickE, pbin, pint, pstr, pun, ar_in, ar_u32, ar_u8, allocE, boxE, litE, rowsO, leafO, leafsO, frz, clr, rowsOf, flB, Fl.and, Fl.nst, Fl.ok, Fl.isFl, noRef, nstOk, flatAt, hasAll, absL, appN, Fl.isNd, asN, storeN, Nat.reduceBNe, destOf, appE, storeE, argO, argsO, boxesO, callG, callE, impE, pvR, pvs, pvRL, pvT, owns, ownsT, ownsR, clrL, withB, PV.kill, PL.kill, PL.names, Blk.kill, PL.live, toPL, resV, resO, compsO, compO, rlsO, rlO, toRes, Leaf.isSc, List.map_cons, List.map_nil, List.all_cons, List.all_nil, List.length_cons, List.length_nil, List.drop_zero, List.drop_succ_cons, List.take_succ_cons, List.take_zero, List.drop_nil, List.take_nil, List.getElem?_cons_zero, List.getElem?_cons_succ, List.getElem?_nil, Option.map_some, Option.map_none, Option.bind_some, Option.isSome_some, Option.isSome_none, List.cons_append, List.nil_append, List.append_nil, if_true, if_false, reduceIte, Nat.reduceLT, Nat.reduceBEq, Nat.reduceLeDiff, Nat.reduceEqDiff, Nat.reduceAdd, Nat.reduceMul, Nat.zero_add, Nat.add_zero, Nat.mul_one, Int.reduceToNat, Bool.and_true, Bool.true_and, Bool.false_and, Bool.and_false, Bool.not_true, Bool.not_false, Bool.false_eq_true, decide_true, decide_false, and_self, and_true, true_and, or_true, true_or, or_false, false_or, if_pos, if_neg, Int.toNat_natCast, decide_eq_true, decide_eq_false, look_hit, look_miss, Int.ofNat_eq_natCast, Bool.or_false, Bool.or_true, Bool.true_or, Bool.false_or, Bool.not_eq_true, beq_self_eq_true, ne_eq, not_false_eq_true, not_true_eq_false, eq_self, *] <;> rfl) (hk : ev st x1 = one (.sc (.int .i64 (k : Int))) := by simp (config := { maxSteps := 1000000 }) (disch := first | assumption | omega) only [TY, ar_u64, binE, eqCells, eqVal, eqOp, step_mk, makeE, List.toList_toArray, Value.oneCell', step_fnv, step_makeFunc, ev_func, callV, cells_agg, cells_int, cells_bool, cells_str, cells_sl, List.size_toArray, flatB_nil, flatB_cons, wid_nil, wid_cons, rowsF_len, rowsF_flat, rowsF_app, step_build, buildE, fillE, indexSlE, indexArrE, shiftE, indexArrV, indexStE, step_move, step_assign, step_pick, step_load, step_nilCheck, step_binOp, step_unOp, step_convert, step_slice, step_fieldAddr, step_field, step_indexAddr, step_index, step_extract, step_len, step_min, step_max, step_alloc, step_box, step_lit, step_app, step_fn, step_store, putV_some, getS_hit, getS_miss, getS_blk, getS_kill, getS_nil, getB_nil, getB_slot, getB_hit, getB_miss, getB_kill0, getB_kill1, ev_tmp, ev_int, ev_bool, ev_str, ev_nil, ev_agg, cl_int, cl_bool, cl_str, cl_nil, loadE, loadV, fieldAddrE, fieldE, partV, indexAddrE, lenE, lenO, strIdx, indexE, boundE, subE, sliceE, convE, minE, scal, nilE, tupE, capsE, optE, pickE, pbin, pint, pstr, pun, ar_in, ar_u32, ar_u8, allocE, boxE, litE, rowsO, leafO, leafsO, frz, clr, rowsOf, flB, Fl.and, Fl.nst, Fl.ok, Fl.isFl, noRef, nstOk, flatAt, hasAll, absL, appN, Fl.isNd, asN, storeN, Nat.reduceBNe, destOf, appE, storeE, argO, argsO, boxesO, callG, callE, impE, pvR, pvs, pvRL, pvT, owns, ownsT, ownsR, clrL, withB, PV.kill, PL.kill, PL.names, Blk.kill, PL.live, toPL, resV, resO, compsO, compO, rlsO, rlO, toRes, Leaf.isSc, List.map_cons, List.map_nil, List.all_cons, List.all_nil, List.length_cons, List.length_nil, List.drop_zero, List.drop_succ_cons, List.take_succ_cons, List.take_zero, List.drop_nil, List.take_nil, List.getElem?_cons_zero, List.getElem?_cons_succ, List.getElem?_nil, Option.map_some, Option.map_none, Option.bind_some, Option.isSome_some, Option.isSome_none, List.cons_append, List.nil_append, List.append_nil, if_true, if_false, reduceIte, Nat.reduceLT, Nat.reduceBEq, Nat.reduceLeDiff, Nat.reduceEqDiff, Nat.reduceAdd, Nat.reduceMul, Nat.zero_add, Nat.add_zero, Nat.mul_one, Int.reduceToNat, Bool.and_true, Bool.true_and, Bool.false_and, Bool.and_false, Bool.not_true, Bool.not_false, Bool.false_eq_true, decide_true, decide_false, and_self, and_true, true_and, or_true, true_or, or_false, false_or, if_pos, if_neg, Int.toNat_natCast, decide_eq_true, decide_eq_false, look_hit, look_miss, Int.ofNat_eq_natCast, Bool.or_false, Bool.or_true, Bool.true_or, Bool.false_or, Bool.not_eq_true, beq_self_eq_true, ne_eq, not_false_eq_true, not_true_eq_false, eq_self, *] <;> rfl) (hb : getB st n = some (.arr .nd e 2 (eraRows l)) := by simp (config := { maxSteps := 1000000 }) (disch := first | assumption | omega) only [TY, ar_u64, binE, eqCells, eqVal, eqOp, step_mk, makeE, List.toList_toArray, Value.oneCell', step_fnv, step_makeFunc, ev_func, callV, cells_agg, cells_int, cells_bool, cells_str, cells_sl, List.size_toArray, flatB_nil, flatB_cons, wid_nil, wid_cons, rowsF_len, rowsF_flat, rowsF_app, step_build, buildE, fillE, indexSlE, indexArrE, shiftE, indexArrV, indexStE, step_move, step_assign, step_pick, step_load, step_nilCheck, step_binOp, step_unOp, step_convert, step_slice, step_fieldAddr, step_field, step_indexAddr, step_index, step_extract, step_len, step_min, step_max, step_alloc, step_box, step_lit, step_app, step_fn, step_store, putV_some, getS_hit, getS_miss, getS_blk, getS_kill, getS_nil, getB_nil, getB_slot, getB_hit, getB_miss, getB_kill0, getB_kill1, ev_tmp, ev_int, ev_bool, ev_str, ev_nil, ev_agg, cl_int, cl_bool, cl_str, cl_nil, loadE, loadV, fieldAddrE, fieldE, partV, indexAddrE, lenE, lenO, strIdx, indexE, boundE, subE, sliceE, convE, minE, scal, nilE, tupE, capsE, optE, pickE, pbin, pint, pstr, pun, ar_in, ar_u32, ar_u8, allocE, boxE, litE, rowsO, leafO, leafsO, frz, clr, rowsOf, flB, Fl.and, Fl.nst, Fl.ok, Fl.isFl, noRef, nstOk, flatAt, hasAll, absL, appN, Fl.isNd, asN, storeN, Nat.reduceBNe, destOf, appE, storeE, argO, argsO, boxesO, callG, callE, impE, pvR, pvs, pvRL, pvT, owns, ownsT, ownsR, clrL, withB, PV.kill, PL.kill, PL.names, Blk.kill, PL.live, toPL, resV, resO, compsO, compO, rlsO, rlO, toRes, Leaf.isSc, List.map_cons, List.map_nil, List.all_cons, List.all_nil, List.length_cons, List.length_nil, List.drop_zero, List.drop_succ_cons, List.take_succ_cons, List.take_zero, List.drop_nil, List.take_nil, List.getElem?_cons_zero, List.getElem?_cons_succ, List.getElem?_nil, Option.map_some, Option.map_none, Option.bind_some, Option.isSome_some, Option.isSome_none, List.cons_append, List.nil_append, List.append_nil, if_true, if_false, reduceIte, Nat.reduceLT, Nat.reduceBEq, Nat.reduceLeDiff, Nat.reduceEqDiff, Nat.reduceAdd, Nat.reduceMul, Nat.zero_add, Nat.add_zero, Nat.mul_one, Int.reduceToNat, Bool.and_true, Bool.true_and, Bool.false_and, Bool.and_false, Bool.not_true, Bool.not_false, Bool.false_eq_true, decide_true, decide_false, and_self, and_true, true_and, or_true, true_or, or_false, false_or, if_pos, if_neg, Int.toNat_natCast, decide_eq_true, decide_eq_false, look_hit, look_miss, Int.ofNat_eq_natCast, Bool.or_false, Bool.or_true, Bool.true_or, Bool.false_or, Bool.not_eq_true, beq_self_eq_true, ne_eq, not_false_eq_true, not_true_eq_false, eq_self, *] <;> rfl)
    (hst : .slot d (one (.sc (.int .i64 ((kE l k l.length : Nat) : Int)))) :: datS n (eraRows (mkEl l k)) st = st1 := by simp only [datS, PV.dat, datL, datT, PL.dat, Blk.dat, Nat.reduceEqDiff, reduceIte]; rfl)
    (h : WL Try.prog γ0 w0 N ops r st1 Q) : WL Try.prog γ0 w0 N ops (⟨some d, .call ⟨.value (.func 13), #[x0, x1], ts⟩, ty, pos, after, none⟩ :: r) st Q := fun a w hR => by
  subst hst
  refine wpList_plain rfl fun K hK => ?_
  obtain ⟨η, γ, hI⟩ := hR
  have h1 := ev_sound hI x0
  rw [hx] at h1
  have h1 := (RepV.one_iff.1 h1).1
  have h2 := ev_sound hI x1
  rw [hk] at h2
  obtain ⟨h2, -⟩ := RepV.one_iff.1 h2
  have hrun := enter_of (P := Try.prog) hf (a := a) (w := w) (args := [x0, x1]) (ts := ts) (dst := some d) (ty := ty) (pos := pos) (after := after) (g := none)
  unfold Oper.wp
  rw [hrun]
  show Calls Try.prog _ ([x0, x1].map a.eval).toArray w _
  simp only [List.map_cons, List.map_nil, h1, h2]
  have fin : ∀ (w' : World), w'.os = w.os → w'.tape = w.tape → w'.output = w.output → w.heap.size ≤ w'.heap.size → (∀ q, q < w.heap.size → γ q ≠ some n → w'.heap[q]? = w.heap[q]?) → RepL w' (fun b => if γ b = some n then none else γ b) (.sl (eraRows (mkEl l k))) (η n) →
      K (a.put (some d) (.int .i64 ((kE l k l.length : Nat) : Int))) w' := fun w' g1 g2 g3 g4 g5 g6 => by
    have hI2 := hI.toDat n (rows := eraRows (mkEl l k)) w' g1 g2 g3 g4 g5 g6
    exact hK _ _ (h _ _ ⟨η, _, hI2.put d _ _ hN (RepV.one_iff.2 ⟨rfl, rfl⟩)⟩)
  rcases nd_open hI hb with ⟨rfl, A, c, he, hc⟩ | ⟨b, c, us, he, hlc, hcm, hbs, hgb, hoa, hin, hub, hud, hgu⟩
  · rw [he]
    refine (markE_nil A c k hc w).mono fun e' w' ⟨he', hbel⟩ => ?_
    subst he'
    refine fin w' hbel.os hbel.tape hbel.output hbel.size (fun q hq _ => hbel.block q hq) ?_
    rw [he]
    exact RepL.emp hc
  · rw [he]
    refine (markEraS_any b 0 c l us k w (hoa k) hlc hcm hin hub hud h0 hn).mono fun e' w' ⟨he', ho', hi', hch⟩ => ?_
    subst he'
    refine fin w' hch.os hch.tape hch.output hch.size (fun q hq hne => hch.block q hq (fun e => hne (e ▸ hgb)) fun i hi e => hne (hgu i hi q e)) ?_
    rw [he, ← mkEl_len l k, ← eraRows_len]
    have hlen : (eraRows (mkEl l k)).length = l.length := by rw [eraRows_len, mkEl_len]
    refine .sl (s := 2) (off := 0) (fun i j => if j = 0 then .int .i64 ((kE l k i : Nat) : Int) else us i) (by simp [hgb]) (Nat.lt_of_lt_of_le hbs hch.size) (by rw [hlen]; exact hlc) hcm (fun row hr => ?_) (fun i row j x hi hj => ?_) (fun i row j x hi hj => ?_)
    · obtain ⟨x, _, rfl⟩ := List.mem_map.1 hr
      rfl
    · have hil : i < l.length := by have := (List.getElem?_eq_some_iff.1 hi).1; omega
      have hel := evE_get (us := us) (k := k) (j := l.length) hil
      rw [if_pos hil] at hel
      rw [mkEl_row hil] at hi
      cases hi
      have hj2 : j < 2 := (List.getElem?_eq_some_iff.1 hj).1
      rcases j with _ | _ | j
      · rw [if_pos rfl]
        exact ho'.2.2.2 i _ hel 0 _ rfl
      · rw [if_neg (by omega)]
        exact ho'.2.2.2 i _ hel 1 _ rfl
      · omega
    · have hil : i < l.length := by have := (List.getElem?_eq_some_iff.1 hi).1; omega
      rw [mkEl_row hil] at hi
      cases hi
      have hj2 : j < 2 := (List.getElem?_eq_some_iff.1 hj).1
      rcases j with _ | _ | j
      · cases hj
        rw [if_pos rfl]
        exact .sc rfl
      · cases hj
        rw [if_neg (by omega)]
        have := hi' i hil
        unfold inE at this
        rw [if_pos hil] at this
        exact rep_of_own (fun _ => rfl) (fun x u hu => by simp [cVal] at hu; rcases hu with rfl | rfl <;> rfl) (fun q hq => by simp [hgu i hil q hq]) this
      · omega
end
theorem markV_nil (A : Option Addr) (c k : Nat) (hc : c ≤ maxLen) (w : World) : Calls Try.prog 14 #[.slice A 0 c, .int .i64 (k : Int)] w fun e w' => e = .returned (.int .i64 (k : Int)) ∧ Below w.heap.size w w' := by
  go_enter Try.func14, Try.ntmps14
  go_wp2_with fail
  refine wp_loop_rounds 1 ?_
  rw [rounds_succ]
  go_wp2_with fail
  go_ret
  exact ⟨rfl, Below.refl _ _⟩
noncomputable def mHeldV := mdl (fun x : Nat × Nat => 0 < x.1 ∧ x.1 + 2 * x.2 ≤ 1099511627776) (fun x => [aL cVal (marked mkVal 2 x.1 x.2), aI (x.1 : Int)]) (fun x => rI ((x.1 + 2 * x.2 : Nat) : Int))
theorem mHeldV_eq (k n : Nat) (h0 : 0 < k) (hn : k + 2 * n ≤ 1099511627776) : mHeldV [aL cVal (marked mkVal 2 k n), aI (k : Int)] = some (rI ((k + 2 * n : Nat) : Int)) := mdl_eq (enc := fun x : Nat × Nat => [aL cVal (marked mkVal 2 x.1 x.2), aI (x.1 : Int)]) (by
  rintro ⟨a, b⟩ ⟨c, d⟩ h
  simp only [List.cons.injEq, Arg.val.injEq, Leaf.sl.injEq, Leaf.sc.injEq, Value.int.injEq, true_and, and_true] at h
  obtain ⟨h1, h2⟩ := h
  have hac : a = c := by omega
  have hl := congrArg List.length h1
  rw [rowsF_len, rowsF_len, length_marked, length_marked] at hl
  rw [hac, hl]) (k, n) ⟨h0, hn⟩
theorem heldV_s : Sound Try.prog 15 mHeldV := Sound.says (fun _ => rfl) fun x vs w hok hr => by
  obtain ⟨k, n⟩ := x
  obtain ⟨h0, hn⟩ := hok
  obtain ⟨h1, h2⟩ := hr
  obtain ⟨v0, e0, r0⟩ := h2 0 _ rfl
  obtain ⟨v1, e1, r1⟩ := h2 1 _ rfl
  obtain ⟨x, ex, rx⟩ := r1
  cases ex
  cases rx
  match vs, h1 with
  | [a, b], _ =>
    cases e0
    cases e1
    exact heldValS_any v0 n k w (rep_RdS (fun _ => rfl) (repA_list_inv r0)) h0 hn
noncomputable def mHeldE (l : List TEra) (k : Nat) := mdl (fun _ : Unit => True) (fun _ => [aES (mkEl l k), aI (k : Int)]) (fun _ => rI ((kE l k l.length : Nat) : Int))
theorem mHeldE_eq (l : List TEra) (k : Nat) : mHeldE l k [aES (mkEl l k), aI (k : Int)] = some (rI ((kE l k l.length : Nat) : Int)) := mdl_eq (enc := fun _ : Unit => [aES (mkEl l k), aI (k : Int)]) (by intro a b _; rfl) () trivial
/-- the contract at one row of eras -/
theorem heldE_at (l : List TEra) (k : Nat) (h0 : 0 < k) (hl : l.length ≤ 1048577) (hn : kE l k l.length ≤ 1099511627776) : Sound Try.prog 20 (mHeldE l k) := by
  refine Sound.mdl Try.func20 rfl Try.ntmps20 ?_
  rintro ⟨⟩ w -
  refine ⟨by simp, ?_⟩
  have hΓ : GSound Try.prog (look [(15, mHeldV)]) := env_cons (has_of Try.func15 rfl rfl) heldV_s env_nil
  have hlen : (eraRows (mkEl l k)).length = l.length := by rw [eraRows_len, mkEl_len]
  simp only [initS, argPV, List.map_cons, List.map_nil, toPL, Nat.zero_add]
  repeat (first | with_reducible apply W.seq | with_reducible apply W.block | with_reducible apply W.skip | with_reducible apply W.exit | with_reducible apply W.ret | with_reducible apply At.seqN | with_reducible apply At.blkN | with_reducible apply At.blkE | with_reducible apply At.blkR | with_reducible apply At.thenX | with_reducible apply At.thenR | with_reducible apply At.blkX rfl | ((with_reducible apply W.ops); (repeat (first | refine WL.opA hΓ (h := ?_) | refine WL.opX hΓ (h := ?_) | refine WL.opY (h := ?_) | refine WL.opZ (h := ?_))); with_reducible apply WL.nil) | refine W.condT (h := ?_) | refine W.condF (h := ?_))
  refine W.loopA (fun j => j ≤ l.length) (fun j : Nat => [.slot 5 (vI j), .slot 1 (vI ((kE l k j : Nat) : Int)), .slot 0 (one (.sl (eraRows (mkEl l k))))]) (fun j => l.length - j) 0 (Nat.zero_le _) (h := ?_)
  rintro j hj
  by_cases hlt : j < l.length
  · have hrow := mkEl_row (k := k) hlt
    have hk1 : kE l k (j + 1) = kE l k j + 1 + 2 * (eraG l j).2.length := rfl
    have hk2 := kE_mono l k (Nat.succ_le_of_lt hlt)
    have hk3 := kE_mono l k (Nat.zero_le j)
    have hk3 : k ≤ kE l k j := hk3
    have c := mHeldV_eq (kE l k j + 1) (eraG l j).2.length (by omega) (by rw [← hk1]; exact Nat.le_trans hk2 hn)
    have hm2 : kE l k j + 1 + 2 * (eraG l j).2.length ≤ 1099511627776 := by rw [← hk1]; exact Nat.le_trans hk2 hn
    have e1 : ((kE l k j + 1 : Nat) : Int) = ((kE l k j : Nat) : Int) + 1 := by omega
    rw [e1] at c
    have hk1 := Lib.hid hk1
    clear hk2
    generalize (eraG l j).2.length = q at *
    generalize kE l k j = m at *
    have hnn : ¬ ((m + 1 + 2 * q : Nat) : Int) < 0 := by omega
    clear e1
    repeat (first | with_reducible apply W.seq | with_reducible apply W.block | with_reducible apply W.skip | with_reducible apply W.exit | with_reducible apply W.ret | with_reducible apply At.seqN | with_reducible apply At.blkN | with_reducible apply At.blkE | with_reducible apply At.blkR | with_reducible apply At.thenX | with_reducible apply At.thenR | with_reducible apply At.blkX rfl | ((with_reducible apply W.ops); (repeat (first | refine WL.opA hΓ (h := ?_) | refine WL.opX hΓ (h := ?_) | refine WL.opY (h := ?_) | refine WL.opZ (h := ?_))); with_reducible apply WL.nil) | refine W.condT (h := ?_) | refine W.condF (h := ?_))
    refine At.roundA (j + 1) (by omega) (by omega) (hs := ?_)
    rw [hk1.out]
    simp (disch := omega) only [Sub, SubL, getS_hit, getS_miss, getS_blk, getS_kill, getS_nil, getB_nil, getB_slot, getB_hit, getB_miss, getB_kill0, getB_kill1, lsNms, vsNms, PL.nms, PV.nms, Blk.nms, bound, PV.kill, PL.kill, PL.names, List.append_nil, List.nil_append, List.cons_append, and_true, true_and, and_self, *] <;> (repeat' apply And.intro) <;> rfl
  · have hke : j = l.length := by omega
    subst hke
    repeat (first | with_reducible apply W.seq | with_reducible apply W.block | with_reducible apply W.skip | with_reducible apply W.exit | with_reducible apply W.ret | with_reducible apply At.seqN | with_reducible apply At.blkN | with_reducible apply At.blkE | with_reducible apply At.blkR | with_reducible apply At.thenX | with_reducible apply At.thenR | with_reducible apply At.blkX rfl | ((with_reducible apply W.ops); (repeat (first | refine WL.opA hΓ (h := ?_) | refine WL.opX hΓ (h := ?_) | refine WL.opY (h := ?_) | refine WL.opZ (h := ?_))); with_reducible apply WL.nil) | refine W.condT (h := ?_) | refine W.condF (h := ?_))
    refine At.retA (by rw [Try.results20]) (he := rfl)
end Go.Proofs.Ytimnogjgokljbaa
