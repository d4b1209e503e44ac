/-
  A region that draws its order, walked through all orders: a state for each set of operations that may have run.
-/
import Derived.Test.YtfgkfcfplodaoaaGreatDoorHPEvLate
namespace Go.Proofs.YtfgkfcfplodaoaaGreatDoor
set_option maxRecDepth 100000
set_option linter.unusedVariables false
set_option linter.unusedSimpArgs false
open Go Go.RowKit
set_option linter.unusedVariables false

/-- a set of operations as a number -/
def maskL : List Bool → Nat
  | [] => 0
  | b :: r => (if b then 1 else 0) + 2 * maskL r
theorem maskL_bit : ∀ (bs : List Bool) (i : Nat), (maskL bs).testBit i = bs.getD i false
  | [], i => by simp [maskL]
  | b :: r, 0 => by
    rw [Nat.testBit_zero]
    unfold maskL
    cases b <;> simp
  | b :: r, i + 1 => by
    rw [Nat.testBit_succ]
    have e : maskL (b :: r) / 2 = maskL r := by
      rw [show maskL (b :: r) = (if b then 1 else 0) + 2 * maskL r from rfl]
      split <;> omega
    rw [e, maskL_bit r i]
    rfl
theorem maskL_lt : ∀ (bs : List Bool), maskL bs < 2 ^ bs.length
  | [] => by simp [maskL]
  | b :: r => by
    have := maskL_lt r
    rw [show maskL (b :: r) = (if b then 1 else 0) + 2 * maskL r from rfl]
    rw [List.length_cons, Nat.pow_succ]
    split <;> omega
theorem maskL_set : ∀ (bs : List Bool) (i : Nat), i < bs.length → bs.getD i false = false → maskL (bs.set i true) = maskL bs + 2 ^ i
  | [], i, h, _ => by simp at h
  | b :: r, 0, _, h => by
    have : b = false := h
    subst this
    simp [maskL]
    omega
  | b :: r, i + 1, h, h2 => by
    have ih := maskL_set r i (by simpa using h) h2
    simp only [List.set_cons_succ, maskL, ih, Nat.pow_succ]
    omega
def msk (listed : Array Bool) : Nat := maskL listed.toList
theorem msk_bit (listed : Array Bool) (i : Nat) : (msk listed).testBit i = L listed i := by
  unfold msk L
  rw [maskL_bit]
  simp [List.getD_eq_getElem?_getD, Array.getD_eq_getD_getElem?]
theorem msk_set {listed : Array Bool} {i : Nat} (hi : i < listed.size) (h : L listed i = false) : msk (listed.setIfInBounds i true) = msk listed + 2 ^ i := by
  unfold msk
  rw [Array.toList_setIfInBounds]
  refine maskL_set _ _ (by simpa using hi) ?_
  unfold L at h
  simpa [List.getD_eq_getElem?_getD, Array.getD_eq_getD_getElem?] using h
/-- nothing in it without what must come ahead -/
def closB (l : List Oper) (m : Nat) : Bool := (List.range l.length).all fun j => !m.testBit j || match l[j]? with
  | some o => (dirO o).all fun k => m.testBit k
  | none => true
/-- the next one may be this -/
def avlB (l : List Oper) (m i : Nat) : Bool := !m.testBit i && match l[i]? with
  | some o => (dirO o).all fun k => m.testBit k
  | none => false
def prs (l : List Oper) : List (Nat × Nat) := ((List.range (2 ^ l.length)).filter (closB l)).flatMap fun m => ((List.range l.length).filter (avlB l m)).map fun i => (m, i)
def dirB (l : List Oper) : Bool := (List.range l.length).all fun i => match l[i]? with
  | some o => (dirO o).all fun k => decide (k < i)
  | none => true
section
variable {P : Program} {Γ : Models} {γ0 : Nat → Option Nat} {w0 : World} {N : Nat} {Q : Exit → Act → World → Prop} {l : List Oper}
def StepAt (P : Program) (Γ : Models) (N : Nat) (l : List Oper) (J : Nat → St) (x : Nat × Nat) : Prop :=
  ∃ o st', l[x.2]? = some o ∧ o.guard = none ∧ stepO P Γ N (J x.1) o.dst o.op = some st' ∧ Sub (J (x.1 + 2 ^ x.2)) st'
theorem prs_mem {listed : Array Bool} (hs : listed.size = l.length) (hc : Closed l listed) {i : Nat} {o : Oper} (ho : l[i]? = some o) (hL : L listed i = false) (hd : ∀ k ∈ dirO o, L listed k = true) : (msk listed, i) ∈ prs l := by
  have hi := (List.getElem?_eq_some_iff.1 ho).1
  unfold prs
  refine List.mem_flatMap.2 ⟨msk listed, List.mem_filter.2 ⟨List.mem_range.2 ?_, ?_⟩, List.mem_map.2 ⟨i, List.mem_filter.2 ⟨List.mem_range.2 hi, ?_⟩, rfl⟩⟩
  · have := maskL_lt listed.toList
    rw [Array.length_toList, hs] at this
    exact this
  · unfold closB
    rw [List.all_eq_true]
    intro j _
    rw [msk_bit]
    cases hj : L listed j with
    | false => rfl
    | true =>
      cases hoj : l[j]? with
      | none => rfl
      | some oj =>
        simp only [Bool.not_true, Bool.false_or, List.all_eq_true]
        intro k hk
        rw [msk_bit]
        exact hc j oj hoj hj k hk
  · unfold avlB
    rw [msk_bit, hL, ho]
    simp only [Bool.not_false, Bool.true_and, List.all_eq_true]
    intro k hk
    rw [msk_bit]
    exact hd k hk
theorem draw_all (hΓ : GSound P Γ) (hD : dirB l = true) (J : Nat → St) (hS : ∀ x ∈ prs l, StepAt P Γ N l J x) (hT : WL P γ0 w0 N l.toArray [] (J (2 ^ l.length - 1)) Q) :
    ∀ (fuel : Nat) (listed : Array Bool) (a : Act) (w : World), listed.size = l.length → Closed l listed → (List.range l.length).countP (fun i => !L listed i) ≤ fuel → R γ0 w0 N (J (msk listed)) a w → wpAny P .any l.toArray Q fuel listed a w := by
  have hfull : ∀ listed : Array Bool, listed.size = l.length → (∀ i, i < l.length → L listed i = true) → msk listed = 2 ^ l.length - 1 := fun listed hs hall => by
    refine Nat.eq_of_testBit_eq fun i => ?_
    rw [msk_bit, Nat.testBit_two_pow_sub_one]
    by_cases hi : i < l.length
    · rw [hall i hi]; simp [hi]
    · have : L listed i = false := by
        unfold L
        simp [Array.getD_eq_getD_getElem?, Array.getElem?_eq_none (show listed.size ≤ i by omega)]
      rw [this]; simp [hi]
  have hend : ∀ (listed : Array Bool) (a : Act) (w : World), listed.size = l.length → (∀ i, i < l.length → L listed i = true) → R γ0 w0 N (J (msk listed)) a w → Q .normal a w := fun listed a w hs hall hR => hT a w (by rw [← hfull listed hs hall]; exact hR)
  have hnone : ∀ listed : Array Bool, listed.size = l.length → (∀ i, i < l.length → L listed i = true) → ∀ i, i ∉ Region.ready .any l.toArray listed := fun listed hs hall i hi => by
    obtain ⟨o, h1, h2, _⟩ := ready_spec hs hi
    rw [hall i (List.getElem?_eq_some_iff.1 h1).1] at h2
    cases h2
  have hready : ∀ listed : Array Bool, listed.size = l.length → Region.ready .any l.toArray listed = [] → ∀ i, i < l.length → L listed i = true := fun listed hs hr i => by
    induction i using Nat.strongRecOn with
    | _ i ih =>
      intro hi
      cases hL : L listed i with
      | true => rfl
      | false =>
        have hok : l[i]? = some l[i] := List.getElem?_eq_getElem hi
        have := ready_of hs hok hL (fun k hk => by
          have h1 := List.all_eq_true.1 hD i (List.mem_range.2 hi)
          rw [hok] at h1
          have h2 := of_decide_eq_true (List.all_eq_true.1 h1 k hk)
          exact ih k h2 (by omega))
        rw [hr] at this
        cases this
  intro fuel
  induction fuel with
  | zero =>
    intro listed a w hs hc hcnt hR
    have hall : ∀ i, i < l.length → L listed i = true := fun i hi => by
      have := List.countP_eq_zero.1 (Nat.le_zero.1 hcnt) i (List.mem_range.2 hi)
      simpa using this
    exact ⟨List.eq_nil_iff_forall_not_mem.2 (hnone listed hs hall), hend listed a w hs hall hR⟩
  | succ fuel ih =>
    intro listed a w hs hc hcnt hR
    refine ⟨fun hr => hend listed a w hs (hready listed hs hr) hR, fun i hi => ?_⟩
    obtain ⟨o, h1, h2, h3⟩ := ready_spec hs hi
    have hlt := (List.getElem?_eq_some_iff.1 h1).1
    obtain ⟨o', st', e1, e2, e3, e4⟩ := hS _ (prs_mem hs hc h1 h2 h3)
    dsimp only at e1 e3 e4
    rw [h1] at e1
    cases e1
    have hset : ∀ j, L (listed.setIfInBounds i true) j = if i = j then true else L listed j := L_set (by omega)
    have hcl : Closed l (listed.setIfInBounds i true) := fun j o' hj hL k hk => by
      rw [hset] at hL ⊢
      by_cases e : i = j
      · subst e
        rw [h1] at hj
        cases hj
        split
        · rfl
        · exact h3 k hk
      · rw [if_neg e] at hL
        split
        · rfl
        · exact hc j o' hj hL k hk
    have hct : (List.range l.length).countP (fun j => !L (listed.setIfInBounds i true) j) ≤ fuel := by
      have := count_set (fun j => !L listed j) (fun j => !L (listed.setIfInBounds i true) j) i (by simp [h2]) (by simp [hset]) (fun j hj => by simp only [hset, if_neg (fun e : i = j => hj e.symm)]) (List.range l.length) List.nodup_range (List.mem_range.2 hlt)
      omega
    have hsz : (listed.setIfInBounds i true).size = l.length := by simpa using hs
    unfold wpOp
    have hget : l.toArray[i]? = some o := by simpa using h1
    rw [hget]
    simp only
    rw [if_pos (by simp [Region.wanted, e2])]
    left
    exact stepO_sound hΓ hR e3 fun a' w' hR' => ih _ a' w' hsz hcl hct (by rw [msk_set (by omega) h2]; exact hR'.sub e4)
theorem W.allC (hm : P.follows .mixedOrders = true) (hΓ : GSound P Γ) {id : Nat} {st0 : St} (J : Nat → St) (h0 : J 0 = st0) (hD : dirB l = true) (hS : ∀ x ∈ prs l, StepAt P Γ N l J x) (hT : WL P γ0 w0 N l.toArray [] (J (2 ^ l.length - 1)) Q) :
    W P γ0 w0 N st0 (.region id l.toArray true) Q := fun a w hR => by
  refine wp_region_any hm ?_
  obtain ⟨η, γ, hI⟩ := hR
  have hR' : R γ0 w0 N st0 a w.drew := ⟨η, γ, hI.world w.drew rfl rfl rfl rfl⟩
  have hL0 : ∀ i, L (Array.replicate l.toArray.size false) i = false := fun i => by
    unfold L
    simp only [Array.getD_eq_getD_getElem?, Array.getElem?_replicate]
    split <;> rfl
  have hm0 : msk (Array.replicate l.toArray.size false) = 0 := Nat.eq_of_testBit_eq fun i => by rw [msk_bit, hL0]; simp
  refine draw_all hΓ hD J hS hT _ _ a w.drew (by simp) (fun i o _ hL => by rw [hL0] at hL; cases hL) ?_ (by rw [hm0, h0]; exact hR')
  refine Nat.le_trans List.countP_le_length ?_
  simp
end
/-- states by number -/
def tabJ : List (Nat × St) → Nat → St
  | [], _ => []
  | (k, s) :: r, m => if k = m then s else tabJ r m
def putB (n : Nat) : Option Blk → St → St
  | some b, r => .blk n b :: r
  | none, r => r
/-- the state without its kills -/
def cleanG (st : St) : St → St
  | [] => []
  | .slot t _ :: r => .slot t (getS st t) :: cleanG st r
  | .blk n _ :: r => putB n (getB st n) (cleanG st r)
  | .kill _ :: r => cleanG st r
/-- the region's goal, beside the states that are reckoned so far -/
def AllGo (Γ : Models) (γ0 : Nat → Option Nat) (w0 : World) (N : Nat) (l : List Oper) (id : Nat) (st0 : St) (Q : Exit → Act → World → Prop) (tab : List (Nat × St)) : Prop := W Tryz.prog γ0 w0 N st0 (.region id l.toArray true) Q
section
variable {Γ : Models} {γ0 : Nat → Option Nat} {w0 : World} {N : Nat} {Q : Exit → Act → World → Prop} {l : List Oper} {id : Nat} {st0 : St} {tab : List (Nat × St)}
theorem AllGo.start (hΓ : GSound Tryz.prog Γ) (h : AllGo Γ γ0 w0 N l id st0 Q [(0, st0)]) : W Tryz.prog γ0 w0 N st0 (.region id l.toArray true) Q := h
theorem AllGo.add {tab' : List (Nat × St)} {stm st' st2 : St} {o : Oper} (m i : Nat) (ho : l[i]? = some o := by rfl) (hm : tabJ tab m = stm := by simp only [tabJ, eq_self, Nat.reduceEqDiff, reduceIte] <;> rfl) (hs : stepO Tryz.prog Γ N stm o.dst o.op = some st' := by exact evsP)
    (hc : cleanG st' st' = st2 := by simp only [cleanG]; simp (config := { maxSteps := 1000000 }) (disch := first | assumption | omega) only [TY, ar_u64, binE, eqCells, eqVal, eqOp, step_mk, makeE, List.toList_toArray, Value.oneCell', step_fnv, step_makeFunc, ev_func, callV, cells_agg, cells_int, cells_bool, cells_str, cells_sl, List.size_toArray, flatB_nil, flatB_cons, wid_nil, wid_cons, rowsF_len, rowsF_flat, rowsF_app, step_build, buildE, fillE, indexSlE, indexArrE, shiftE, indexArrV, indexStE, step_move, step_assign, step_pick, step_load, step_nilCheck, step_binOp, step_unOp, step_convert, step_slice, step_fieldAddr, step_field, step_indexAddr, step_index, step_extract, step_len, step_min, step_max, step_alloc, step_box, step_lit, step_app, step_fn, step_store, putV_some, getS_hit, getS_miss, getS_blk, getS_kill, getS_nil, getB_nil, getB_slot, getB_hit, getB_miss, getB_kill0, getB_kill1, ev_tmp, ev_int, ev_bool, ev_str, ev_nil, ev_agg, cl_int, cl_bool, cl_str, cl_nil, loadE, loadV, fieldAddrE, fieldE, partV, indexAddrE, lenE, lenO, strIdx, indexE, boundE, subE, sliceE, convE, minE, scal, nilE, tupE, capsE, optE, pickE, pbin, pint, pstr, pun, ar_in, ar_u32, ar_u8, allocE, boxE, litE, rowsO, leafO, leafsO, frz, clr, rowsOf, flB, Fl.and, Fl.nst, Fl.ok, Fl.isFl, noRef, nstOk, flatAt, hasAll, absL, appN, Fl.isNd, asN, storeN, Nat.reduceBNe, destOf, appE, storeE, argO, argsO, boxesO, callG, callE, impE, pvR, pvs, pvRL, pvT, owns, ownsT, ownsR, clrL, withB, PV.kill, PL.kill, PL.names, Blk.kill, PL.live, toPL, resV, resO, compsO, compO, rlsO, rlO, toRes, Leaf.isSc, List.map_cons, List.map_nil, List.all_cons, List.all_nil, List.length_cons, List.length_nil, List.drop_zero, List.drop_succ_cons, List.take_succ_cons, List.take_zero, List.drop_nil, List.take_nil, List.getElem?_cons_zero, List.getElem?_cons_succ, List.getElem?_nil, Option.map_some, Option.map_none, Option.bind_some, Option.isSome_some, Option.isSome_none, List.cons_append, List.nil_append, List.append_nil, if_true, if_false, reduceIte, Nat.reduceLT, Nat.reduceBEq, Nat.reduceLeDiff, Nat.reduceEqDiff, Nat.reduceAdd, Nat.reduceMul, Nat.zero_add, Nat.add_zero, Nat.mul_one, Int.reduceToNat, Bool.and_true, Bool.true_and, Bool.false_and, Bool.and_false, Bool.not_true, Bool.not_false, Bool.false_eq_true, decide_true, decide_false, and_self, and_true, true_and, or_true, true_or, or_false, false_or, if_pos, if_neg, Int.toNat_natCast, decide_eq_true, decide_eq_false, look_hit, look_miss, Int.ofNat_eq_natCast, Bool.or_false, Bool.or_true, Bool.true_or, Bool.false_or, Bool.not_eq_true, beq_self_eq_true, ne_eq, not_false_eq_true, not_true_eq_false, eq_self, *]; (try simp only [putB]); rfl) (ht : tab ++ [(m + 2 ^ i, st2)] = tab' := by simp only [List.cons_append, List.nil_append, Nat.reduceAdd, Nat.reducePow]; rfl) (h : AllGo Γ γ0 w0 N l id st0 Q tab') : AllGo Γ γ0 w0 N l id st0 Q tab := h
theorem AllGo.done {stE : St} (hΓ : GSound Tryz.prog Γ) (ps : List (Nat × Nat)) (hp : prs l = ps) (hD : dirB l = true) (h0 : tabJ tab 0 = st0) (hS : ∀ x ∈ ps, StepAt Tryz.prog Γ N l (tabJ tab) x) (hE : tabJ tab (2 ^ l.length - 1) = stE) (hT : WL Tryz.prog γ0 w0 N l.toArray [] stE Q) : AllGo Γ γ0 w0 N l id st0 Q tab := by
  subst hE
  exact W.allC follows_mixed hΓ (tabJ tab) h0 hD (fun x hx => hS x (hp ▸ hx)) hT
theorem StepAt.mk' {J : Nat → St} {m i : Nat} {o : Oper} {stm st' stn : St} (ho : l[i]? = some o) (hg : o.guard = none) (hm : J m = stm) (hn : J (m + 2 ^ i) = stn) (hs : stepO Tryz.prog Γ N stm o.dst o.op = some st') (hb : Sub stn st') : StepAt Tryz.prog Γ N l J (m, i) :=
  ⟨o, st', ho, hg, by rw [hm]; exact hs, by rw [hn]; exact hb⟩
end
end Go.Proofs.YtfgkfcfplodaoaaGreatDoor
