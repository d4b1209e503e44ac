/-
  Put together: PEvAll PEvCut.
-/
import Derived.Test.YtfgkfcfplodaoaaGreatDoorHPEvCur
set_option linter.unusedSimpArgs false
set_option linter.unusedVariables false
set_option maxRecDepth 100000
section
namespace Go.Proofs.YtfgkfcfplodaoaaGreatDoor
open Go Go.RowKit
def maskL : List Bool → Nat
  | [] => 0
  | b :: r => (if b then 1 else 0) + 2 * maskL r
theorem maskL_bit : ∀ (bs : List Bool) (i : Nat), (maskL bs).testBit i = bs.getD i false
  | [], i => by simp [maskL]
  | b :: r, 0 => by
    rw [Nat.testBit_zero]
    unfold maskL
    cases b <;> simp
  | b :: r, i + 1 => by
    rw [Nat.testBit_succ]
    have e : maskL (b :: r) / 2 = maskL r := by
      rw [show maskL (b :: r) = (if b then 1 else 0) + 2 * maskL r from rfl]
      split <;> omega
    rw [e, maskL_bit r i]
    rfl
theorem maskL_lt : ∀ (bs : List Bool), maskL bs < 2 ^ bs.length
  | [] => by simp [maskL]
  | b :: r => by
    have := maskL_lt r
    rw [show maskL (b :: r) = (if b then 1 else 0) + 2 * maskL r from rfl]
    rw [List.length_cons, Nat.pow_succ]
    split <;> omega
theorem maskL_set : ∀ (bs : List Bool) (i : Nat), i < bs.length → bs.getD i false = false → maskL (bs.set i true) = maskL bs + 2 ^ i
  | [], i, h, _ => by simp at h
  | b :: r, 0, _, h => by
    have : b = false := h
    subst this
    simp [maskL]
    omega
  | b :: r, i + 1, h, h2 => by
    have ih := maskL_set r i (by simpa using h) h2
    simp only [List.set_cons_succ, maskL, ih, Nat.pow_succ]
    omega
def msk (listed : Array Bool) : Nat := maskL listed.toList
theorem msk_bit (listed : Array Bool) (i : Nat) : (msk listed).testBit i = L listed i := by
  unfold msk L
  rw [maskL_bit]
  simp [List.getD_eq_getElem?_getD, Array.getD_eq_getD_getElem?]
theorem msk_set {listed : Array Bool} {i : Nat} (hi : i < listed.size) (h : L listed i = false) : msk (listed.setIfInBounds i true) = msk listed + 2 ^ i := by
  unfold msk
  rw [Array.toList_setIfInBounds]
  refine maskL_set _ _ (by simpa using hi) ?_
  unfold L at h
  simpa [List.getD_eq_getElem?_getD, Array.getD_eq_getD_getElem?] using h
def closB (l : List Oper) (m : Nat) : Bool := (List.range l.length).all fun j => !m.testBit j || match l[j]? with
  | some o => (dirO o).all fun k => m.testBit k
  | none => true
def avlB (l : List Oper) (m i : Nat) : Bool := !m.testBit i && match l[i]? with
  | some o => (dirO o).all fun k => m.testBit k
  | none => false
def prs (l : List Oper) : List (Nat × Nat) := ((List.range (2 ^ l.length)).filter (closB l)).flatMap fun m => ((List.range l.length).filter (avlB l m)).map fun i => (m, i)
def dirB (l : List Oper) : Bool := (List.range l.length).all fun i => match l[i]? with
  | some o => (dirO o).all fun k => decide (k < i)
  | none => true
section
variable {P : Program} {Γ : Models} {γ0 : Nat → Option Nat} {w0 : World} {N : Nat} {Q : Exit → Act → World → Prop} {l : List Oper}
def StepAt (P : Program) (Γ : Models) (N : Nat) (l : List Oper) (J : Nat → St) (x : Nat × Nat) : Prop :=
  ∃ o st', l[x.2]? = some o ∧ o.guard = none ∧ stepO P Γ N (J x.1) o.dst o.op = some st' ∧ Sub (J (x.1 + 2 ^ x.2)) st'
theorem prs_mem {listed : Array Bool} (hs : listed.size = l.length) (hc : Closed l listed) {i : Nat} {o : Oper} (ho : l[i]? = some o) (hL : L listed i = false) (hd : ∀ k ∈ dirO o, L listed k = true) : (msk listed, i) ∈ prs l := by
  have hi := (List.getElem?_eq_some_iff.1 ho).1
  unfold prs
  refine List.mem_flatMap.2 ⟨msk listed, List.mem_filter.2 ⟨List.mem_range.2 ?_, ?_⟩, List.mem_map.2 ⟨i, List.mem_filter.2 ⟨List.mem_range.2 hi, ?_⟩, rfl⟩⟩
  · have := maskL_lt listed.toList
    rw [Array.length_toList, hs] at this
    exact this
  · unfold closB
    rw [List.all_eq_true]
    intro j _
    rw [msk_bit]
    cases hj : L listed j with
    | false => rfl
    | true =>
      cases hoj : l[j]? with
      | none => rfl
      | some oj =>
        simp only [Bool.not_true, Bool.false_or, List.all_eq_true]
        intro k hk
        rw [msk_bit]
        exact hc j oj hoj hj k hk
  · unfold avlB
    rw [msk_bit, hL, ho]
    simp only [Bool.not_false, Bool.true_and, List.all_eq_true]
    intro k hk
    rw [msk_bit]
    exact hd k hk
theorem draw_all (hΓ : GSound P Γ) (hD : dirB l = true) (J : Nat → St) (hS : ∀ x ∈ prs l, StepAt P Γ N l J x) (hT : WL P γ0 w0 N l.toArray [] (J (2 ^ l.length - 1)) Q) :
    ∀ (fuel : Nat) (listed : Array Bool) (a : Act) (w : World), listed.size = l.length → Closed l listed → (List.range l.length).countP (fun i => !L listed i) ≤ fuel → R γ0 w0 N (J (msk listed)) a w → wpAny P .any l.toArray Q fuel listed a w := by
  have hfull : ∀ listed : Array Bool, listed.size = l.length → (∀ i, i < l.length → L listed i = true) → msk listed = 2 ^ l.length - 1 := fun listed hs hall => by
    refine Nat.eq_of_testBit_eq fun i => ?_
    rw [msk_bit, Nat.testBit_two_pow_sub_one]
    by_cases hi : i < l.length
    · rw [hall i hi]; simp [hi]
    · have : L listed i = false := by
        unfold L
        simp [Array.getD_eq_getD_getElem?, Array.getElem?_eq_none (show listed.size ≤ i by omega)]
      rw [this]; simp [hi]
  have hend : ∀ (listed : Array Bool) (a : Act) (w : World), listed.size = l.length → (∀ i, i < l.length → L listed i = true) → R γ0 w0 N (J (msk listed)) a w → Q .normal a w := fun listed a w hs hall hR => hT a w (by rw [← hfull listed hs hall]; exact hR)
  have hnone : ∀ listed : Array Bool, listed.size = l.length → (∀ i, i < l.length → L listed i = true) → ∀ i, i ∉ Region.ready .any l.toArray listed := fun listed hs hall i hi => by
    obtain ⟨o, h1, h2, _⟩ := ready_spec hs hi
    rw [hall i (List.getElem?_eq_some_iff.1 h1).1] at h2
    cases h2
  have hready : ∀ listed : Array Bool, listed.size = l.length → Region.ready .any l.toArray listed = [] → ∀ i, i < l.length → L listed i = true := fun listed hs hr i => by
    induction i using Nat.strongRecOn with
    | _ i ih =>
      intro hi
      cases hL : L listed i with
      | true => rfl
      | false =>
        have hok : l[i]? = some l[i] := List.getElem?_eq_getElem hi
        have := ready_of hs hok hL (fun k hk => by
          have h1 := List.all_eq_true.1 hD i (List.mem_range.2 hi)
          rw [hok] at h1
          have h2 := of_decide_eq_true (List.all_eq_true.1 h1 k hk)
          exact ih k h2 (by omega))
        rw [hr] at this
        cases this
  intro fuel
  induction fuel with
  | zero =>
    intro listed a w hs hc hcnt hR
    have hall : ∀ i, i < l.length → L listed i = true := fun i hi => by
      have := List.countP_eq_zero.1 (Nat.le_zero.1 hcnt) i (List.mem_range.2 hi)
      simpa using this
    exact ⟨List.eq_nil_iff_forall_not_mem.2 (hnone listed hs hall), hend listed a w hs hall hR⟩
  | succ fuel ih =>
    intro listed a w hs hc hcnt hR
    refine ⟨fun hr => hend listed a w hs (hready listed hs hr) hR, fun i hi => ?_⟩
    obtain ⟨o, h1, h2, h3⟩ := ready_spec hs hi
    have hlt := (List.getElem?_eq_some_iff.1 h1).1
    obtain ⟨o', st', e1, e2, e3, e4⟩ := hS _ (prs_mem hs hc h1 h2 h3)
    dsimp only at e1 e3 e4
    rw [h1] at e1
    cases e1
    have hset : ∀ j, L (listed.setIfInBounds i true) j = if i = j then true else L listed j := L_set (by omega)
    have hcl : Closed l (listed.setIfInBounds i true) := fun j o' hj hL k hk => by
      rw [hset] at hL ⊢
      by_cases e : i = j
      · subst e
        rw [h1] at hj
        cases hj
        split
        · rfl
        · exact h3 k hk
      · rw [if_neg e] at hL
        split
        · rfl
        · exact hc j o' hj hL k hk
    have hct : (List.range l.length).countP (fun j => !L (listed.setIfInBounds i true) j) ≤ fuel := by
      have := count_set (fun j => !L listed j) (fun j => !L (listed.setIfInBounds i true) j) i (by simp [h2]) (by simp [hset]) (fun j hj => by simp only [hset, if_neg (fun e : i = j => hj e.symm)]) (List.range l.length) List.nodup_range (List.mem_range.2 hlt)
      omega
    have hsz : (listed.setIfInBounds i true).size = l.length := by simpa using hs
    unfold wpOp
    have hget : l.toArray[i]? = some o := by simpa using h1
    rw [hget]
    simp only
    rw [if_pos (by simp [Region.wanted, e2])]
    left
    exact stepO_sound hΓ hR e3 fun a' w' hR' => ih _ a' w' hsz hcl hct (by rw [msk_set (by omega) h2]; exact hR'.sub e4)
theorem W.allC (hm : P.follows .mixedOrders = true) (hΓ : GSound P Γ) {id : Nat} {st0 : St} (J : Nat → St) (h0 : J 0 = st0) (hD : dirB l = true) (hS : ∀ x ∈ prs l, StepAt P Γ N l J x) (hT : WL P γ0 w0 N l.toArray [] (J (2 ^ l.length - 1)) Q) :
    W P γ0 w0 N st0 (.region id l.toArray true) Q := fun a w hR => by
  refine wp_region_any hm ?_
  obtain ⟨η, γ, hI⟩ := hR
  have hR' : R γ0 w0 N st0 a w.drew := ⟨η, γ, hI.world w.drew rfl rfl rfl rfl⟩
  have hL0 : ∀ i, L (Array.replicate l.toArray.size false) i = false := fun i => by
    unfold L
    simp only [Array.getD_eq_getD_getElem?, Array.getElem?_replicate]
    split <;> rfl
  have hm0 : msk (Array.replicate l.toArray.size false) = 0 := Nat.eq_of_testBit_eq fun i => by rw [msk_bit, hL0]; simp
  refine draw_all hΓ hD J hS hT _ _ a w.drew (by simp) (fun i o _ hL => by rw [hL0] at hL; cases hL) ?_ (by rw [hm0, h0]; exact hR')
  refine Nat.le_trans List.countP_le_length ?_
  simp
end
def tabJ : List (Nat × St) → Nat → St
  | [], _ => []
  | (k, s) :: r, m => if k = m then s else tabJ r m
def putB (n : Nat) : Option Blk → St → St
  | some b, r => .blk n b :: r
  | none, r => r
def cleanG (st : St) : St → St
  | [] => []
  | .slot t _ :: r => .slot t (getS st t) :: cleanG st r
  | .blk n _ :: r => putB n (getB st n) (cleanG st r)
  | .kill _ :: r => cleanG st r
def AllGo (Γ : Models) (γ0 : Nat → Option Nat) (w0 : World) (N : Nat) (l : List Oper) (id : Nat) (st0 : St) (Q : Exit → Act → World → Prop) (tab : List (Nat × St)) : Prop := W Tryz.prog γ0 w0 N st0 (.region id l.toArray true) Q
section
variable {Γ : Models} {γ0 : Nat → Option Nat} {w0 : World} {N : Nat} {Q : Exit → Act → World → Prop} {l : List Oper} {id : Nat} {st0 : St} {tab : List (Nat × St)}
theorem AllGo.start (hΓ : GSound Tryz.prog Γ) (h : AllGo Γ γ0 w0 N l id st0 Q [(0, st0)]) : W Tryz.prog γ0 w0 N st0 (.region id l.toArray true) Q := h
theorem AllGo.add {tab' : List (Nat × St)} {stm st' st2 : St} {o : Oper} (m i : Nat) (ho : l[i]? = some o := by rfl) (hm : tabJ tab m = stm := by simp only [tabJ, eq_self, Nat.reduceEqDiff, reduceIte] <;> rfl) (hs : stepO Tryz.prog Γ N stm o.dst o.op = some st' := by exact evsP)
    (hc : cleanG st' st' = st2 := by simp only [cleanG]; simp (config := { maxSteps := 1000000 }) (disch := first | assumption | omega) only [TY, ar_u64, binE, eqCells, eqVal, eqOp, step_mk, makeE, List.toList_toArray, Value.oneCell', step_fnv, step_makeFunc, ev_func, callV, cells_agg, cells_int, cells_bool, cells_str, cells_sl, List.size_toArray, flatB_nil, flatB_cons, wid_nil, wid_cons, rowsF_len, rowsF_flat, rowsF_app, step_build, buildE, fillE, indexSlE, indexArrE, shiftE, indexArrV, indexStE, step_move, step_assign, step_pick, step_load, step_nilCheck, step_binOp, step_unOp, step_convert, step_slice, step_fieldAddr, step_field, step_indexAddr, step_index, step_extract, step_len, step_min, step_max, step_alloc, step_box, step_lit, step_app, step_fn, step_store, putV_some, getS_hit, getS_miss, getS_blk, getS_kill, getS_nil, getB_nil, getB_slot, getB_hit, getB_miss, getB_kill0, getB_kill1, ev_tmp, ev_int, ev_bool, ev_str, ev_nil, ev_agg, cl_int, cl_bool, cl_str, cl_nil, loadE, loadV, fieldAddrE, fieldE, partV, indexAddrE, lenE, lenO, strIdx, indexE, boundE, subE, sliceE, convE, minE, scal, nilE, tupE, capsE, optE, pickE, pbin, pint, pstr, pun, ar_in, ar_u32, ar_u8, allocE, boxE, litE, rowsO, leafO, leafsO, frz, clr, rowsOf, flB, Fl.and, Fl.nst, Fl.ok, Fl.isFl, noRef, nstOk, flatAt, hasAll, absL, appN, Fl.isNd, asN, storeN, Nat.reduceBNe, destOf, appE, storeE, argO, argsO, boxesO, callG, callE, impE, pvR, pvs, pvRL, pvT, owns, ownsT, ownsR, clrL, withB, PV.kill, PL.kill, PL.names, Blk.kill, PL.live, toPL, resV, resO, compsO, compO, rlsO, rlO, toRes, Leaf.isSc, List.map_cons, List.map_nil, List.all_cons, List.all_nil, List.length_cons, List.length_nil, List.drop_zero, List.drop_succ_cons, List.take_succ_cons, List.take_zero, List.drop_nil, List.take_nil, List.getElem?_cons_zero, List.getElem?_cons_succ, List.getElem?_nil, Option.map_some, Option.map_none, Option.bind_some, Option.isSome_some, Option.isSome_none, List.cons_append, List.nil_append, List.append_nil, if_true, if_false, reduceIte, Nat.reduceLT, Nat.reduceBEq, Nat.reduceLeDiff, Nat.reduceEqDiff, Nat.reduceAdd, Nat.reduceMul, Nat.zero_add, Nat.add_zero, Nat.mul_one, Int.reduceToNat, Bool.and_true, Bool.true_and, Bool.false_and, Bool.and_false, Bool.not_true, Bool.not_false, Bool.false_eq_true, decide_true, decide_false, and_self, and_true, true_and, or_true, true_or, or_false, false_or, if_pos, if_neg, Int.toNat_natCast, decide_eq_true, decide_eq_false, look_hit, look_miss, Int.ofNat_eq_natCast, Bool.or_false, Bool.or_true, Bool.true_or, Bool.false_or, Bool.not_eq_true, beq_self_eq_true, ne_eq, not_false_eq_true, not_true_eq_false, eq_self, *]; (try simp only [putB]); rfl) (ht : tab ++ [(m + 2 ^ i, st2)] = tab' := by simp only [List.cons_append, List.nil_append, Nat.reduceAdd, Nat.reducePow]; rfl) (h : AllGo Γ γ0 w0 N l id st0 Q tab') : AllGo Γ γ0 w0 N l id st0 Q tab := h
theorem AllGo.done {stE : St} (hΓ : GSound Tryz.prog Γ) (ps : List (Nat × Nat)) (hp : prs l = ps) (hD : dirB l = true) (h0 : tabJ tab 0 = st0) (hS : ∀ x ∈ ps, StepAt Tryz.prog Γ N l (tabJ tab) x) (hE : tabJ tab (2 ^ l.length - 1) = stE) (hT : WL Tryz.prog γ0 w0 N l.toArray [] stE Q) : AllGo Γ γ0 w0 N l id st0 Q tab := by
  subst hE
  exact W.allC follows_mixed hΓ (tabJ tab) h0 hD (fun x hx => hS x (hp ▸ hx)) hT
theorem StepAt.mk' {J : Nat → St} {m i : Nat} {o : Oper} {stm st' stn : St} (ho : l[i]? = some o) (hg : o.guard = none) (hm : J m = stm) (hn : J (m + 2 ^ i) = stn) (hs : stepO Tryz.prog Γ N stm o.dst o.op = some st') (hb : Sub stn st') : StepAt Tryz.prog Γ N l J (m, i) :=
  ⟨o, st', ho, hg, by rw [hm]; exact hs, by rw [hn]; exact hb⟩
end
end Go.Proofs.YtfgkfcfplodaoaaGreatDoor

end
section
namespace Go.Proofs.YtfgkfcfplodaoaaGreatDoor
open Go Go.RowKit
section
variable {P : Program} {γ0 : Nat → Option Nat} {w0 : World} {N : Nat} {st : St} {a : Act} {w : World} {η : Nat → Value} {γ : Nat → Option Nat} {Q : Exit → Act → World → Prop}
section
variable {α : Type} {enc : α → List Value} {k : Nat}
theorem flat_lenK (hk : ∀ x, (enc x).length = k) (l : List α) : ((l.map enc).flatten).length = l.length * k := by
  have := flatten_len (s := k) (rows := l.map enc) (fun row hr => by
    obtain ⟨x, _, rfl⟩ := List.mem_map.1 hr
    exact hk x)
  simpa using this
end
theorem scs_eq {l : List Value} {us : List Value} (h : RepLs w γ (l.map Leaf.sc) us) : us = l ∧ ∀ v ∈ l, v.oneCell' = true := by
  obtain ⟨h1, h2⟩ := h
  rw [List.length_map] at h1
  have key : ∀ j (v : Value), l[j]? = some v → us[j]? = some v ∧ v.oneCell' = true := fun j v hj => by
    obtain ⟨u, h3, h4⟩ := h2 j (.sc v) (by rw [List.getElem?_map, hj]; rfl)
    cases h4 with
    | sc h5 => exact ⟨h3, h5⟩
  refine ⟨List.ext_getElem? fun j => ?_, fun v hv => ?_⟩
  · cases hj : l[j]? with
    | some v => exact (key j v hj).1
    | none =>
      rw [List.getElem?_eq_none_iff] at hj ⊢
      omega
  · obtain ⟨j, hj⟩ := List.mem_iff_getElem?.1 hv
    exact (key j v hj).2
theorem scs_rep {l : List Value} (h : ∀ v ∈ l, v.oneCell' = true) : RepLs w γ (l.map Leaf.sc) l := by
  refine ⟨by simp, fun j x hj => ?_⟩
  rw [List.getElem?_map] at hj
  obtain ⟨u, h1, rfl⟩ := Option.map_eq_some_iff.1 hj
  exact ⟨u, h1, .sc (h u (List.mem_of_getElem? h1))⟩
theorem rowsF_flatten {α : Type} (f : α → List Value) (l : List α) : (rowsF f l).flatten = ((l.map f).flatten).map Leaf.sc := by
  unfold rowsF
  induction l with
  | nil => rfl
  | cons x l ih => simp [ih]
theorem At.retCut {fn : Func} {b cap t m : Nat} {cur0 : Array Value} {α : Type} {enc : α → List Value} {e s : Nat} {fl : Fl} {rows : List (List Leaf)} (l' : List α) (hs : 0 < s) (hN : N ≤ 999) (hfn : fn.results.toList = [.tmp t]) (hh : w0.heap[b]? = some (.cells cur0 e (0, 0))) (hsz : cur0.size = cap * s) (hl : 0 < rows.length)
    (ht : (getS st t = one (.all 999) ∧ m = rows.length) ∨ getS st t = one (.ref 999 0 m)) (hb : getB st 999 = some (.arr fl e s rows)) (hm : rows.take m = rowsF enc l') (hml : m ≤ rows.length) :
    At (own1 b) w0 N st .ret (bodyPost P fn fun e' w' => e' = .returned (.slice (some ⟨b, 0, none⟩) l'.length cap) ∧
      ∃ cur' : Array Value, Below w0.heap.size (putO w0 b (.cells cur' e (0, 0))) w' ∧ cur'.size = cap * s ∧ cur'.toList.take (l'.length * s) = (l'.map enc).flatten) := by
  intro a w ⟨η, γ, h⟩
  have hl' : l'.length = m := by rw [← rowsF_len enc l', ← hm, List.length_take]; omega
  obtain ⟨xs, ⟨ho1, ho2⟩, hr, hw, _, _⟩ := h.blks 999 _ hb
  have hη : ∃ cur, η 999 = .slice (some ⟨b, 0, none⟩) rows.length cap ∧ w.heap[b]? = some (.cells cur e (0, 0)) ∧ cur.size = cap * s ∧ cur.toList.take (rows.length * s) = xs := by
    rcases h.pinA hN fl e s _ hb with ⟨_, h1⟩ | ⟨b0, cap0, h1, h2, h3⟩
    · omega
    · have hb0 := own1_some h2
      subst hb0
      have hc0 : cap0 = cap := by
        simp only [szB, hh, Option.some.injEq] at h3
        rw [hsz] at h3
        exact (Nat.eq_of_mul_eq_mul_right hs h3).symm
      subst hc0
      rcases ho2 with ⟨ho, _⟩ | ⟨b1, cap1, cur, ho, _, q1, q2, q3, q4, q5⟩
      · rw [h1] at ho; cases ho
      · rw [h1] at ho
        cases ho
        exact ⟨cur, h1, q1, q4, q5⟩
  obtain ⟨cur, hη, g1, g2, g3⟩ := hη
  have hval : a.tmps.getD t undef = .slice (some ⟨b, 0, none⟩) m cap := by
    have h0 := h.slots t
    rcases ht with ⟨ht, rfl⟩ | ht
    · rw [ht] at h0
      have := (RepV.one_iff.1 h0).1
      rw [this, hη]
    · rw [ht] at h0
      obtain ⟨fl1, e1, s1, rows1, k1, k2, k3⟩ := RepV.one_iff.1 h0
      rw [hb] at k1
      cases k1
      rcases k3 with ⟨k3, _⟩ | ⟨b2, c2, cap2, k3, k4, k5, k6, k7⟩
      · rw [hη] at k3; cases k3
      · rw [hη] at k3
        cases k3
        rw [k4, Nat.zero_mul]
        rw [Nat.add_zero] at k7
        rw [k7]
  refine ⟨h.defers, .slice (some ⟨b, 0, none⟩) m cap, ?_, by rw [hl'], cur, ?_, g2, ?_⟩
  · unfold results
    have hfn' : fn.results = #[.tmp t] := by
      have := congrArg List.toArray hfn
      simpa using this
    rw [hfn']
    rw [Array.getD_eq_getD_getElem?] at hval
    simp [hval]
  · refine ⟨h.os, h.tape, h.output, by rw [putO_size]; exact h.size, fun k hk => ?_⟩
    by_cases ek : k = b
    · subst ek
      rw [putO_same _ hk]
      exact g1
    · rw [putO_other _ ek]
      exact (h.low k hk (own1_other ek)).2
  · have e1 : cur.toList.take (m * s) = xs.take (m * s) := by
      rw [← g3, List.take_take, Nat.min_eq_left (Nat.mul_le_mul_right _ hml)]
    have e2 := hr.take (m * s)
    rw [← take_rows hw hml, hm, rowsF_flatten] at e2
    rw [hl', e1]
    exact (scs_eq e2).1
theorem zeroCells_len (z : Array Value) (n : Nat) : (Builtin.zeroCells z n).toList.length = n * z.size := by simp [Builtin.zeroCells]
theorem zeroCells_rep (z : Array Value) (n : Nat) : (Builtin.zeroCells z n).toList = (List.replicate n z.toList).flatten := by
  have hl : (List.replicate n z.toList).flatten.length = n * z.size := by rw [List.length_flatten]; simp
  refine List.ext_getElem? fun i => ?_
  by_cases hi : i < n * z.size
  · have hz : 0 < z.size := Nat.pos_of_ne_zero fun e => by rw [e] at hi; simp at hi
    have hm : i % z.size < z.size := Nat.mod_lt _ hz
    have hd : i / z.size < n := Nat.div_lt_of_lt_mul (by rw [Nat.mul_comm]; exact hi)
    have h1 := flatten_row (s := z.size) (rows := List.replicate n z.toList) (fun row hr => by rw [List.eq_of_mem_replicate hr]; simp) (i := i / z.size) (row := z.toList) (by simp [hd]) (i % z.size) hm
    rw [Nat.div_add_mod' i z.size] at h1
    rw [h1]
    simp [Builtin.zeroCells, hi, hm]
  · rw [List.getElem?_eq_none (by rw [zeroCells_len]; omega), List.getElem?_eq_none (by rw [hl]; omega)]
theorem zeroCells_one {z : Array Value} {n : Nat} (h : ∀ v ∈ z.toList, v.oneCell' = true) : ∀ v ∈ (Builtin.zeroCells z n).toList, v.oneCell' = true := by
  intro v hv
  simp only [Builtin.zeroCells, Array.toList_map, List.mem_map] at hv
  obtain ⟨i, hi, rfl⟩ := hv
  have hi : i < n * z.size := by simpa using hi
  have hz : 0 < z.size := Nat.pos_of_ne_zero fun e => by rw [e] at hi; simp at hi
  have hm : i % z.size < z.size := Nat.mod_lt _ hz
  rw [getElem!_pos z _ hm]
  exact h _ (by simp)
theorem run_clear {P : Program} {w : World} {t ty e s : Nat} {z : Value} (he : elT P t = some e) (hz : zeroT P e = some z) (hzs : z.cells.size = s) (h1 : ∀ v ∈ z.cells.toList, v.oneCell' = true) {b o n c : Nat} {cur : Array Value} {tt : TypeId} (hn : 0 < n) (hh : w.heap[b]? = some (.cells cur tt (0, 0))) (hf : o + n * s ≤ cur.size) :
    (Builtin.clear_ #[t] ty #[.slice (some ⟨b, o, none⟩) n c]).run P w = .ok (.tuple #[]) (w.setRow b (cur.toList.take o ++ (Builtin.zeroCells z.cells n).toList ++ cur.toList.drop (o + n * s)).toArray) := by
  have hlen := zeroCells_len z.cells n
  rw [hzs] at hlen
  have hst := run_storeCells_at P b o tt (Builtin.zeroCells z.cells n).toList 0 cur w hh (by rw [hlen]; simpa using hf) (zeroCells_one h1)
  rw [hlen] at hst
  simp only [Nat.add_zero] at hst
  have hzv : ∀ w, (zeroValue e).run P w = .ok z w := fun w => by
    obtain ⟨i, hi, hz'⟩ := Option.bind_eq_some_iff.1 hz
    simp [zeroValue, typeInfo, hi, hz']
  obtain ⟨m, rfl⟩ : ∃ m, n = m + 1 := ⟨n - 1, by omega⟩
  simp [Builtin.clear_, run_underlying (elT_sound he), hzv, hst]
theorem WL.opClear {ops : Array Oper} {r : List Oper} {n off len : Nat} {x0 : Operand} {t : TypeId} {ty : TypeId} {pos : String} {after : Array Edge} {s e : Nat} {z : Value} {zs : List Value} {fl : Fl} {rows : List (List Leaf)}
    (hp : ev st x0 = one (.ref n off len)) (hl : 0 < len) (hb : getB st n = some (.arr fl e s rows)) (hol : off + len = rows.length) (he : elT P t = some e) (hz : zeroT P e = some z) (hzs : z.cells.toList = zs) (hzl : zs.length = s) (h1 : ∀ v ∈ zs, v.oneCell' = true) (hs : 0 < s) (hns : fl.nst = false := by rfl)
    (h : ∀ rows', rows'.length = rows.length → rows'.take off = rows.take off → WL P γ0 w0 N ops r (.blk n (.arr .no e s rows') :: st) Q) :
    WL P γ0 w0 N ops (⟨none, .call ⟨.builtin .clear, #[x0], #[t]⟩, ty, pos, after, none⟩ :: r) st Q := fun a w hR => by
  subst hzs
  refine wpList_plain rfl fun K hK => ?_
  obtain ⟨η, γ, hI⟩ := hR
  have h0 := ev_sound hI x0
  rw [hp] at h0
  obtain ⟨fl1, e1, s1, rows1, k1, k2, k3⟩ := RepV.one_iff.1 h0
  rw [hb] at k1
  cases k1
  obtain ⟨xs, ⟨ho1, ho2⟩, hr, hw, hgo, hff⟩ := hI.blks n _ hb
  rw [vw_of hns] at hr
  rcases k3 with ⟨_, _, hz0⟩ | ⟨b, c, cap, k3, k4, k5, k6, k7⟩
  · omega
  rcases ho2 with ⟨ho, _⟩ | ⟨b1, cap1, cur, ho, _, q1, q2, q3, q4, q5⟩
  · rw [ho] at k3; cases k3
  rw [ho] at k3
  cases k3
  have hgb : γ b = some n := hgo b (by rw [ho]; rfl)
  have hzs : z.cells.size = s := by rw [← Array.length_toList]; exact hzl
  have hm : (off + len) * s ≤ c * s := Nat.mul_le_mul_right _ (by omega)
  rw [Nat.add_mul] at hm
  have hrun := run_clear (P := P) (w := w) (t := t) (ty := ty) (n := len) (c := cap) (o := off * s) he hz hzs h1 hl q1 (by omega)
  rw [← k4] at hrun
  rw [zeroCells_rep] at hrun
  have hzr := scs_rep (w := w.setRow b (cur.toList.take (off * s) ++ (List.replicate len z.cells.toList).flatten ++ cur.toList.drop (off * s + len * s)).toArray) (γ := γ) (l := (List.replicate len z.cells.toList).flatten) (fun v hv => by
    obtain ⟨row, hr1, hr2⟩ := List.mem_flatten.1 hv
    rw [List.eq_of_mem_replicate hr1] at hr2
    exact h1 v hr2)
  have hrl : ((List.replicate len (z.cells.toList.map Leaf.sc)).flatten) = ((List.replicate len z.cells.toList).flatten).map Leaf.sc := by
    rw [List.map_flatten, List.map_replicate]
  have hwt : ∀ row ∈ rows.take off, row.length = s := fun row hr => hw row (List.mem_of_mem_take hr)
  have hft : (rows.take off).flatten = rows.flatten.take (off * s) := by
    have e1 := flatten_len hwt
    have e2 : (rows.take off).flatten.length = off * s := by rw [e1, List.length_take]; congr 1; omega
    conv => rhs; rw [← List.take_append_drop off rows, List.flatten_append, ← e2, List.take_left]
  have hwid : ∀ row ∈ rows.take off ++ List.replicate len (z.cells.toList.map Leaf.sc), row.length = s := fun row hr => by
    rcases List.mem_append.1 hr with hr | hr
    · exact hwt row hr
    · rw [List.eq_of_mem_replicate hr, List.length_map, hzl]
  have hlen' : (rows.take off ++ List.replicate len (z.cells.toList.map Leaf.sc)).length = rows.length := by
    rw [List.length_append, List.length_take, List.length_replicate]; omega
  have hxl : xs.length = rows.length * s := ho1
  have hms : rows.length * s = off * s + len * s := by rw [← hol, Nat.add_mul]
  have hxt : (xs.take (off * s)).length = off * s := by rw [List.length_take]; omega
  have hzfl : (List.replicate len z.cells.toList).flatten.length = len * s := by rw [List.length_flatten]; simp [hzl]
  have hct : cur.toList.take (off * s) = xs.take (off * s) := by
    rw [← q5, List.take_take, Nat.min_eq_left (by omega)]
  have hcz : cur.toList.length = cur.size := by simp
  refine wp_value (u := .tuple #[]) (w' := w.setRow b (cur.toList.take (off * s) ++ (List.replicate len z.cells.toList).flatten ++ cur.toList.drop (off * s + len * s)).toArray) (by unfold execOp; simp [resolve, invoke, builtin, hrun]) (hK _ _ (h (rows.take off ++ List.replicate len (z.cells.toList.map Leaf.sc)) hlen' (by rw [List.take_append_of_le_length (by rw [List.length_take]; omega), List.take_take, Nat.min_self]) _ _ ⟨η, γ, ?_⟩))
  refine hI.turn n _ _ hb b hgb _ ⟨rfl, rfl, hlen', fun e' => by rw [hns] at e'; cases e'⟩ fun hn hk => ⟨xs.take (off * s) ++ (List.replicate len z.cells.toList).flatten, ⟨by rw [List.length_append, hxt, hzfl, hlen', hms], .inr ⟨b, c, _, by rw [hlen']; exact ho, Nat.zero_le _, setRow_heap w b cur _ e _ q1, by rw [hlen']; exact q2, q3, by
      simp only [List.size_toArray, List.length_append, List.length_take, List.length_drop, hzfl, hcz]
      omega, by
      rw [List.toList_toArray, hlen', hct, List.take_append_of_le_length (by rw [List.length_append, hxt, hzfl]; omega), List.take_of_length_le (by rw [List.length_append, hxt, hzfl]; omega)]⟩⟩, ?_, hwid, hgo, ⟨fun hf => (by cases hf), fun hf => (by cases hf), fun _ _ hf => (by cases hf)⟩⟩
  rw [vw_of rfl, List.flatten_append, hrl, hft]
  refine RepLs.append ?_ hzr
  refine RepLs.kp hk ⟨by rw [List.length_take, List.length_take, hr.1], fun j x hj => ?_⟩
  rw [List.getElem?_take] at hj ⊢
  split at hj
  · rename_i hlt
    rw [if_pos hlt]
    exact hr.2 j x hj
  · cases hj
end
def idxP {α : Type} (p : α → Bool) (l : List α) : Int := if l.findIdx p < l.length then (l.findIdx p : Int) else -1
theorem idxP_at {α : Type} {p : α → Bool} {l : List α} {k : Nat} (hk : k < l.length) (hn : ∀ j, (h : j < k) → p l[j] = false) (hx : p l[k] = true) : idxP p l = k := by
  have : l.findIdx p = k := (List.findIdx_eq hk).2 ⟨hx, fun j hj => hn j hj⟩
  unfold idxP
  rw [this, if_pos hk]
theorem idxP_no {α : Type} {p : α → Bool} {l : List α} (hn : ∀ j, (h : j < l.length) → p l[j] = false) : idxP p l = -1 := by
  unfold idxP
  rw [if_neg]
  intro h
  have h1 := List.findIdx_getElem (p := p) (w := h)
  rw [hn _ h] at h1
  cases h1
end Go.Proofs.YtfgkfcfplodaoaaGreatDoor

end
