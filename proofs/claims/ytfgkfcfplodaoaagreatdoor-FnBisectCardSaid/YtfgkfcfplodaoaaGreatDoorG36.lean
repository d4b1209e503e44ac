/-
  Put together: PEvMid PEvDrC.
-/
import Derived.Test.YtfgkfcfplodaoaaGreatDoorHPEvOne
import Derived.Test.YtfgkfcfplodaoaaGreatDoorG13
import Derived.Test.YtfgkfcfplodaoaaGreatDoorG35
section
/-!
  A region that draws its order: among free operations one appends to an empty row that the region has made.
-/
namespace Go.Proofs.YtfgkfcfplodaoaaGreatDoor
set_option maxRecDepth 100000
set_option linter.unusedVariables false
set_option linter.unusedSimpArgs false
open Go Go.RowKit
set_option linter.unusedVariables false

/-- the entries that neither follow the special one nor are the one at k -/
def maskK (As : List (List Nat)) (x k : Nat) : Nat → List (List Entry) → List (List Entry)
  | _, [] => []
  | i, E :: r => (if i = x ∨ i = k ∨ (ancO As i).contains x = true then [] else E) :: maskK As x k (i + 1) r
theorem maskK_get (As : List (List Nat)) (x k : Nat) : ∀ (i : Nat) (Es : List (List Entry)) (j : Nat), i + j ≠ x → i + j ≠ k → x ∉ ancO As (i + j) → (maskK As x k i Es)[j]? = Es[j]?
  | i, [], j, _, _, h => rfl
  | i, E :: r, 0, h1, h2, h => by
    unfold maskK
    rw [if_neg (by rintro (e | e | e); exact h1 (by omega); exact h2 (by omega); exact h (by simpa using e))]
    rfl
  | i, E :: r, j + 1, h1, h2, h => by
    unfold maskK
    rw [List.getElem?_cons_succ, List.getElem?_cons_succ]
    exact maskK_get As x k (i + 1) r j (by omega) (by omega) (by rw [show i + 1 + j = i + (j + 1) by omega]; exact h)
/-- all entries are there but the special one and perhaps some that lie ahead of it -/
def neK (As : List (List Nat)) (x k : Nat) : Nat → List (List Entry) → Bool
  | _, [] => true
  | i, E :: r => (if i = x ∨ i = k then E.isEmpty else ((ancO As x).contains i || !E.isEmpty)) && neK As x k (i + 1) r
theorem neK_get (As : List (List Nat)) (x k : Nat) : ∀ (i : Nat) (Es : List (List Entry)) (_ : neK As x k i Es = true) (j : Nat) (E : List Entry), Es[j]? = some E → ((i + j = x ∨ i + j = k) → E = []) ∧ (i + j ≠ x → i + j ≠ k → i + j ∉ ancO As x → E ≠ [])
  | i, [], _, j, E, h => by simp at h
  | i, E0 :: r, hn, 0, E, h => by
    simp only [neK, Bool.and_eq_true] at hn
    simp only [List.getElem?_cons_zero, Option.some.injEq] at h
    subst h
    refine ⟨fun e => ?_, fun e e1 e2 => ?_⟩
    · have := hn.1
      rw [if_pos (by simpa using e)] at this
      simpa using this
    · have := hn.1
      rw [if_neg (by rintro (e3 | e3); exact e (by omega); exact e1 (by omega))] at this
      intro e3
      subst e3
      simp at this
      exact e2 this
  | i, E0 :: r, hn, j + 1, E, h => by
    simp only [neK, Bool.and_eq_true] at hn
    have := neK_get As x k (i + 1) r hn.2 j E (by simpa using h)
    rw [show i + 1 + j = i + (j + 1) by omega] at this
    exact this
def plsNo (q : Nat) (ls : List PL) : Bool := ls.all fun l => !l.names q
def pvNo (q : Nat) : PV → Bool
  | .comp _ ls => plsNo q ls
  | .tup vs => vs.all fun v => plsNo q v.2
/-- the entries do not speak of q -/
def entNo (q : Nat) : List Entry → Bool
  | [] => true
  | .slot _ v :: r => pvNo q v && entNo q r
  | .blk n (.box ls) :: r => plsNo q ls && entNo q r
  | .blk n (.arr _ _ _ _) :: r => entNo q r
  | .kill _ :: _ => false
theorem plsNo_kill {q : Nat} : ∀ {ls : List PL} (_ : plsNo q ls = true), ls.map (PL.kill q) = ls
  | [], _ => rfl
  | l :: r, h => by
    unfold plsNo at h
    rw [List.all_cons, Bool.and_eq_true] at h
    rw [List.map_cons, plsNo_kill (ls := r) h.2]
    congr 1
    unfold PL.kill
    rw [if_neg (by have := h.1; simpa using this)]
theorem pvNo_kill {q : Nat} {v : PV} (h : pvNo q v = true) : v.kill q = v := by
  cases v with
  | comp g ls => simp only [PV.kill, plsNo_kill (show plsNo q ls = true from h)]
  | tup vs =>
    simp only [PV.kill]
    congr 1
    refine (List.map_congr_left fun v hv => ?_).trans (List.map_id _)
    have := List.all_eq_true.1 h v hv
    rw [plsNo_kill this]
    rfl
theorem entNo_S {q t : Nat} : ∀ {E : List Entry} (_ : entNo q E = true) (_ : hasS E t = true), (getS E t).kill q = getS E t
  | [], _, h => by cases h
  | .slot s v :: r, h, ht => by
    simp only [entNo, Bool.and_eq_true] at h
    simp only [getS]
    split
    · exact pvNo_kill h.1
    · rename_i hne
      refine entNo_S h.2 ?_
      simp only [hasS, Bool.or_eq_true, beq_iff_eq] at ht
      exact ht.resolve_left hne
  | .blk n (.box ls) :: r, h, ht => by
    simp only [entNo, Bool.and_eq_true] at h
    exact entNo_S (E := r) h.2 ht
  | .blk n (.arr _ _ _ _) :: r, h, ht => entNo_S (E := r) h ht
  | .kill _ :: _, h, _ => by cases h
theorem entNo_B {q n : Nat} : ∀ {E : List Entry} (_ : entNo q E = true), (getB E n).map (Blk.kill q) = getB E n
  | [], _ => rfl
  | .slot s v :: r, h => by
    simp only [entNo, Bool.and_eq_true] at h
    exact entNo_B (E := r) h.2
  | .blk m (.box ls) :: r, h => by
    simp only [entNo, Bool.and_eq_true] at h
    simp only [getB]
    split
    · simp only [Option.map_some, Blk.kill, plsNo_kill h.1]
    · exact entNo_B h.2
  | .blk m (.arr _ _ _ _) :: r, h => by
    simp only [getB]
    split
    · rfl
    · exact entNo_B (E := r) h
  | .kill _ :: _, h => by cases h

section
variable {P : Program} {Γ : Models} {γ0 : Nat → Option Nat} {w0 : World} {N : Nat} {Q : Exit → Act → World → Prop} {l : List Oper} {As : List (List Nat)} {st0 : St}
/-- a region that draws its order: the x-th operation appends to the row q, which the k-th one made; the others up to p are free, then a tail -/
theorem W.midC (hm : P.follows .mixedOrders = true) (hΓ : GSound P Γ) {id : Nat} (p x k : Nat) (As : List (List Nat)) {d q dq t0 t1 : Nat} {t : TypeId} {ty : TypeId} {pos : String} {after : Array Edge} {v1 : PV} {b1 bq : Blk}
    {EsA EsB : List (List Entry)} {restA rest : List Oper}
    (h : chk l p As = true) (hxp : x < p) (hoX : l[x]? = some ⟨some d, .call ⟨.builtin .append, #[.tmp t0, .tmp t1], #[t, t]⟩, ty, pos, after, none⟩) (hN : d < N)
    (hfA : FlowX P Γ N l.toArray As st0 0 l [] EsA restA) (hpA : p + restA.length = l.length) (hdA : distB EsA = true) (hfrA : freeB st0 EsA = true) (hneA : neM As x 0 EsA = true)
    (hk : EsA[k]? = some [.slot dq (one (.all q)), .blk q bq]) (hka : k ∈ ancO As x) (hkx : k ≠ x)
    (ht0 : getS (pickE' EsA 0 (inL (ancO As x)) st0) t0 = one (.all q)) (ht1 : getS (pickE' EsA 0 (inL (ancO As x)) st0) t1 = v1)
    (happ : ∀ st, getS st t0 = one (.all q) → getS st t1 = v1 → getB st q = some bq → appE P st d t (.tmp t0) (.tmp t1) = some (.slot d (one (.all q)) :: .blk q b1 :: .kill q :: st))
    (hdq : d ≠ dq)
    (hfB : FlowX P Γ N l.toArray As (.slot d (one (.all q)) :: .blk q b1 :: .slot dq (one .dead) :: .kill q :: st0) 0 l [] EsB rest) (hpB : p + rest.length = l.length) (hdB : distB EsB = true) (hfrB : freeB (.slot d (one (.all q)) :: .blk q b1 :: .slot dq (one .dead) :: .kill q :: st0) EsB = true)
    (hneB : neK As x k 0 EsB = true) (hmask : maskK As x k 0 EsB = maskK As x k 0 EsA) (hnoA : (EsA.all fun E => entNo q E || hasB E q) = true) (hno : (EsB.all fun E => !hasS E d && !hasS E dq) = true)
    (hT : WL P γ0 w0 N l.toArray rest (pickE' EsB 0 (fun _ => true) (.slot d (one (.all q)) :: .blk q b1 :: .slot dq (one .dead) :: .kill q :: st0)) Q) :
    W P γ0 w0 N st0 (.region id l.toArray true) Q := fun a w hR => by
  have hpl : p ≤ l.length := by omega
  obtain ⟨sA, -⟩ := flowX_all h hfA hpA hdA hfrA
  obtain ⟨sB, hrest⟩ := flowX_all h hfB hpB hdB hfrB
  refine wp_region_any hm ?_
  obtain ⟨η, γ, hI⟩ := hR
  have hR' : R γ0 w0 N st0 a w.drew := ⟨η, γ, hI.world w.drew rfl rfl rfl rfl⟩
  have hL0 : ∀ i, L (Array.replicate l.toArray.size false) i = false := fun i => by
    unfold L
    simp only [Array.getD_eq_getD_getElem?, Array.getElem?_replicate]
    split <;> rfl
  have hpick : pickE' EsA 0 (L (Array.replicate l.toArray.size false)) st0 = st0 := pick_none EsA 0 (fun j => hL0 _) st0
  generalize hst1 : (Entry.slot d (one (.all q)) :: .blk q b1 :: .slot dq (one .dead) :: .kill q :: st0) = stB at *
  refine draw_one (β := Unit) (EsB := fun _ => EsB) (st1 := fun _ => stB) hΓ h hpl hxp sA (fun _ => sB) (fun i hi hix him he => ?_) (fun _ i hi hix hia he => ?_) ?_ (fun _ a w hR => ?_) _ _ a w.drew (by simp) (fun i o _ hL => by rw [hL0] at hL; cases hL) (fun i hL => by rw [hL0] at hL; cases hL) ?_ (fun _ => by rw [hpick]; exact hR') (fun hL => by rw [hL0] at hL; cases hL)
  · exact neM_get As x 0 _ hneA i [] he (by omega) (by rw [Nat.zero_add]; exact him) rfl
  · exact (neK_get As x k 0 _ hneB i [] he).2 (by omega) (by rw [Nat.zero_add]; intro e; exact hia (e ▸ hka)) (by rw [Nat.zero_add]; exact hia) rfl
  · intro listed listed' hset hLx hlook hdesc hlist a w K hR hK
    have hop : ∀ s, s = t0 ∨ s = t1 → Operand.tmp s ∈ (Op.call ⟨.builtin .append, #[.tmp t0, .tmp t1], #[t, t]⟩).operands.toList := by
      rintro s (rfl | rfl) <;> simp [Op.operands, Call.operands]
    have hsl : ∀ s, s = t0 ∨ s = t1 → getS (pickE' EsA 0 (L listed) st0) s = getS (pickE' EsA 0 (inL (ancO As x)) st0) s := fun s hs =>
      (hlook s _ hoX (by
        unfold Oper.looksAt
        exact List.mem_append_left _ (List.mem_filterMap.2 ⟨.tmp s, hop s hs, rfl⟩))).symm
    have hLk : L listed k = true := by
      have hox : l[x]? = some l[x] := List.getElem?_eq_getElem (by omega)
      exact hlist k hka
    have hbq : getB (pickE' EsA 0 (L listed) st0) q = some bq := by
      rw [pick_B_some EsA 0 _ st0 sA.dist k _ hk (by rw [Nat.zero_add]; exact hLk) (by simp [hasB])]
      simp [getB]
    have happ' := happ _ ((hsl t0 (.inl rfl)).trans ht0) ((hsl t1 (.inr rfl)).trans ht1) hbq
    unfold wpOp
    have hget : l.toArray[x]? = some ⟨some d, .call ⟨.builtin .append, #[.tmp t0, .tmp t1], #[t, t]⟩, ty, pos, after, none⟩ := by simpa using hoX
    rw [hget]
    simp only
    rw [if_pos (by simp [Region.wanted])]
    left
    refine stepO_sound (Γ := Γ) hΓ hR (o := ⟨some d, .call ⟨.builtin .append, #[.tmp t0, .tmp t1], #[t, t]⟩, ty, pos, after, none⟩) (st' := .slot d (one (.all q)) :: .blk q b1 :: .kill q :: pickE' EsA 0 (L listed) st0) ?_ fun a' w' hR2 => ?_
    · show (if t = t ∧ d < N then _ else none) = _
      rw [if_pos ⟨rfl, hN⟩]
      exact happ'
    have hxA : ∀ E, EsA[x]? = some E → True := fun _ _ => trivial
    -- the entries of the two, one by one
    have hAB : ∀ j, L listed j = true → j ≠ k → EsA[j]? = EsB[j]? := fun j hj hjk => by
      have hjx : j ≠ x := fun e => by rw [e, hLx] at hj; cases hj
      have hd := hdesc j hj
      have e1 := maskK_get As x k 0 EsA j (by omega) (by omega) (by rw [Nat.zero_add]; exact hd)
      have e2 := maskK_get As x k 0 EsB j (by omega) (by omega) (by rw [Nat.zero_add]; exact hd)
      rw [← e1, ← e2, hmask]
    have hBk : ∀ (j : Nat) E, EsB[j]? = some E → E ≠ [] → j ≠ k ∧ j ≠ x := fun j E hj hne =>
      ⟨fun e => hne ((neK_get As x k 0 _ hneB j E hj).1 (by omega)), fun e => hne ((neK_get As x k 0 _ hneB j E hj).1 (by omega))⟩
    have hL' : ∀ (j : Nat) E, EsB[j]? = some E → E ≠ [] → L listed' (0 + j) = true → L listed j = true := fun j E hj hne hL => by
      rw [Nat.zero_add, hset] at hL
      rwa [if_neg (fun e => (hBk j E hj hne).2 e.symm)] at hL
    have hL2 : ∀ j, L listed j = true → L listed' (0 + j) = true := fun j hj => by
      rw [Nat.zero_add, hset]
      split
      · rfl
      · exact hj
    have hqE : ∀ (j : Nat) E, EsA[j]? = some E → j ≠ k → hasB E q = false := fun j E hj hjk => by
      cases hq : hasB E q with
      | false => rfl
      | true => exact absurd hq (by
          have := (distinct_ne sA.dist hk hj (fun e => hjk e.symm)).2 q (by simp [hasB])
          rw [this]
          simp)
    have hnoE : ∀ (j : Nat) E, EsA[j]? = some E → j ≠ k → entNo q E = true := fun j E hj hjk => by
      have := List.all_eq_true.1 hnoA E (List.mem_of_getElem? hj)
      rw [hqE j E hj hjk, Bool.or_false] at this
      exact this
    refine hK () a' w' (hR2.congr (fun s => ?_) (fun n => ?_))
    · subst hst1
      show (if d = s then one (.all q) else (getS (pickE' EsA 0 (L listed) st0) s).kill q) = _
      by_cases hx : ∃ (j : Nat) (E : List Entry), EsB[j]? = some E ∧ L listed' (0 + j) = true ∧ hasS E s = true
      · obtain ⟨j, E, h1, h2, h3⟩ := hx
        have hj := hL' j E h1 (hasS_ne h3) h2
        obtain ⟨hjk, hjx⟩ := hBk j E h1 (hasS_ne h3)
        have hEA : EsA[j]? = some E := by rw [hAB j hj hjk]; exact h1
        have hnn := List.all_eq_true.1 hno E (List.mem_of_getElem? h1)
        simp only [Bool.and_eq_true, Bool.not_eq_true'] at hnn
        rw [pick_S_some _ 0 _ _ sB.dist j E h1 h2 h3, if_neg (fun e => by rw [e, h3] at hnn; cases hnn.1), pick_S_some _ 0 _ _ sA.dist j E hEA (by rw [Nat.zero_add]; exact hj) h3]
        exact entNo_S (hnoE j E hEA hjk) h3
      · have hn : ∀ (j : Nat) E, EsB[j]? = some E → L listed' (0 + j) = true → hasS E s = false := fun j E h1 h2 => by
          cases h3 : hasS E s with
          | false => rfl
          | true => exact absurd ⟨j, E, h1, h2, h3⟩ hx
        rw [pick_S_none _ 0 _ _ sB.dist hn]
        show _ = (if d = s then one (.all q) else (if dq = s then one .dead else (getS st0 s).kill q))
        by_cases hds : d = s
        · rw [if_pos hds, if_pos hds]
        rw [if_neg hds, if_neg hds]
        by_cases hqs : dq = s
        · rw [if_pos hqs, pick_S_some _ 0 _ _ sA.dist k _ hk (by rw [Nat.zero_add]; exact hLk) (by simp [hasS, hqs])]
          simp only [getS, if_pos hqs]
          simp [one, PV.kill, PL.kill, PL.names]
        · rw [if_neg hqs, pick_S_none EsA 0 _ st0 sA.dist (fun j E hj hL => ?_)]
          rw [Nat.zero_add] at hL
          by_cases hjk : j = k
          · subst hjk
            rw [hk] at hj
            cases hj
            simp [hasS, hqs]
          · rw [hAB j hL hjk] at hj
            exact hn j E hj (hL2 j hL)
    · subst hst1
      show (if q = n then some b1 else if q = n then none else (getB (pickE' EsA 0 (L listed) st0) n).map (Blk.kill q)) = _
      by_cases hx : ∃ (j : Nat) (E : List Entry), EsB[j]? = some E ∧ L listed' (0 + j) = true ∧ hasB E n = true
      · obtain ⟨j, E, h1, h2, h3⟩ := hx
        have hj := hL' j E h1 (hasB_ne h3) h2
        obtain ⟨hjk, hjx⟩ := hBk j E h1 (hasB_ne h3)
        have hEA : EsA[j]? = some E := by rw [hAB j hj hjk]; exact h1
        have hqn : ¬ q = n := fun e => by
          have := sB.free E (List.mem_of_getElem? h1) n h3
          rw [← e] at this
          simp [getB] at this
        rw [pick_B_some _ 0 _ _ sB.dist j E h1 h2 h3, if_neg hqn, if_neg hqn, pick_B_some _ 0 _ _ sA.dist j E hEA (by rw [Nat.zero_add]; exact hj) h3]
        exact entNo_B (hnoE j E hEA hjk)
      · have hn : ∀ (j : Nat) E, EsB[j]? = some E → L listed' (0 + j) = true → hasB E n = false := fun j E h1 h2 => by
          cases h3 : hasB E n with
          | false => rfl
          | true => exact absurd ⟨j, E, h1, h2, h3⟩ hx
        rw [pick_B_none _ 0 _ _ sB.dist hn]
        show _ = (if q = n then some b1 else if q = n then none else (getB st0 n).map (Blk.kill q))
        by_cases hqn : q = n
        · rw [if_pos hqn, if_pos hqn]
        · rw [if_neg hqn, if_neg hqn, if_neg hqn, if_neg hqn, pick_B_none EsA 0 _ st0 sA.dist (fun j E hj hL => ?_)]
          rw [Nat.zero_add] at hL
          by_cases hjk : j = k
          · subst hjk
            rw [hk] at hj
            cases hj
            simp [hasB, hqn]
          · rw [hAB j hL hjk] at hj
            exact hn j E hj (hL2 j hL)
  · rw [← hrest]
    exact hT a w hR
  · simp only [hL0]
    simp
end
section
variable {Γ : Models} {γ0 : Nat → Option Nat} {w0 : World} {N : Nat} {Q : Exit → Act → World → Prop}
theorem FlowX.skM (x k : Nat) {ops : Array Oper} {As : List (List Nat)} {st0 : St} {i : Nat} {o : Oper} {r rest : List Oper} {Es Es' F : List (List Entry)} (hk : (decide (i = x) || decide (i = k)) = true := by decide) (hE : Es ++ [[]] = Es' := by simp only [List.cons_append, List.nil_append]; rfl)
    (h : FlowX Tryz.prog Γ N ops As st0 (i + 1) r Es' F rest) : FlowX Tryz.prog Γ N ops As st0 i (o :: r) Es F rest := .skip (hE ▸ h)
theorem W.midA (hΓ : GSound Tryz.prog Γ) {id : Nat} {l : List Oper} {st0 stX stB stT : St} (p : Nat) (As : List (List Nat)) (x k : Nat) {d q dq t0 t1 : Nat} {t : TypeId} {ty : TypeId} {pos : String} {after : Array Edge} {v1 : PV} {b1 bq : Blk}
    {EsA EsB : List (List Entry)} {restA rest : List Oper}
    (h : chk l p As = true) (hxp : x < p) (hoX : l[x]? = some ⟨some d, .call ⟨.builtin .append, #[.tmp t0, .tmp t1], #[t, t]⟩, ty, pos, after, none⟩) (hN : d < N)
    (hfA : FlowX Tryz.prog Γ N l.toArray As st0 0 l [] EsA restA) (hpA : p + restA.length = l.length) (hdA : distB EsA = true) (hfrA : freeB st0 EsA = true) (hneA : neM As x 0 EsA = true)
    (hk : EsA[k]? = some [.slot dq (one (.all q)), .blk q bq]) (hka : k ∈ ancO As x) (hkx : k ≠ x)
    (hpk : pickE' EsA 0 (inL (ancO As x)) st0 = stX) (ht0 : getS stX t0 = one (.all q)) (ht1 : getS stX t1 = v1)
    (happ : ∀ st, getS st t0 = one (.all q) → getS st t1 = v1 → getB st q = some bq → appE Tryz.prog st d t (.tmp t0) (.tmp t1) = some (.slot d (one (.all q)) :: .blk q b1 :: .kill q :: st))
    (hdq : d ≠ dq) (hB0 : .slot d (one (.all q)) :: .blk q b1 :: .slot dq (one .dead) :: .kill q :: st0 = stB)
    (hfB : FlowX Tryz.prog Γ N l.toArray As stB 0 l [] EsB rest) (hpB : p + rest.length = l.length) (hdB : distB EsB = true) (hfrB : freeB stB EsB = true)
    (hneB : neK As x k 0 EsB = true) (hmask : maskK As x k 0 EsB = maskK As x k 0 EsA) (hnoA : (EsA.all fun E => entNo q E || hasB E q) = true) (hno : (EsB.all fun E => !hasS E d && !hasS E dq) = true)
    (hst : pickE' EsB 0 (fun _ => true) stB = stT) (hT : WL Tryz.prog γ0 w0 N l.toArray rest stT Q) :
    W Tryz.prog γ0 w0 N st0 (.region id l.toArray true) Q := by
  subst hpk; subst hB0; subst hst
  exact W.midC follows_mixed hΓ p x k As h hxp hoX hN hfA hpA hdA hfrA hneA hk hka hkx ht0 ht1 happ hdq hfB hpB hdB hfrB hneB hmask hnoA hno hT
end
end Go.Proofs.YtfgkfcfplodaoaaGreatDoor

end
section
/-!
  Drawn chains.
-/
namespace Go.Proofs.YtfgkfcfplodaoaaGreatDoor
set_option maxRecDepth 100000
set_option linter.unusedVariables false
set_option linter.unusedSimpArgs false
open Go Go.RowKit
set_option maxHeartbeats 8000000
set_option linter.unusedVariables false

theorem szs2 {l : List ByteArray} {m : Nat} (h : l.all (fun s => decide (s.size ≤ m)) = true) {x : ByteArray} (hx : x ∈ l) : x.size ≤ m := of_decide_eq_true (List.all_eq_true.1 h x hx)
theorem cnL_sm (s : ByteArray) {n : Nat} (h : n ≤ 12) : ∀ b ∈ cnL s n, smBk 1000 b := fun b hb => by
  obtain ⟨h1, h2, h3⟩ := (cnL_ok s h).2 b hb
  unfold cnL at hb
  obtain ⟨k, hk, rfl⟩ := List.mem_map.1 hb
  have hk := List.mem_range.1 hk
  have ht := cnB_t s (show k < 12 by omega)
  have hh := cnB_height s k
  exact ⟨⟨⟨by omega, by omega⟩, ht.1, by omega⟩, by omega, by omega, by omega⟩
def rCn (_ : Unit) (y : List TBlock × TAnchor) : Prop := ((1 ≤ y.1.length ∧ y.1.length ≤ 7) ∧ ∀ b ∈ y.1, smBk 1000 b) ∧ (0 ≤ y.2.1.1 ∧ y.2.1.1 ≤ 1000) ∧ y.2.2.length ≤ 100
abbrev resCn (_ : Unit) (y : List TBlock × TAnchor) : Res := .tup [(false, [.own .no 36 12 (bkRows y.1)]), (true, [.ro (.sc (.int .i64 y.2.1.1)), .ro (.sc (.int .i64 y.2.1.2.1)), .ro (.sc (.string y.2.1.2.2.1)), .ro (.sc (.string y.2.1.2.2.2.1)), .ro (.sc (.string y.2.1.2.2.2.2.1)), .ro (.sc (.string y.2.1.2.2.2.2.2)), .own .ft 76 2 (rowsF cVal y.2.2)])]
theorem l32Chain_s : SoundCuF Tryz.prog 62 (fun _ : Unit => True) (fun _ => []) rCn resCn := by
  refine SoundCuF.of Tryz.func62 rfl Tryz.ntmps62 ?_
  rintro F k0 - b w hc - hB hFb
  refine ⟨by simp, ?_⟩
  simp only [initC, frE]
  have hΓ : GSound Tryz.prog (look [(10, mChain)]) := env_cons (has_of Tryz.func10 rfl rfl) chain_s env_nil
  have hBe : Has Tryz.prog 56 := has_of Tryz.func56 rfl rfl
  have hPk : Has Tryz.prog 114 := has_of Tryz.func114 rfl rfl
  generalize hFW : (fun k : Nat => w.heap[k]?) = FW
  have hcu := lsNms_cu
  have hck := kill_cu
  simp only [initS, argPV, List.map_cons, List.map_nil, toPL, Nat.zero_add]
  refine zR ?_
  refine zO ?_
  refine zL ?_
  refine WL.opCu hPk l1Pick_s k0 hc [ByteArray.empty, ⟨#[97]⟩, ⟨#[98]⟩, ⟨#[115, 101, 101, 100]⟩] ⟨by decide, by decide⟩ (h := ?_)
  rintro k1 s hk1 hs
  have hss : s.size ≤ 4 := szs2 rfl hs
  clear hs
  refine zL ?_
  refine WL.opCu hBe l1Below_s k1 hk1.ok 5 (by decide) (h := ?_)
  rintro k2 r hk2 ⟨hr0, hr1, -⟩
  replace hr1 : r < 5 := hr1 (by decide)
  have hk20 := hk1.trans hk2
  have c1 := mChain_eq s (3 + r) (by omega)
  have hv : chainOf s (3 + r) = cnL s (3 + r).toNat := if_pos ⟨by omega, by omega⟩
  rw [hv] at c1
  have hsm := cnL_sm s (n := (3 + r).toNat) (by omega)
  have hln := cnL_len s (3 + r).toNat
  generalize cnL s (3 + r).toNat = l at *
  obtain ⟨b0, l', rfl⟩ : ∃ b0 l', l = b0 :: l' := by
    cases l with
    | nil => simp at hln; omega
    | cons x r => exact ⟨x, r, rfl⟩
  have hb0 := hsm b0 List.mem_cons_self
  have hl7 : (b0 :: l').length ≤ 7 := by omega
  obtain ⟨⟨h, t, la, va, ne, da⟩, v, nx, ⟨ch, cr, ci, cs⟩⟩ := b0
  obtain ⟨⟨⟨q0, q1⟩, q2, q3⟩, q4, q5, q6⟩ := hb0
  dsimp only at q0 q1 q2 q3 q4 q5 q6
  have hrow : (bkRows (((h, t, la, va, ne, da), v, nx, (ch, cr, ci, cs)) :: l'))[0]? = some (bkRow ((h, t, la, va, ne, da), v, nx, (ch, cr, ci, cs))) := rfl
  dsimp only [bkRow] at hrow
  generalize hL : ((((h, t, la, va, ne, da), v, nx, (ch, cr, ci, cs)) : TBlock) :: l') = L at *
  dsimp only [rBN] at c1
  refine zL ?_
  refine zE ?_
  refine W.loose 11 (h := ?_)
  refine W.subA [.blk 998 (.arr (.fr F FW) 0 1 []), .slot 0 (one (.ptr 999 0)), .blk 999 (.box (cuL k2)), .slot 3 (one (.ptr 3 0)), .blk 3 (.box [.sc (.int .i64 0), .sc (.int .i64 0), .sc (.string ByteArray.empty), .sc (.string ByteArray.empty), .sc (.string ByteArray.empty), .sc (.string ByteArray.empty), .nil]), .slot 4 (one (.all 11)), .blk 11 (.arr .no 36 12 (bkRows L))] (h := ?_)
  have hll := bkRows_len L
  have hwn : wid 2 (rowsF cVal nx) := rowsF_wid (f := cVal) (s := 2) (fun _ => rfl) nx
  refine zR ?_
  refine W.midA hΓ 13 [[], [], [1], [1, 2], [1, 2, 3], [], [], [6], [6, 7], [6, 7, 8], [5, 6, 7, 8, 9], [1, 2, 3, 4, 5, 6, 7, 8, 9, 10], [0, 5, 6, 7, 8, 9, 10], [0, 1, 2, 3, 4, 5, 6, 7, 8, 9, 10, 11, 12]] 10 5 (EsA := ?EsA9) (EsB := ?EsB9) (restA := ?rA9) (rest := ?rest9) (d := ?d9) (q := ?q9) (dq := ?dq9) (t0 := ?t09) (t1 := ?t19) (t := ?t9) (ty := ?ty9) (pos := ?pos9) (after := ?after9) (v1 := ?v19) (b1 := ?b19) (bq := ?bq9) (stX := ?stX9) (stB := ?stB9) (stT := ?stT9) (h := ?h9) (hxp := by decide) (hoX := ?hoX9) (hN := ?hN9) (hfA := ?hfA9) (hpA := ?hpA9) (hdA := ?hdA9) (hfrA := ?hfr9) (hneA := ?hne9) (hk := ?hk9) (hka := by decide) (hkx := by decide) (hpk := ?hpk9) (ht0 := ?ht09) (ht1 := ?ht19) (happ := ?happ9) (hdq := ?hdq9) (hB0 := ?hB09) (hfB := ?hfB9) (hpB := ?hpB9) (hdB := ?hdB9) (hfrB := ?hfrB9) (hneB := ?hneB9) (hmask := ?hmask9) (hnoA := ?hnoA9) (hno := ?hno9) (hst := ?hst9) (hT := ?hT9)
  case h9 => kernel_rfl
  case hoX9 => rfl
  case hN9 => decide
  case hfA9 =>
    iterate 13 (first | refine FlowX.skA 10 (h := ?_) | refine FlowX.opA (h := ?_))
    exact FlowX.done
  case hpA9 => rfl
  case hdA9 => rfl
  case hfr9 => rfl
  case hne9 => rfl
  case hk9 => rfl
  case hpk9 =>
    simp (disch := decide) only [pick_nil, pick_t, pick_f, List.cons_append, List.nil_append, Nat.reduceAdd]
    rfl
  case ht09 => exact evsP
  case ht19 => exact evsP
  case happ9 =>
    intro st hm0 hm1 hmb
    exact evsP
  case hdq9 => decide
  case hB09 => rfl
  case hfB9 =>
    iterate 13 (first | refine FlowX.skM 10 5 (h := ?_) | refine FlowX.opA (h := ?_))
    exact FlowX.done
  case hpB9 => rfl
  case hdB9 => rfl
  case hfrB9 => rfl
  case hneB9 => rfl
  case hmask9 => rfl
  case hnoA9 => rfl
  case hno9 => rfl
  case hst9 =>
    simp only [pick_nil, pick_all, List.cons_append, List.nil_append]
    rfl
  (repeat (first | refine WL.opA hΓ (h := ?_) | refine WL.opX hΓ (h := ?_) | refine WL.opY (h := ?_) | refine WL.opZ (h := ?_)))
  with_reducible apply WL.nil
  refine zR ?_
  subst hFW
  refine At.retCuF (by rw [Tryz.results62]) hB hFb (hls := ?_) (he := ?_) k2 (L, ((h, t, la, va, ne, da), nx)) hk20 ⟨⟨⟨by dsimp only; omega, by dsimp only; omega⟩, hsm⟩, ⟨q0, q1⟩, q5⟩
  · rfl
  · rfl
end Go.Proofs.YtfgkfcfplodaoaaGreatDoor

end
