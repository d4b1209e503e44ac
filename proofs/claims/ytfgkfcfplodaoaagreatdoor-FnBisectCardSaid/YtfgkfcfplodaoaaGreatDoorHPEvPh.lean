/-
  A region that draws its order around several calls: phases.
-/
import Derived.Test.YtfgkfcfplodaoaaGreatDoorHPEvOne
namespace Go.Proofs.YtfgkfcfplodaoaaGreatDoor
set_option maxRecDepth 100000
set_option linter.unusedVariables false
set_option linter.unusedSimpArgs false
open Go Go.RowKit
set_option linter.unusedVariables false

section
variable {P : Program} {Γ : Models} {γ0 : Nat → Option Nat} {w0 : World} {N : Nat} {Q : Exit → Act → World → Prop} {l : List Oper} {p : Nat} {As : List (List Nat)} {Es : List (List Entry)} {st0 st st' : St} {a : Act} {w : World}
theorem draw_ph (hΓ : GSound P Γ) (h : chk l p As = true) (hpl : p ≤ l.length) {Φ : Type} {st : Φ → St} {Es : Φ → List (List Entry)} (sp : Nat → Bool) (dn : Φ → Nat → Bool) (hS : ∀ φ, StepsX P Γ N l p As (st φ) (Es φ))
    (hfr : ∀ φ i, i < p → sp i = false → (∀ k, k ∈ ancO As i → sp k = true → dn φ k = true) → (∀ k, sp k = true → dn φ k = true → i ∉ ancO As k) → (Es φ)[i]? ≠ some [])
    (hX : ∀ φ x, x < p → sp x = true → dn φ x = false → (∀ k, k ∈ ancO As x → sp k = true → dn φ k = true) → ∀ (listed listed' : Array Bool), (∀ j, L listed' j = if x = j then true else L listed j) → L listed x = false → (∀ t, ∀ o, l[x]? = some o → t ∈ o.looksAt l.toArray → getS (pickE' (Es φ) 0 (inL (ancO As x)) (st φ)) t = getS (pickE' (Es φ) 0 (L listed) (st φ)) t) → (∀ j, L listed j = true → x ∉ ancO As j) → (∀ j, j ∈ ancO As x → L listed j = true) → ∀ a w (K : Act → World → Prop), R γ0 w0 N (pickE' (Es φ) 0 (L listed) (st φ)) a w → (∀ φ' a' w', (∀ k, dn φ' k = if x = k then true else dn φ k) → R γ0 w0 N (pickE' (Es φ') 0 (L listed') (st φ')) a' w' → K a' w') → wpOp P l.toArray Q x K a w)
    (hT : ∀ φ a w, (∀ i, i < p → sp i = true → dn φ i = true) → R γ0 w0 N (pickE' (Es φ) 0 (fun _ => true) (st φ)) a w → wpList P l.toArray Q (l.drop p) a w) :
    ∀ (fuel : Nat) (listed : Array Bool) (a : Act) (w : World) (φ : Φ), listed.size = l.length → Closed l listed → (∀ i, L listed i = true → i < p) → (List.range l.length).countP (fun i => !L listed i) ≤ fuel →
      (∀ i, sp i = true → L listed i = dn φ i) → R γ0 w0 N (pickE' (Es φ) 0 (L listed) (st φ)) a w → wpAny P .any l.toArray Q fuel listed a w := by
  intro fuel
  induction fuel with
  | zero =>
    intro listed a w φ hs hc hlp hcnt hdn hR
    have hall : ∀ i, i < l.length → L listed i = true := fun i hi => by
      have := List.countP_eq_zero.1 (Nat.le_zero.1 hcnt) i (List.mem_range.2 hi)
      simpa using this
    have hpn : l.length = p := by
      rcases Nat.lt_or_ge p l.length with h1 | h1
      · have := hlp p (hall p h1); omega
      · omega
    refine draw_tail h 0 p listed a w hs (Nat.le_refl _) hpl (by omega) (fun i hi => ?_) (hT φ a w (fun i hi hsi => by rw [← hdn i hsi]; exact hall i (by omega)) ?_)
    · rw [hall i hi]; simp; omega
    · have key : pickE' (Es φ) 0 (L listed) (st φ) = pickE' (Es φ) 0 (fun _ => true) (st φ) := pick_ext (Es φ) 0 (fun j hj => hall (0 + j) (by rw [(hS φ).len] at hj; omega)) _
      rw [← key]
      exact hR
  | succ fuel ih =>
    intro listed a w φ hs hc hlp hcnt hdn hR
    by_cases hall : ∀ i, i < p → L listed i = true
    · refine draw_tail h (fuel + 1) p listed a w hs (Nat.le_refl _) hpl ?_ (fun i hi => ?_) (hT φ a w (fun i hi hsi => by rw [← hdn i hsi]; exact hall i (by omega)) ?_)
      · have : l.length - p ≤ (List.range l.length).countP (fun i => !L listed i) := by
          have h1 : (List.range l.length).countP (fun i => !L listed i) = (List.range l.length).countP (fun i => decide (p ≤ i)) := List.countP_congr fun i hi => by
            by_cases hip : i < p
            · simp [hall i hip]; omega
            · have : L listed i = false := by
                cases hL : L listed i with
                | false => rfl
                | true => exact absurd (hlp i hL) hip
              simp [this]; omega
          rw [h1]
          exact count_ge l.length p
        omega
      · by_cases hip : i < p
        · rw [hall i hip]; simp [hip]
        · have : L listed i = false := by
            cases hL : L listed i with
            | false => rfl
            | true => exact absurd (hlp i hL) hip
          rw [this]; simp; omega
      · have key : pickE' (Es φ) 0 (L listed) (st φ) = pickE' (Es φ) 0 (fun _ => true) (st φ) := pick_ext (Es φ) 0 (fun j hj => hall (0 + j) (by rw [(hS φ).len] at hj; omega)) _
        rw [← key]
        exact hR
    · refine ⟨fun hr => ?_, fun i hi => ?_⟩
      · exfalso
        apply hall
        intro i
        induction i using Nat.strongRecOn with
        | _ i ih2 =>
          intro hip
          cases hL : L listed i with
          | true => rfl
          | false =>
            have hlt : i < l.length := by omega
            have hok : l[i]? = some l[i] := List.getElem?_eq_getElem hlt
            have := ready_of hs hok hL (fun k hk => by
              have h1 := chk_dir h hok k hk
              exact ih2 k h1 (by omega))
            rw [hr] at this
            cases this
      · obtain ⟨o, h1, h2, h3⟩ := ready_spec hs hi
        have hlt := (List.getElem?_eq_some_iff.1 h1).1
        have hanc := closed_anc h hc i o h1 h3
        have hip : i < p := by
          rcases Nat.lt_or_ge i p with h4 | h4
          · exact h4
          · exfalso
            exact hall fun j hj => hanc j (chk_tail h h1 h4 j (by omega))
        have hset : ∀ j, L (listed.setIfInBounds i true) j = if i = j then true else L listed j := L_set (by omega)
        have hcl : Closed l (listed.setIfInBounds i true) := fun j o' hj hL k hk => by
          rw [hset] at hL ⊢
          by_cases e : i = j
          · subst e
            rw [h1] at hj
            cases hj
            split
            · rfl
            · exact h3 k hk
          · rw [if_neg e] at hL
            split
            · rfl
            · exact hc j o' hj hL k hk
        have hbd : ∀ j, L (listed.setIfInBounds i true) j = true → j < p := fun j hL => by
          rw [hset] at hL
          by_cases e : i = j
          · omega
          · rw [if_neg e] at hL
            exact hlp j hL
        have hct : (List.range l.length).countP (fun j => !L (listed.setIfInBounds i true) j) ≤ fuel := by
          have := count_set (fun j => !L listed j) (fun j => !L (listed.setIfInBounds i true) j) i (by simp [h2]) (by simp [hset]) (fun j hj => by simp only [hset, if_neg (fun e : i = j => hj e.symm)]) (List.range l.length) List.nodup_range (List.mem_range.2 hlt)
          omega
        have hsz : (listed.setIfInBounds i true).size = l.length := by simpa using hs
        have hpast : ∀ k, k ∈ ancO As i → sp k = true → dn φ k = true := fun k hk hsk => by
          rw [← hdn k hsk]
          exact hanc k hk
        have hnot : ∀ j, L listed j = true → i ∉ ancO As j := fun j hj hm => by
          have hjl := hlp j hj
          have hoj : l[j]? = some l[j] := List.getElem?_eq_getElem (by omega)
          have := closed_anc h hc j _ hoj (hc j _ hoj hj) i hm
          rw [h2] at this
          cases this
        cases hsp : sp i with
        | true =>
          refine hX φ i hip hsp (by rw [← hdn i hsp]; exact h2) hpast listed (listed.setIfInBounds i true) hset h2 (fun t o' ho' ht => ?_) hnot hanc a w _ hR fun φ' a' w' hdn' hR' => ih _ a' w' φ' hsz hcl hbd hct (fun k hsk => ?_) hR'
          · rw [h1] at ho'
            cases ho'
            exact look_x h hpl (hS φ) hc h1 hip h2 h3 t ht
          · rw [hset, hdn', hdn k hsk]
        | false =>
          refine step_x hΓ h hpl (hS φ) hc h1 hip h2 h3 hset (hfr φ i hip hsp hpast fun k hsk hk => hnot k (by rw [hdn k hsk]; exact hk)) hR fun a' w' hR' => ih _ a' w' φ hsz hcl hbd hct (fun k hsk => ?_) hR'
          rw [hset]
          by_cases e : i = k
          · subst e
            rw [hsp] at hsk
            cases hsk
          · rw [if_neg e]
            exact hdn k hsk
end
section
variable {P : Program} {Γ : Models} {γ0 : Nat → Option Nat} {w0 : World} {N : Nat} {Q : Exit → Act → World → Prop} {l : List Oper} {p : Nat} {As : List (List Nat)} {Es : List (List Entry)} {st0 st st' : St} {a : Act} {w : World}
theorem call_ph (x : Nat) {d f m t0 : Nat} {xs : List Operand} {ts : Array TypeId} {ty : TypeId} {pos : String} {after : Array Edge}
    {A B : Type} {ok : A → Prop} {enc : A → List Arg} {rel : A → B → Prop} {res : A → B → Res} {v : B → PV} {EsA : List (List Entry)} {EsB : Cu → B → List (List Entry)}
    (hf : Has P f) (hs : SoundCu P f ok enc rel res) (c : Cu) (hc : CuOk c) (a0 : A) (hok : ok a0)
    (hoX : l[x]? = some ⟨some d, .call ⟨.value (.func f), (.tmp t0 :: xs).toArray, ts⟩, ty, pos, after, none⟩) (hN : d < N) (sA : StepsX P Γ N l p As st0 EsA)
    (ht : getS (pickE' EsA 0 (inL (ancO As x)) st0) t0 = one (.ptr m 0)) (hb : getB st0 m = some (.box (cuL c))) (ha : ∀ st, (∀ t, Operand.tmp t ∈ xs → getS st t = getS (pickE' EsA 0 (inL (ancO As x)) st0) t) → datasO st m xs = some (enc a0))
    (hst : ∀ c' b st, impE (.blk m (.box (cuL c')) :: st) d (res a0 b) = .slot d (v b) :: .blk m (.box (cuL c')) :: st)
    (hB : ∀ c' b, CuTo c c' → rel a0 b → StepsX P Γ N l p As (.slot d (v b) :: .blk m (.box (cuL c')) :: st0) (EsB c' b) ∧ (∀ j E, (EsB c' b)[j]? = some E → j = x → E = []) ∧ maskE As x 0 (EsB c' b) = EsA ∧ ((EsB c' b).all fun E => !hasS E d) = true)
    {listed listed' : Array Bool} (hset : ∀ j, L listed' j = if x = j then true else L listed j) (hlook : ∀ t, ∀ o, l[x]? = some o → t ∈ o.looksAt l.toArray → getS (pickE' EsA 0 (inL (ancO As x)) st0) t = getS (pickE' EsA 0 (L listed) st0) t) (hdesc : ∀ j, L listed j = true → x ∉ ancO As j)
    {a : Act} {w : World} {K : Act → World → Prop} (hR : R γ0 w0 N (pickE' EsA 0 (L listed) st0) a w)
    (hK : ∀ c' b a' w', CuTo c c' → rel a0 b → R γ0 w0 N (pickE' (EsB c' b) 0 (L listed') (.slot d (v b) :: .blk m (.box (cuL c')) :: st0)) a' w' → K a' w') : wpOp P l.toArray Q x K a w := by
  have hop : Operand.tmp t0 ∈ (Op.call ⟨.value (.func f), (.tmp t0 :: xs).toArray, ts⟩).operands.toList := by
    simp [Op.operands, Call.operands]
  have hev : ev (pickE' EsA 0 (L listed) st0) (.tmp t0) = one (.ptr m 0) := by
    rw [← ht]
    exact (hlook t0 _ hoX (by
      unfold Oper.looksAt
      exact List.mem_append_left _ (List.mem_filterMap.2 ⟨.tmp t0, hop, rfl⟩))).symm
  have hbm : getB (pickE' EsA 0 (L listed) st0) m = some (.box (cuL c)) := by
    rw [pick_B_none EsA 0 _ st0 sA.dist (fun j E hj _ => ?_), hb]
    cases hh : hasB E m with
    | false => rfl
    | true =>
      have := sA.free E (List.mem_of_getElem? hj) m hh
      rw [hb] at this
      cases this
  unfold wpOp
  have hget : l.toArray[x]? = some ⟨some d, .call ⟨.value (.func f), (.tmp t0 :: xs).toArray, ts⟩, ty, pos, after, none⟩ := by simpa using hoX
  rw [hget]
  simp only
  rw [if_pos (by simp [Region.wanted])]
  left
  refine opC_wp hf hs (c, a0) ⟨hc, hok⟩ hN hev hbm (cuL_ex c) (ha _ fun t1 ht1 => (hlook t1 _ hoX (by
    unfold Oper.looksAt
    exact List.mem_append_left _ (List.mem_filterMap.2 ⟨.tmp t1, by simp [Op.operands, Call.operands, ht1], rfl⟩))).symm) (fun y hy a' w' hR2 => ?_) hR
  rw [hst y.1 y.2] at hR2
  obtain ⟨sB, b5, b6, b7⟩ := hB _ _ hy.1 hy.2
  have hsame : ∀ j, L listed j = true → EsA[j]? = (EsB y.1 y.2)[j]? := fun j hj => by
    rw [← b6]
    exact maskE_get As x 0 _ j (by rw [Nat.zero_add]; exact hdesc j hj)
  have hL' : ∀ (j : Nat) E, (EsB y.1 y.2)[j]? = some E → E ≠ [] → L listed' (0 + j) = true → L listed j = true := fun j E hj hne hL => by
    rw [Nat.zero_add, hset] at hL
    by_cases e : x = j
    · exact absurd (b5 j E hj e.symm) hne
    · rwa [if_neg e] at hL
  have hL2 : ∀ j, L listed j = true → L listed' (0 + j) = true := fun j hj => by
    rw [Nat.zero_add, hset]
    split
    · rfl
    · exact hj
  refine hK y.1 y.2 a' w' hy.1 hy.2 (hR2.congr (fun t => ?_) (fun n => ?_))
  · show (if d = t then v y.2 else getS (pickE' EsA 0 (L listed) st0) t) = _
    by_cases hx : ∃ (j : Nat) (E : List Entry), (EsB y.1 y.2)[j]? = some E ∧ L listed' (0 + j) = true ∧ hasS E t = true
    · obtain ⟨j, E, h1, h2, h3⟩ := hx
      have hj := hL' j E h1 (hasS_ne h3) h2
      rw [pick_S_some _ 0 _ _ sB.dist j E h1 h2 h3, if_neg (fun e => by
        have := List.all_eq_true.1 b7 E (List.mem_of_getElem? h1)
        rw [e, h3] at this
        cases this), pick_S_some _ 0 _ _ sA.dist j E (by rw [hsame j hj]; exact h1) (by rw [Nat.zero_add]; exact hj) h3]
    · have hn : ∀ (j : Nat) E, (EsB y.1 y.2)[j]? = some E → L listed' (0 + j) = true → hasS E t = false := fun j E h1 h2 => by
        cases h3 : hasS E t with
        | false => rfl
        | true => exact absurd ⟨j, E, h1, h2, h3⟩ hx
      rw [pick_S_none _ 0 _ _ sB.dist hn, pick_S_none EsA 0 _ st0 sA.dist (fun j E hj hL => ?_)]
      · rfl
      · rw [Nat.zero_add] at hL
        rw [hsame j hL] at hj
        exact hn j E hj (hL2 j hL)
  · show (if m = n then some (.box (cuL y.1)) else getB (pickE' EsA 0 (L listed) st0) n) = _
    by_cases hx : ∃ (j : Nat) (E : List Entry), (EsB y.1 y.2)[j]? = some E ∧ L listed' (0 + j) = true ∧ hasB E n = true
    · obtain ⟨j, E, h1, h2, h3⟩ := hx
      have hj := hL' j E h1 (hasB_ne h3) h2
      rw [pick_B_some _ 0 _ _ sB.dist j E h1 h2 h3, if_neg (fun e => by
        have := sB.free E (List.mem_of_getElem? h1) n h3
        rw [← e] at this
        simp [getB] at this), pick_B_some _ 0 _ _ sA.dist j E (by rw [hsame j hj]; exact h1) (by rw [Nat.zero_add]; exact hj) h3]
    · have hn : ∀ (j : Nat) E, (EsB y.1 y.2)[j]? = some E → L listed' (0 + j) = true → hasB E n = false := fun j E h1 h2 => by
        cases h3 : hasB E n with
        | false => rfl
        | true => exact absurd ⟨j, E, h1, h2, h3⟩ hx
      rw [pick_B_none _ 0 _ _ sB.dist hn, pick_B_none EsA 0 _ st0 sA.dist (fun j E hj hL => ?_)]
      · rfl
      · rw [Nat.zero_add] at hL
        rw [hsame j hL] at hj
        exact hn j E hj (hL2 j hL)
end
/-- the entries that are there in a phase: none for special operations; none is needed where a special operation that is not done comes before, or one that is done comes behind -/
def neP (As : List (List Nat)) (sp dn : Nat → Bool) (sps : List Nat) : Nat → List (List Entry) → Bool
  | _, [] => true
  | i, E :: r => (sp i || sps.any (fun k => (ancO As i).contains k && !dn k) || sps.any (fun k => dn k && (ancO As k).contains i) || !E.isEmpty) && neP As sp dn sps (i + 1) r
theorem neP_get {As : List (List Nat)} {sp dn : Nat → Bool} {sps : List Nat} (hsps : ∀ k ∈ sps, sp k = true) : ∀ (i : Nat) (Es : List (List Entry)) (_ : neP As sp dn sps i Es = true) (j : Nat), sp (i + j) = false → (∀ k, k ∈ ancO As (i + j) → sp k = true → dn k = true) → (∀ k, sp k = true → dn k = true → i + j ∉ ancO As k) → Es[j]? ≠ some []
  | i, [], _, j, _, _, _ => by simp
  | i, E0 :: r, hn, 0, h1, h2, h3 => by
    simp only [neP, Bool.and_eq_true, Bool.or_eq_true] at hn
    rw [Nat.add_zero] at h1 h2 h3
    intro e
    simp only [List.getElem?_cons_zero, Option.some.injEq] at e
    subst e
    rcases hn.1 with ((h | h) | h) | h
    · rw [h1] at h; cases h
    · obtain ⟨k, hk, hb⟩ := List.any_eq_true.1 h
      simp only [Bool.and_eq_true, List.contains_iff_mem, Bool.not_eq_true'] at hb
      rw [h2 k hb.1 (hsps k hk)] at hb
      cases hb.2
    · obtain ⟨k, hk, hb⟩ := List.any_eq_true.1 h
      simp only [Bool.and_eq_true, List.contains_iff_mem] at hb
      exact h3 k (hsps k hk) hb.1 hb.2
    · cases h
  | i, E0 :: r, hn, j + 1, h1, h2, h3 => by
    simp only [neP, Bool.and_eq_true] at hn
    rw [List.getElem?_cons_succ]
    rw [show i + (j + 1) = i + 1 + j by omega] at h1 h2 h3
    exact neP_get hsps (i + 1) r hn.2 j h1 h2 h3
abbrev stC (d m : Nat) (u : PV) (c : Cu) (st : St) : St := .slot d u :: .blk m (.box (cuL c)) :: st
end Go.Proofs.YtfgkfcfplodaoaaGreatDoor
