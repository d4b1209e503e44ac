/-
  A region that draws its order: one store, beside free operations before it, behind it, and at any time.
-/
import Derived.Test.YtfgkfcfplodaoaaGreatDoorHPEvOne
import Derived.Test.YtfgkfcfplodaoaaGreatDoorHPEvLate
namespace Go.Proofs.YtfgkfcfplodaoaaGreatDoor
set_option maxRecDepth 100000
set_option linter.unusedVariables false
set_option linter.unusedSimpArgs false
open Go Go.RowKit
set_option linter.unusedVariables false

/-- the entries that do not come ahead of the special one -/
def maskA (As : List (List Nat)) (x : Nat) : Nat → List (List Entry) → List (List Entry)
  | _, [] => []
  | i, E :: r => (if (ancO As x).contains i then [] else E) :: maskA As x (i + 1) r
theorem maskA_get (As : List (List Nat)) (x : Nat) : ∀ (i : Nat) (Es : List (List Entry)) (j : Nat), i + j ∉ ancO As x → (maskA As x i Es)[j]? = Es[j]?
  | i, [], j, h => rfl
  | i, E :: r, 0, h => by
    unfold maskA
    rw [if_neg (by simpa using h)]
    rfl
  | i, E :: r, j + 1, h => by
    unfold maskA
    rw [List.getElem?_cons_succ, List.getElem?_cons_succ]
    exact maskA_get As x (i + 1) r j (by rw [show i + 1 + j = i + (j + 1) by omega]; exact h)
/-- those ahead of the special one, and that one, are empty; no others -/
def neF (As : List (List Nat)) (x : Nat) : Nat → List (List Entry) → Bool
  | _, [] => true
  | i, E :: r => (if i = x ∨ (ancO As x).contains i = true then E.isEmpty else !E.isEmpty) && neF As x (i + 1) r
theorem neF_get (As : List (List Nat)) (x : Nat) : ∀ (i : Nat) (Es : List (List Entry)) (_ : neF As x i Es = true) (j : Nat) (E : List Entry), Es[j]? = some E → ((i + j = x ∨ i + j ∈ ancO As x) → E = []) ∧ (i + j ≠ x → i + j ∉ ancO As x → E ≠ [])
  | i, [], _, j, E, h => by simp at h
  | i, E0 :: r, hn, 0, E, h => by
    simp only [neF, Bool.and_eq_true] at hn
    simp only [List.getElem?_cons_zero, Option.some.injEq] at h
    subst h
    refine ⟨fun e => ?_, fun e e2 => ?_⟩
    · have := hn.1
      rw [if_pos (by simpa using e)] at this
      simpa using this
    · have := hn.1
      rw [if_neg (by rw [Nat.add_zero] at e e2; simp [e, e2])] at this
      intro e3
      subst e3
      simp at this
  | i, E0 :: r, hn, j + 1, E, h => by
    simp only [neF, Bool.and_eq_true] at hn
    have := neF_get As x (i + 1) r hn.2 j E (by simpa using h)
    rw [show i + 1 + j = i + (j + 1) by omega] at this
    exact this
section
variable {P : Program} {Γ : Models} {γ0 : Nat → Option Nat} {w0 : World} {N : Nat} {Q : Exit → Act → World → Prop} {l : List Oper} {As : List (List Nat)} {EsA EsB : List (List Entry)} {st0 st1 : St}
theorem W.lateFC (hm : P.follows .mixedOrders = true) (hΓ : GSound P Γ) {id : Nat} (p x : Nat) {t : TypeId} {xo yo : Operand} {ty : TypeId} {pos : String} {after : Array Edge} {restA rest : List Oper} {n : Nat} {b : Blk}
    (h : chk l p As = true) (hxp : x < p) (hoX : l[x]? = some ⟨none, .store t xo yo, ty, pos, after, none⟩)
    (hfA : FlowX P Γ N l.toArray As st0 0 l [] EsA restA) (hpA : p + restA.length = l.length) (hdA : distB EsA = true) (hfrA : freeB st0 EsA = true) (hneA : neM As x 0 EsA = true)
    (hst : storeL P (pickE' EsA 0 (inL (ancO As x)) st0) t xo yo = some (n, b)) (hs1 : .blk n b :: pickE' EsA 0 (inL (ancO As x)) st0 = st1)
    (hfB : FlowX P Γ N l.toArray As st1 0 l [] EsB rest) (hpB : p + rest.length = l.length) (hdB : distB EsB = true) (hfrB : freeB st1 EsB = true) (hneB : neF As x 0 EsB = true) (hmask : maskE As x 0 EsB = maskA As x 0 EsA)
    (hT : WL P γ0 w0 N l.toArray rest (pickE' EsB 0 (fun _ => true) st1) Q) : W P γ0 w0 N st0 (.region id l.toArray true) Q := fun a w hR => by
  have hpl : p ≤ l.length := by omega
  obtain ⟨sA, -⟩ := flowX_all h hfA hpA hdA hfrA
  obtain ⟨sB, hrest⟩ := flowX_all h hfB hpB hdB hfrB
  refine wp_region_any hm ?_
  obtain ⟨η, γ, hI⟩ := hR
  have hR' : R γ0 w0 N st0 a w.drew := ⟨η, γ, hI.world w.drew rfl rfl rfl rfl⟩
  have hL0 : ∀ i, L (Array.replicate l.toArray.size false) i = false := fun i => by
    unfold L
    simp only [Array.getD_eq_getD_getElem?, Array.getElem?_replicate]
    split <;> rfl
  have hpick : pickE' EsA 0 (L (Array.replicate l.toArray.size false)) st0 = st0 := pick_none EsA 0 (fun j => hL0 _) st0
  refine draw_one (β := Unit) (EsB := fun _ => EsB) (st1 := fun _ => st1) hΓ h hpl hxp sA (fun _ => sB) (fun i hi hix him he => ?_) (fun _ i hi hix hia he => ?_) ?_ (fun _ a w hR => ?_) _ _ a w.drew (by simp) (fun i o _ hL => by rw [hL0] at hL; cases hL) (fun i hL => by rw [hL0] at hL; cases hL) ?_ (fun _ => by rw [hpick]; exact hR') (fun hL => by rw [hL0] at hL; cases hL)
  · exact neM_get As x 0 _ hneA i [] he (by omega) (by rw [Nat.zero_add]; exact him) rfl
  · exact (neF_get As x 0 _ hneB i [] he).2 (by omega) (by rw [Nat.zero_add]; exact hia) rfl
  · intro listed listed' hset hLx hlook hdesc hancs a w K hR hK
    have hev : ∀ z ∈ (Op.store t xo yo).operands.toList, ev (pickE' EsA 0 (inL (ancO As x)) st0) z = ev (pickE' EsA 0 (L listed) st0) z := fun z hz => by
      cases z with
      | tmp s => exact hlook s _ hoX (by unfold Oper.looksAt; exact List.mem_append_left _ (List.mem_filterMap.2 ⟨.tmp s, hz, rfl⟩))
      | const v => rfl
      | global g => rfl
      | func f => rfl
    have hle : ∀ j, inL (ancO As x) j = true → L listed j = true := fun j hj => hancs j (by unfold inL at hj; simpa using hj)
    have hst' := storeL_mono (pick_leX sA.dist sA.free hle) (hev xo (by simp [Op.operands])) (hev yo (by simp [Op.operands])) hst
    have hE := storeL_E hst'
    unfold wpOp
    have hget : l.toArray[x]? = some ⟨none, .store t xo yo, ty, pos, after, none⟩ := by simpa using hoX
    rw [hget]
    simp only
    rw [if_pos (by simp [Region.wanted])]
    left
    refine stepO_sound (o := ⟨none, .store t xo yo, ty, pos, after, none⟩) (st' := .blk n b :: pickE' EsA 0 (L listed) st0) hΓ hR hE fun a' w' hR2 => ?_
    refine hK () a' w' (hR2.congr (fun t => ?_) (fun n' => ?_))
    all_goals
      have hsame : ∀ j, L listed j = true → j ∉ ancO As x → EsA[j]? = EsB[j]? := fun j hj hja => by
        have e1 := maskE_get As x 0 EsB j (by rw [Nat.zero_add]; exact hdesc j hj)
        have e2 := maskA_get As x 0 EsA j (by rw [Nat.zero_add]; exact hja)
        rw [← e1, ← e2, hmask]
      have hL' : ∀ (j : Nat) E, EsB[j]? = some E → E ≠ [] → L listed' (0 + j) = true → L listed j = true ∧ j ∉ ancO As x := fun j E hj hne hL => by
        have hf := neF_get As x 0 _ hneB j E hj
        rw [Nat.zero_add] at hf hL
        refine ⟨?_, fun hm => hne (hf.1 (.inr hm))⟩
        rw [hset] at hL
        by_cases e : x = j
        · exact absurd (hf.1 (.inl e.symm)) hne
        · rwa [if_neg e] at hL
      have hL2 : ∀ j, L listed j = true → L listed' (0 + j) = true := fun j hj => by
        rw [Nat.zero_add, hset]
        split
        · rfl
        · exact hj
    · show getS (pickE' EsA 0 (L listed) st0) t = _
      by_cases hx : ∃ (j : Nat) (E : List Entry), EsB[j]? = some E ∧ L listed' (0 + j) = true ∧ hasS E t = true
      · obtain ⟨j, E, h1, h2, h3⟩ := hx
        obtain ⟨hj, hja⟩ := hL' j E h1 (hasS_ne h3) h2
        rw [pick_S_some EsB 0 _ st1 sB.dist j E h1 h2 h3, pick_S_some EsA 0 _ st0 sA.dist j E (by rw [hsame j hj hja]; exact h1) (by rw [Nat.zero_add]; exact hj) h3]
      · have hn : ∀ (j : Nat) E, EsB[j]? = some E → L listed' (0 + j) = true → hasS E t = false := fun j E h1 h2 => by
          cases h3 : hasS E t with
          | false => rfl
          | true => exact absurd ⟨j, E, h1, h2, h3⟩ hx
        rw [pick_S_none EsB 0 _ st1 sB.dist hn, ← hs1]
        show _ = getS (pickE' EsA 0 (inL (ancO As x)) st0) t
        exact pick_congr sA.dist fun j E hj hh => by
          by_cases hja : j ∈ ancO As x
          · rw [hancs j hja]
            unfold inL
            simpa using hja
          · have h5 : inL (ancO As x) j = false := by unfold inL; simpa using hja
            rw [h5]
            cases hL : L listed j with
            | false => rfl
            | true =>
              have := hn j E (by rw [← hsame j hL hja]; exact hj) (hL2 j hL)
              rw [hh] at this
              cases this
    · show (if n = n' then some b else getB (pickE' EsA 0 (L listed) st0) n') = _
      by_cases hx : ∃ (j : Nat) (E : List Entry), EsB[j]? = some E ∧ L listed' (0 + j) = true ∧ hasB E n' = true
      · obtain ⟨j, E, h1, h2, h3⟩ := hx
        obtain ⟨hj, hja⟩ := hL' j E h1 (hasB_ne h3) h2
        have hnn : ¬ n = n' := fun e => by
          have := sB.free E (List.mem_of_getElem? h1) n' h3
          rw [← hs1, ← e] at this
          simp [getB] at this
        rw [pick_B_some EsB 0 _ st1 sB.dist j E h1 h2 h3, if_neg hnn, pick_B_some EsA 0 _ st0 sA.dist j E (by rw [hsame j hj hja]; exact h1) (by rw [Nat.zero_add]; exact hj) h3]
      · have hn : ∀ (j : Nat) E, EsB[j]? = some E → L listed' (0 + j) = true → hasB E n' = false := fun j E h1 h2 => by
          cases h3 : hasB E n' with
          | false => rfl
          | true => exact absurd ⟨j, E, h1, h2, h3⟩ hx
        rw [pick_B_none EsB 0 _ st1 sB.dist hn, ← hs1]
        show _ = (if n = n' then some b else getB (pickE' EsA 0 (inL (ancO As x)) st0) n')
        rw [pick_congrB (S := L listed) (S' := inL (ancO As x)) (st0 := st0) sA.dist fun j E hj hh => by
          by_cases hja : j ∈ ancO As x
          · rw [hancs j hja]
            unfold inL
            symm
            simpa using hja
          · have h5 : inL (ancO As x) j = false := by unfold inL; simpa using hja
            rw [h5]
            cases hL : L listed j with
            | false => rfl
            | true =>
              have := hn j E (by rw [← hsame j hL hja]; exact hj) (hL2 j hL)
              rw [hh] at this
              cases this]
  · rw [← hrest]
    exact hT a w hR
  · simp only [hL0]
    simp
end
section
variable {Γ : Models} {γ0 : Nat → Option Nat} {w0 : World} {N : Nat} {Q : Exit → Act → World → Prop} {l : List Oper} {EsA EsB : List (List Entry)} {st0 stA st1 stE : St}
theorem FlowX.skF (x : Nat) {ops : Array Oper} {As : List (List Nat)} {st0 : St} {i : Nat} {o : Oper} {r rest : List Oper} {Es Es' F : List (List Entry)} (hk : (decide (i = x) || (ancO As x).contains i) = true := by decide) (hE : Es ++ [[]] = Es' := by simp only [List.cons_append, List.nil_append]; rfl)
    (h : FlowX Tryz.prog Γ N ops As st0 (i + 1) r Es' F rest) : FlowX Tryz.prog Γ N ops As st0 i (o :: r) Es F rest := .skip (hE ▸ h)
theorem W.lateFA (hΓ : GSound Tryz.prog Γ) {id : Nat} (As : List (List Nat)) (p x : Nat) {t : TypeId} {xo yo : Operand} {ty : TypeId} {pos : String} {after : Array Edge} {restA rest : List Oper} {n : Nat} {b : Blk}
    (h : chk l p As = true) (hxp : x < p) (hoX : l[x]? = some ⟨none, .store t xo yo, ty, pos, after, none⟩)
    (hfA : FlowX Tryz.prog Γ N l.toArray As st0 0 l [] EsA restA) (hpA : p + restA.length = l.length) (hdA : distB EsA = true) (hfrA : freeB st0 EsA = true) (hneA : neM As x 0 EsA = true)
    (hA : pickE' EsA 0 (inL (ancO As x)) st0 = stA) (hst : storeL Tryz.prog stA t xo yo = some (n, b)) (hs1 : .blk n b :: stA = st1)
    (hfB : FlowX Tryz.prog Γ N l.toArray As st1 0 l [] EsB rest) (hpB : p + rest.length = l.length) (hdB : distB EsB = true) (hfrB : freeB st1 EsB = true) (hneB : neF As x 0 EsB = true) (hmask : maskE As x 0 EsB = maskA As x 0 EsA)
    (hsE : pickE' EsB 0 (fun _ => true) st1 = stE) (hT : WL Tryz.prog γ0 w0 N l.toArray rest stE Q) : W Tryz.prog γ0 w0 N st0 (.region id l.toArray true) Q :=
  W.lateFC follows_mixed hΓ p x h hxp hoX hfA hpA hdA hfrA hneA (by rw [hA]; exact hst) (by rw [hA]; exact hs1) hfB hpB hdB hfrB hneB hmask (by rw [hsE]; exact hT)
end
end Go.Proofs.YtfgkfcfplodaoaaGreatDoor
