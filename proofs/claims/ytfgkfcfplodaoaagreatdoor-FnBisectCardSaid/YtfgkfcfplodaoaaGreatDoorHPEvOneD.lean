/-
  A region that draws its order around a call that moves a cursor, whose further arguments are reckoned in the region.
-/
import Derived.Test.YtfgkfcfplodaoaaGreatDoorHPEvOne
namespace Go.Proofs.YtfgkfcfplodaoaaGreatDoor
set_option maxRecDepth 100000
set_option linter.unusedVariables false
set_option linter.unusedSimpArgs false
open Go Go.RowKit
set_option linter.unusedVariables false

section
variable {P : Program} {Γ : Models} {γ0 : Nat → Option Nat} {w0 : World} {N : Nat} {Q : Exit → Act → World → Prop} {l : List Oper} {p : Nat} {As : List (List Nat)} {Es : List (List Entry)} {st0 st st' : St} {a : Act} {w : World}
/-- a region that draws its order: the x-th operation moves a cursor, the others up to p are free, then a tail -/
theorem W.oneD (hm : P.follows .mixedOrders = true) (hΓ : GSound P Γ) {id : Nat} (p x : Nat) (As : List (List Nat)) {d f m t0 : Nat} {xs : List Operand} {ts : Array TypeId} {ty : TypeId} {pos : String} {after : Array Edge}
    {A B : Type} {ok : A → Prop} {enc : A → List Arg} {rel : A → B → Prop} {res : A → B → Res} {v : B → PV} {EsA : List (List Entry)} {EsB : Cu → B → List (List Entry)} {restA rest : List Oper}
    (hf : Has P f) (hs : SoundCu P f ok enc rel res) (c : Cu) (hc : CuOk c) (a0 : A) (hok : ok a0)
    (h : chk l p As = true) (hxp : x < p) (hoX : l[x]? = some ⟨some d, .call ⟨.value (.func f), (.tmp t0 :: xs).toArray, ts⟩, ty, pos, after, none⟩) (hN : d < N)
    (hfA : FlowX P Γ N l.toArray As st0 0 l [] EsA restA) (hpA : p + restA.length = l.length) (hdA : distB EsA = true) (hfrA : freeB st0 EsA = true) (hneA : neM As x 0 EsA = true)
    (ht : getS (pickE' EsA 0 (inL (ancO As x)) st0) t0 = one (.ptr m 0)) (hb : getB st0 m = some (.box (cuL c))) (ha : ∀ st, (∀ t, Operand.tmp t ∈ xs → getS st t = getS (pickE' EsA 0 (inL (ancO As x)) st0) t) → datasO st m xs = some (enc a0))
    (hst : ∀ c' b st, impE (.blk m (.box (cuL c')) :: st) d (res a0 b) = .slot d (v b) :: .blk m (.box (cuL c')) :: st)
    (hB : ∀ c' b, CuTo c c' → rel a0 b → FlowX P Γ N l.toArray As (.slot d (v b) :: .blk m (.box (cuL c')) :: st0) 0 l [] (EsB c' b) rest ∧ p + rest.length = l.length ∧ distB (EsB c' b) = true ∧ freeB (.slot d (v b) :: .blk m (.box (cuL c')) :: st0) (EsB c' b) = true ∧ neB x 0 (EsB c' b) = true ∧ maskE As x 0 (EsB c' b) = EsA ∧ ((EsB c' b).all fun E => !hasS E d) = true ∧ WL P γ0 w0 N l.toArray rest (pickE' (EsB c' b) 0 (fun _ => true) (.slot d (v b) :: .blk m (.box (cuL c')) :: st0)) Q) :
    W P γ0 w0 N st0 (.region id l.toArray true) Q := fun a w hR => by
  have hpl : p ≤ l.length := by omega
  obtain ⟨sA, -⟩ := flowX_all h hfA hpA hdA hfrA
  refine wp_region_any hm ?_
  obtain ⟨η, γ, hI⟩ := hR
  have hR' : R γ0 w0 N st0 a w.drew := ⟨η, γ, hI.world w.drew rfl rfl rfl rfl⟩
  have hL0 : ∀ i, L (Array.replicate l.toArray.size false) i = false := fun i => by
    unfold L
    simp only [Array.getD_eq_getD_getElem?, Array.getElem?_replicate]
    split <;> rfl
  have hpick : pickE' EsA 0 (L (Array.replicate l.toArray.size false)) st0 = st0 := pick_none EsA 0 (fun j => hL0 _) st0
  refine draw_one (β := {q : Cu × B // CuTo c q.1 ∧ rel a0 q.2}) (EsB := fun q => EsB q.1.1 q.1.2) (st1 := fun q => .slot d (v q.1.2) :: .blk m (.box (cuL q.1.1)) :: st0) hΓ h hpl hxp sA (fun q => ?_) (fun i hi hix him he => ?_) (fun q i hi hix _ he => ?_) ?_ (fun q a w hR => ?_) _ _ a w.drew (by simp) (fun i o _ hL => by rw [hL0] at hL; cases hL) (fun i hL => by rw [hL0] at hL; cases hL) ?_ (fun _ => by rw [hpick]; exact hR') (fun hL => by rw [hL0] at hL; cases hL)
  · obtain ⟨b1, b2, b3, b4, _⟩ := hB _ _ q.2.1 q.2.2
    exact (flowX_all h b1 b2 b3 b4).1
  · exact neM_get As x 0 _ hneA i [] he (by omega) (by rw [Nat.zero_add]; exact him) rfl
  · obtain ⟨b1, b2, b3, b4, b5, _⟩ := hB _ _ q.2.1 q.2.2
    exact (neB_get x 0 _ b5 i [] he).2 (by omega) rfl
  · intro listed listed' hset hLx hlook hdesc _ a w K hR hK
    have hop : Operand.tmp t0 ∈ (Op.call ⟨.value (.func f), (.tmp t0 :: xs).toArray, ts⟩).operands.toList := by
      simp [Op.operands, Call.operands]
    have hev : ev (pickE' EsA 0 (L listed) st0) (.tmp t0) = one (.ptr m 0) := by
      rw [← ht]
      exact (hlook t0 _ hoX (by
        unfold Oper.looksAt
        exact List.mem_append_left _ (List.mem_filterMap.2 ⟨.tmp t0, hop, rfl⟩))).symm
    have hbm : getB (pickE' EsA 0 (L listed) st0) m = some (.box (cuL c)) := by
      rw [pick_B_none EsA 0 _ st0 sA.dist (fun j E hj _ => ?_), hb]
      cases hh : hasB E m with
      | false => rfl
      | true =>
        have := sA.free E (List.mem_of_getElem? hj) m hh
        rw [hb] at this
        cases this
    unfold wpOp
    have hget : l.toArray[x]? = some ⟨some d, .call ⟨.value (.func f), (.tmp t0 :: xs).toArray, ts⟩, ty, pos, after, none⟩ := by simpa using hoX
    rw [hget]
    simp only
    rw [if_pos (by simp [Region.wanted])]
    left
    refine opC_wp hf hs (c, a0) ⟨hc, hok⟩ hN hev hbm (cuL_ex c) (ha _ fun t1 ht1 => (hlook t1 _ hoX (by
      unfold Oper.looksAt
      exact List.mem_append_left _ (List.mem_filterMap.2 ⟨.tmp t1, by simp [Op.operands, Call.operands, ht1], rfl⟩))).symm) (fun y hy a' w' hR2 => ?_) hR
    rw [hst y.1 y.2] at hR2
    obtain ⟨b1, b2, b3, b4, b5, b6, b7, _⟩ := hB _ _ hy.1 hy.2
    have sB := (flowX_all h b1 b2 b3 b4).1
    have hsame : ∀ j, L listed j = true → EsA[j]? = (EsB y.1 y.2)[j]? := fun j hj => by
      rw [← b6]
      exact maskE_get As x 0 _ j (by rw [Nat.zero_add]; exact hdesc j hj)
    have hL' : ∀ (j : Nat) E, (EsB y.1 y.2)[j]? = some E → E ≠ [] → L listed' (0 + j) = true → L listed j = true := fun j E hj hne hL => by
      rw [Nat.zero_add, hset] at hL
      by_cases e : x = j
      · exact absurd ((neB_get x 0 _ b5 j E hj).1 (by omega)) hne
      · rwa [if_neg e] at hL
    have hL2 : ∀ j, L listed j = true → L listed' (0 + j) = true := fun j hj => by
      rw [Nat.zero_add, hset]
      split
      · rfl
      · exact hj
    refine hK ⟨y, hy⟩ a' w' (hR2.congr (fun t => ?_) (fun n => ?_))
    · show (if d = t then v y.2 else getS (pickE' EsA 0 (L listed) st0) t) = _
      by_cases hx : ∃ (j : Nat) (E : List Entry), (EsB y.1 y.2)[j]? = some E ∧ L listed' (0 + j) = true ∧ hasS E t = true
      · obtain ⟨j, E, h1, h2, h3⟩ := hx
        have hj := hL' j E h1 (hasS_ne h3) h2
        rw [pick_S_some _ 0 _ _ sB.dist j E h1 h2 h3, if_neg (fun e => by
          have := List.all_eq_true.1 b7 E (List.mem_of_getElem? h1)
          rw [e, h3] at this
          cases this), pick_S_some _ 0 _ _ sA.dist j E (by rw [hsame j hj]; exact h1) (by rw [Nat.zero_add]; exact hj) h3]
      · have hn : ∀ (j : Nat) E, (EsB y.1 y.2)[j]? = some E → L listed' (0 + j) = true → hasS E t = false := fun j E h1 h2 => by
          cases h3 : hasS E t with
          | false => rfl
          | true => exact absurd ⟨j, E, h1, h2, h3⟩ hx
        rw [pick_S_none _ 0 _ _ sB.dist hn, pick_S_none EsA 0 _ st0 sA.dist (fun j E hj hL => ?_)]
        · rfl
        · rw [Nat.zero_add] at hL
          rw [hsame j hL] at hj
          exact hn j E hj (hL2 j hL)
    · show (if m = n then some (.box (cuL y.1)) else getB (pickE' EsA 0 (L listed) st0) n) = _
      by_cases hx : ∃ (j : Nat) (E : List Entry), (EsB y.1 y.2)[j]? = some E ∧ L listed' (0 + j) = true ∧ hasB E n = true
      · obtain ⟨j, E, h1, h2, h3⟩ := hx
        have hj := hL' j E h1 (hasB_ne h3) h2
        rw [pick_B_some _ 0 _ _ sB.dist j E h1 h2 h3, if_neg (fun e => by
          have := sB.free E (List.mem_of_getElem? h1) n h3
          rw [← e] at this
          simp [getB] at this), pick_B_some _ 0 _ _ sA.dist j E (by rw [hsame j hj]; exact h1) (by rw [Nat.zero_add]; exact hj) h3]
      · have hn : ∀ (j : Nat) E, (EsB y.1 y.2)[j]? = some E → L listed' (0 + j) = true → hasB E n = false := fun j E h1 h2 => by
          cases h3 : hasB E n with
          | false => rfl
          | true => exact absurd ⟨j, E, h1, h2, h3⟩ hx
        rw [pick_B_none _ 0 _ _ sB.dist hn, pick_B_none EsA 0 _ st0 sA.dist (fun j E hj hL => ?_)]
        · rfl
        · rw [Nat.zero_add] at hL
          rw [hsame j hL] at hj
          exact hn j E hj (hL2 j hL)
  · obtain ⟨b1, b2, b3, b4, b5, b6, b7, b8⟩ := hB _ _ q.2.1 q.2.2
    rw [← (flowX_all h b1 b2 b3 b4).2]
    exact b8 a w hR
  · simp only [hL0]
    simp
end
section
variable {Γ : Models} {γ0 : Nat → Option Nat} {w0 : World} {N : Nat} {Q : Exit → Act → World → Prop}
theorem W.oneDA (hΓ : GSound Tryz.prog Γ) {l : List Oper} {st0 stX : St} {id : Nat} (p : Nat) (As : List (List Nat)) (x : Nat) {d f m t0 : Nat} {xs : List Operand} {ts : Array TypeId} {ty : TypeId} {pos : String} {after : Array Edge}
    {A B : Type} {ok : A → Prop} {enc : A → List Arg} {rel : A → B → Prop} {res : A → B → Res} {EsA : List (List Entry)} {EsB : Cu → B → List (List Entry)} {restA rest : List Oper}
    (hf : Has Tryz.prog f) (hs : SoundCu Tryz.prog f ok enc rel res) (c : Cu) (hc : CuOk c) (a0 : A) (hok : ok a0) (v : B → PV)
    (h : chk l p As = true) (hxp : x < p) (hoX : l[x]? = some ⟨some d, .call ⟨.value (.func f), (.tmp t0 :: xs).toArray, ts⟩, ty, pos, after, none⟩) (hN : d < N)
    (hfA : FlowX Tryz.prog Γ N l.toArray As st0 0 l [] EsA restA) (hpA : p + restA.length = l.length) (hdA : distB EsA = true) (hfrA : freeB st0 EsA = true) (hneA : neM As x 0 EsA = true)
    (hpk : pickE' EsA 0 (inL (ancO As x)) st0 = stX) (ht : getS stX t0 = one (.ptr m 0)) (hb : getB st0 m = some (.box (cuL c))) (ha : ∀ st, (∀ t, Operand.tmp t ∈ xs → getS st t = getS stX t) → datasO st m xs = some (enc a0))
    (hst : ∀ c' b st, impE (.blk m (.box (cuL c')) :: st) d (res a0 b) = .slot d (v b) :: .blk m (.box (cuL c')) :: st)
    (hB : ∀ c' b, CuTo c c' → rel a0 b → FlowX Tryz.prog Γ N l.toArray As (.slot d (v b) :: .blk m (.box (cuL c')) :: st0) 0 l [] (EsB c' b) rest ∧ p + rest.length = l.length ∧ distB (EsB c' b) = true ∧ freeB (.slot d (v b) :: .blk m (.box (cuL c')) :: st0) (EsB c' b) = true ∧ neB x 0 (EsB c' b) = true ∧ maskE As x 0 (EsB c' b) = EsA ∧ ((EsB c' b).all fun E => !hasS E d) = true ∧ WL Tryz.prog γ0 w0 N l.toArray rest (pickE' (EsB c' b) 0 (fun _ => true) (.slot d (v b) :: .blk m (.box (cuL c')) :: st0)) Q) :
    W Tryz.prog γ0 w0 N st0 (.region id l.toArray true) Q :=
  W.oneD follows_mixed hΓ p x As hf hs c hc a0 hok h hxp hoX hN hfA hpA hdA hfrA hneA (by rw [hpk]; exact ht) hb (fun st h => ha st (fun t ht => (h t ht).trans (by rw [hpk]))) hst hB
end
end Go.Proofs.YtfgkfcfplodaoaaGreatDoor
