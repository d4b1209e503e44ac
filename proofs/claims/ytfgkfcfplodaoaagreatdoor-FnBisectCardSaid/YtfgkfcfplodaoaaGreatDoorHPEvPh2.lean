/-
  A region that draws its order around calls that move a cursor and stores behind them. Printed by gen_ph2.py.
-/
import Derived.Test.YtfgkfcfplodaoaaGreatDoorHPEvPh
import Derived.Test.YtfgkfcfplodaoaaGreatDoorHPEvLate
namespace Go.Proofs.YtfgkfcfplodaoaaGreatDoor
set_option maxRecDepth 100000
set_option linter.unusedVariables false
set_option linter.unusedSimpArgs false
open Go Go.RowKit
set_option linter.unusedVariables false

section
variable {P : Program} {Γ : Models} {γ0 : Nat → Option Nat} {w0 : World} {N : Nat} {Q : Exit → Act → World → Prop} {l : List Oper} {p : Nat} {As : List (List Nat)} {st0 : St}
theorem store_ph (hΓ : GSound P Γ) (x : Nat) {t : TypeId} {xo yo : Operand} {ty : TypeId} {pos : String} {after : Array Edge} {n : Nat} {b : Blk} {EsA EsB : List (List Entry)}
    (hoX : l[x]? = some ⟨none, .store t xo yo, ty, pos, after, none⟩) (sA : StepsX P Γ N l p As st0 EsA) (hst : storeL P (pickE' EsA 0 (inL (ancO As x)) st0) t xo yo = some (n, b))
    (sB : StepsX P Γ N l p As (.blk n b :: st0) EsB) (b5 : ∀ j E, EsB[j]? = some E → j = x → E = []) (b6 : maskE As x 0 EsB = EsA)
    {listed listed' : Array Bool} (hset : ∀ j, L listed' j = if x = j then true else L listed j) (hlook : ∀ t, ∀ o, l[x]? = some o → t ∈ o.looksAt l.toArray → getS (pickE' EsA 0 (inL (ancO As x)) st0) t = getS (pickE' EsA 0 (L listed) st0) t) (hdesc : ∀ j, L listed j = true → x ∉ ancO As j) (hancs : ∀ j, j ∈ ancO As x → L listed j = true)
    {a : Act} {w : World} {K : Act → World → Prop} (hR : R γ0 w0 N (pickE' EsA 0 (L listed) st0) a w)
    (hK : ∀ a' w', R γ0 w0 N (pickE' EsB 0 (L listed') (.blk n b :: st0)) a' w' → K a' w') : wpOp P l.toArray Q x K a w := by
  have hev : ∀ z ∈ (Op.store t xo yo).operands.toList, ev (pickE' EsA 0 (inL (ancO As x)) st0) z = ev (pickE' EsA 0 (L listed) st0) z := fun z hz => by
    cases z with
    | tmp s => exact hlook s _ hoX (by unfold Oper.looksAt; exact List.mem_append_left _ (List.mem_filterMap.2 ⟨.tmp s, hz, rfl⟩))
    | const v => rfl
    | global g => rfl
    | func f => rfl
  have hle : ∀ j, inL (ancO As x) j = true → L listed j = true := fun j hj => hancs j (by unfold inL at hj; simpa using hj)
  have hst' := storeL_mono (pick_leX sA.dist sA.free hle) (hev xo (by simp [Op.operands])) (hev yo (by simp [Op.operands])) hst
  have hE := storeL_E hst'
  unfold wpOp
  have hget : l.toArray[x]? = some ⟨none, .store t xo yo, ty, pos, after, none⟩ := by simpa using hoX
  rw [hget]
  simp only
  rw [if_pos (by simp [Region.wanted])]
  left
  refine stepO_sound (o := ⟨none, .store t xo yo, ty, pos, after, none⟩) (st' := .blk n b :: pickE' EsA 0 (L listed) st0) hΓ hR hE fun a' w' hR2 => ?_
  have hsame : ∀ j, L listed j = true → EsA[j]? = EsB[j]? := fun j hj => by
    rw [← b6]
    exact maskE_get As x 0 _ j (by rw [Nat.zero_add]; exact hdesc j hj)
  have hL' : ∀ (j : Nat) E, EsB[j]? = some E → E ≠ [] → L listed' (0 + j) = true → L listed j = true := fun j E hj hne hL => by
    rw [Nat.zero_add, hset] at hL
    by_cases e : x = j
    · exact absurd (b5 j E hj e.symm) hne
    · rwa [if_neg e] at hL
  have hL2 : ∀ j, L listed j = true → L listed' (0 + j) = true := fun j hj => by
    rw [Nat.zero_add, hset]
    split
    · rfl
    · exact hj
  refine hK a' w' (hR2.congr (fun t => ?_) (fun n' => ?_))
  · show getS (pickE' EsA 0 (L listed) st0) t = _
    by_cases hx : ∃ (j : Nat) (E : List Entry), EsB[j]? = some E ∧ L listed' (0 + j) = true ∧ hasS E t = true
    · obtain ⟨j, E, h1, h2, h3⟩ := hx
      have hj := hL' j E h1 (hasS_ne h3) h2
      rw [pick_S_some EsB 0 _ _ sB.dist j E h1 h2 h3, pick_S_some EsA 0 _ st0 sA.dist j E (by rw [hsame j hj]; exact h1) (by rw [Nat.zero_add]; exact hj) h3]
    · have hn : ∀ (j : Nat) E, EsB[j]? = some E → L listed' (0 + j) = true → hasS E t = false := fun j E h1 h2 => by
        cases h3 : hasS E t with
        | false => rfl
        | true => exact absurd ⟨j, E, h1, h2, h3⟩ hx
      rw [pick_S_none EsB 0 _ _ sB.dist hn, pick_S_none EsA 0 _ st0 sA.dist (fun j E hj hL => ?_)]
      · rfl
      · rw [Nat.zero_add] at hL
        rw [hsame j hL] at hj
        exact hn j E hj (hL2 j hL)
  · show (if n = n' then some b else getB (pickE' EsA 0 (L listed) st0) n') = _
    by_cases hx : ∃ (j : Nat) (E : List Entry), EsB[j]? = some E ∧ L listed' (0 + j) = true ∧ hasB E n' = true
    · obtain ⟨j, E, h1, h2, h3⟩ := hx
      have hj := hL' j E h1 (hasB_ne h3) h2
      rw [pick_B_some EsB 0 _ _ sB.dist j E h1 h2 h3, if_neg (fun e => by
        have := sB.free E (List.mem_of_getElem? h1) n' h3
        rw [← e] at this
        simp [getB] at this), pick_B_some EsA 0 _ st0 sA.dist j E (by rw [hsame j hj]; exact h1) (by rw [Nat.zero_add]; exact hj) h3]
    · have hn : ∀ (j : Nat) E, EsB[j]? = some E → L listed' (0 + j) = true → hasB E n' = false := fun j E h1 h2 => by
        cases h3 : hasB E n' with
        | false => rfl
        | true => exact absurd ⟨j, E, h1, h2, h3⟩ hx
      rw [pick_B_none EsB 0 _ _ sB.dist hn, pick_B_none EsA 0 _ st0 sA.dist (fun j E hj hL => ?_)]
      · rfl
      · rw [Nat.zero_add] at hL
        rw [hsame j hL] at hj
        exact hn j E hj (hL2 j hL)
end
/-- what has been done -/
inductive Ph32 (k : Cu) {A B : Type} (rel : A → B → Prop) (a1 a2 a3 : A) : Type
  | p0
  | p1 (c1 : Cu) (b1 : B) (h1 : CuTo k c1 ∧ rel a1 b1)
  | p2 (c1 : Cu) (b1 : B) (h1 : CuTo k c1 ∧ rel a1 b1) (c2 : Cu) (b2 : B) (h2 : CuTo c1 c2 ∧ rel a2 b2)
  | p3 (c1 : Cu) (b1 : B) (h1 : CuTo k c1 ∧ rel a1 b1) (c2 : Cu) (b2 : B) (h2 : CuTo c1 c2 ∧ rel a2 b2) (c3 : Cu) (b3 : B) (h3 : CuTo c2 c3 ∧ rel a3 b3)
  | p4 (c1 : Cu) (b1 : B) (h1 : CuTo k c1 ∧ rel a1 b1) (c2 : Cu) (b2 : B) (h2 : CuTo c1 c2 ∧ rel a2 b2) (c3 : Cu) (b3 : B) (h3 : CuTo c2 c3 ∧ rel a3 b3)
  | p5 (c1 : Cu) (b1 : B) (h1 : CuTo k c1 ∧ rel a1 b1) (c2 : Cu) (b2 : B) (h2 : CuTo c1 c2 ∧ rel a2 b2) (c3 : Cu) (b3 : B) (h3 : CuTo c2 c3 ∧ rel a3 b3)
section
variable {P : Program} {Γ : Models} {γ0 : Nat → Option Nat} {w0 : World} {N : Nat} {Q : Exit → Act → World → Prop} {l : List Oper} {p : Nat} {As : List (List Nat)} {Es : List (List Entry)} {st0 st st' : St} {a : Act} {w : World}
theorem W.ph32C (hm : P.follows .mixedOrders = true) (hΓ : GSound P Γ) {id : Nat} (p x1 x2 x3 x4 x5 : Nat) (As : List (List Nat)) {d1 d2 d3 f m t1 t2 t3 n4 n5 : Nat} {xs1 xs2 xs3 : List Operand} {ts1 ts2 ts3 : Array TypeId} {ty1 ty2 ty3 ty4 ty5 t4 t5 : TypeId} {po1 po2 po3 po4 po5 : String} {af1 af2 af3 af4 af5 : Array Edge} {xo4 xo5 yo4 yo5 : Operand}
    {A B : Type} {ok : A → Prop} {enc : A → List Arg} {rel : A → B → Prop} {res : A → B → Res} {v : B → PV} {E0 : List (List Entry)} {E1 : Cu → B → List (List Entry)} {E2 : Cu → B → Cu → B → List (List Entry)} {E3 : Cu → B → Cu → B → Cu → B → List (List Entry)} {E4 : Cu → B → Cu → B → Cu → B → List (List Entry)} {E5 : Cu → B → Cu → B → Cu → B → List (List Entry)} {k4 k5 : Cu → B → Cu → B → Cu → B → Blk}
    (hf : Has P f) (hs : SoundCu P f ok enc rel res) (c0 : Cu) (hc0 : CuOk c0) (a1 a2 a3 : A) (ok1 : ok a1) (ok2 : ok a2) (ok3 : ok a3)
    (h : chk l p As = true) (hpl : p ≤ l.length) (hx1 : x1 < p) (hx2 : x2 < p) (hx3 : x3 < p) (hx4 : x4 < p) (hx5 : x5 < p) (hnd : [x1, x2, x3, x4, x5].Nodup) (q1 : x1 ∈ ancO As x2) (q2 : x2 ∈ ancO As x3) (q3 : x3 ∈ ancO As x4) (q4 : x4 ∈ ancO As x5)
    (ho1 : l[x1]? = some ⟨some d1, .call ⟨.value (.func f), (.tmp t1 :: xs1).toArray, ts1⟩, ty1, po1, af1, none⟩) (ho2 : l[x2]? = some ⟨some d2, .call ⟨.value (.func f), (.tmp t2 :: xs2).toArray, ts2⟩, ty2, po2, af2, none⟩) (ho3 : l[x3]? = some ⟨some d3, .call ⟨.value (.func f), (.tmp t3 :: xs3).toArray, ts3⟩, ty3, po3, af3, none⟩)
    (ho4 : l[x4]? = some ⟨none, .store t4 xo4 yo4, ty4, po4, af4, none⟩) (ho5 : l[x5]? = some ⟨none, .store t5 xo5 yo5, ty5, po5, af5, none⟩)
    (hN1 : d1 < N) (hN2 : d2 < N) (hN3 : d3 < N) (hb : getB st0 m = some (.box (cuL c0))) (ha1 : ∀ st, datasO st m xs1 = some (enc a1)) (ha2 : ∀ st, datasO st m xs2 = some (enc a2)) (ha3 : ∀ st, datasO st m xs3 = some (enc a3))
    (hst1 : ∀ c' b st, impE (.blk m (.box (cuL c')) :: st) d1 (res a1 b) = stC d1 m (v b) c' st) (hst2 : ∀ c' b st, impE (.blk m (.box (cuL c')) :: st) d2 (res a2 b) = stC d2 m (v b) c' st) (hst3 : ∀ c' b st, impE (.blk m (.box (cuL c')) :: st) d3 (res a3 b) = stC d3 m (v b) c' st)
    (S0 : StepsX P Γ N l p As st0 E0 ∧ neP As (fun i => decide (i = x1 ∨ i = x2 ∨ i = x3 ∨ i = x4 ∨ i = x5)) (fun _ => false) [x1, x2, x3, x4, x5] 0 E0 = true ∧ getS (pickE' E0 0 (inL (ancO As x1)) st0) t1 = one (.ptr m 0))
    (S1 : ∀ c1 b1, CuTo c0 c1 → rel a1 b1 → StepsX P Γ N l p As (stC d1 m (v b1) c1 st0) (E1 c1 b1) ∧ neP As (fun i => decide (i = x1 ∨ i = x2 ∨ i = x3 ∨ i = x4 ∨ i = x5)) (fun i => decide (i = x1)) [x1, x2, x3, x4, x5] 0 (E1 c1 b1) = true ∧ getS (pickE' (E1 c1 b1) 0 (inL (ancO As x2)) (stC d1 m (v b1) c1 st0)) t2 = one (.ptr m 0) ∧ (∀ j E, (E1 c1 b1)[j]? = some E → j = x1 → E = []) ∧ maskE As x1 0 (E1 c1 b1) = E0 ∧ ((E1 c1 b1).all fun E => !hasS E d1) = true)
    (S2 : ∀ c1 b1 c2 b2, CuTo c0 c1 → rel a1 b1 → CuTo c1 c2 → rel a2 b2 → StepsX P Γ N l p As (stC d2 m (v b2) c2 (stC d1 m (v b1) c1 st0)) (E2 c1 b1 c2 b2) ∧ neP As (fun i => decide (i = x1 ∨ i = x2 ∨ i = x3 ∨ i = x4 ∨ i = x5)) (fun i => decide (i = x1 ∨ i = x2)) [x1, x2, x3, x4, x5] 0 (E2 c1 b1 c2 b2) = true ∧ getS (pickE' (E2 c1 b1 c2 b2) 0 (inL (ancO As x3)) (stC d2 m (v b2) c2 (stC d1 m (v b1) c1 st0))) t3 = one (.ptr m 0) ∧ (∀ j E, (E2 c1 b1 c2 b2)[j]? = some E → j = x2 → E = []) ∧ maskE As x2 0 (E2 c1 b1 c2 b2) = E1 c1 b1 ∧ ((E2 c1 b1 c2 b2).all fun E => !hasS E d2) = true)
    (S3 : ∀ c1 b1 c2 b2 c3 b3, CuTo c0 c1 → rel a1 b1 → CuTo c1 c2 → rel a2 b2 → CuTo c2 c3 → rel a3 b3 → StepsX P Γ N l p As (stC d3 m (v b3) c3 (stC d2 m (v b2) c2 (stC d1 m (v b1) c1 st0))) (E3 c1 b1 c2 b2 c3 b3) ∧ neP As (fun i => decide (i = x1 ∨ i = x2 ∨ i = x3 ∨ i = x4 ∨ i = x5)) (fun i => decide (i = x1 ∨ i = x2 ∨ i = x3)) [x1, x2, x3, x4, x5] 0 (E3 c1 b1 c2 b2 c3 b3) = true ∧ storeL P (pickE' (E3 c1 b1 c2 b2 c3 b3) 0 (inL (ancO As x4)) (stC d3 m (v b3) c3 (stC d2 m (v b2) c2 (stC d1 m (v b1) c1 st0)))) t4 xo4 yo4 = some (n4, k4 c1 b1 c2 b2 c3 b3) ∧ (∀ j E, (E3 c1 b1 c2 b2 c3 b3)[j]? = some E → j = x3 → E = []) ∧ maskE As x3 0 (E3 c1 b1 c2 b2 c3 b3) = E2 c1 b1 c2 b2 ∧ ((E3 c1 b1 c2 b2 c3 b3).all fun E => !hasS E d3) = true)
    (S4 : ∀ c1 b1 c2 b2 c3 b3, CuTo c0 c1 → rel a1 b1 → CuTo c1 c2 → rel a2 b2 → CuTo c2 c3 → rel a3 b3 → StepsX P Γ N l p As (.blk n4 (k4 c1 b1 c2 b2 c3 b3) :: (stC d3 m (v b3) c3 (stC d2 m (v b2) c2 (stC d1 m (v b1) c1 st0)))) (E4 c1 b1 c2 b2 c3 b3) ∧ neP As (fun i => decide (i = x1 ∨ i = x2 ∨ i = x3 ∨ i = x4 ∨ i = x5)) (fun i => decide (i = x1 ∨ i = x2 ∨ i = x3 ∨ i = x4)) [x1, x2, x3, x4, x5] 0 (E4 c1 b1 c2 b2 c3 b3) = true ∧ storeL P (pickE' (E4 c1 b1 c2 b2 c3 b3) 0 (inL (ancO As x5)) (.blk n4 (k4 c1 b1 c2 b2 c3 b3) :: (stC d3 m (v b3) c3 (stC d2 m (v b2) c2 (stC d1 m (v b1) c1 st0))))) t5 xo5 yo5 = some (n5, k5 c1 b1 c2 b2 c3 b3) ∧ (∀ j E, (E4 c1 b1 c2 b2 c3 b3)[j]? = some E → j = x4 → E = []) ∧ maskE As x4 0 (E4 c1 b1 c2 b2 c3 b3) = E3 c1 b1 c2 b2 c3 b3)
    (S5 : ∀ c1 b1 c2 b2 c3 b3, CuTo c0 c1 → rel a1 b1 → CuTo c1 c2 → rel a2 b2 → CuTo c2 c3 → rel a3 b3 → StepsX P Γ N l p As (.blk n5 (k5 c1 b1 c2 b2 c3 b3) :: (.blk n4 (k4 c1 b1 c2 b2 c3 b3) :: (stC d3 m (v b3) c3 (stC d2 m (v b2) c2 (stC d1 m (v b1) c1 st0))))) (E5 c1 b1 c2 b2 c3 b3) ∧ neP As (fun i => decide (i = x1 ∨ i = x2 ∨ i = x3 ∨ i = x4 ∨ i = x5)) (fun i => decide (i = x1 ∨ i = x2 ∨ i = x3 ∨ i = x4 ∨ i = x5)) [x1, x2, x3, x4, x5] 0 (E5 c1 b1 c2 b2 c3 b3) = true ∧ (∀ j E, (E5 c1 b1 c2 b2 c3 b3)[j]? = some E → j = x5 → E = []) ∧ maskE As x5 0 (E5 c1 b1 c2 b2 c3 b3) = E4 c1 b1 c2 b2 c3 b3)
    (hT : ∀ c1 b1 c2 b2 c3 b3, CuTo c0 c1 → rel a1 b1 → CuTo c1 c2 → rel a2 b2 → CuTo c2 c3 → rel a3 b3 → WL P γ0 w0 N l.toArray (l.drop p) (pickE' (E5 c1 b1 c2 b2 c3 b3) 0 (fun _ => true) (.blk n5 (k5 c1 b1 c2 b2 c3 b3) :: (.blk n4 (k4 c1 b1 c2 b2 c3 b3) :: (stC d3 m (v b3) c3 (stC d2 m (v b2) c2 (stC d1 m (v b1) c1 st0)))))) Q) :
    W P γ0 w0 N st0 (.region id l.toArray true) Q := fun a w hR => by
  refine wp_region_any hm ?_
  obtain ⟨η, γ, hI⟩ := hR
  have hR' : R γ0 w0 N st0 a w.drew := ⟨η, γ, hI.world w.drew rfl rfl rfl rfl⟩
  have hL0 : ∀ i, L (Array.replicate l.toArray.size false) i = false := fun i => by
    unfold L
    simp only [Array.getD_eq_getD_getElem?, Array.getElem?_replicate]
    split <;> rfl
  have hpick : pickE' E0 0 (L (Array.replicate l.toArray.size false)) st0 = st0 := pick_none E0 0 (fun j => hL0 _) st0
  have hsps : ∀ k ∈ [x1, x2, x3, x4, x5], (fun i => decide (i = x1 ∨ i = x2 ∨ i = x3 ∨ i = x4 ∨ i = x5)) k = true := fun k hk => by
    simpa using hk
  have d1_2 : x1 ≠ x2 := fun e => by subst e; simp at hnd
  have d1_3 : x1 ≠ x3 := fun e => by subst e; simp at hnd
  have d1_4 : x1 ≠ x4 := fun e => by subst e; simp at hnd
  have d1_5 : x1 ≠ x5 := fun e => by subst e; simp at hnd
  have d2_3 : x2 ≠ x3 := fun e => by subst e; simp at hnd
  have d2_4 : x2 ≠ x4 := fun e => by subst e; simp at hnd
  have d2_5 : x2 ≠ x5 := fun e => by subst e; simp at hnd
  have d3_4 : x3 ≠ x4 := fun e => by subst e; simp at hnd
  have d3_5 : x3 ≠ x5 := fun e => by subst e; simp at hnd
  have d4_5 : x4 ≠ x5 := fun e => by subst e; simp at hnd
  refine draw_ph (Φ := Ph32 c0 rel a1 a2 a3) (st := fun φ => match φ with | .p0 => st0 | .p1 c1 b1 _ => (stC d1 m (v b1) c1 st0) | .p2 c1 b1 _ c2 b2 _ => (stC d2 m (v b2) c2 (stC d1 m (v b1) c1 st0)) | .p3 c1 b1 _ c2 b2 _ c3 b3 _ => (stC d3 m (v b3) c3 (stC d2 m (v b2) c2 (stC d1 m (v b1) c1 st0))) | .p4 c1 b1 _ c2 b2 _ c3 b3 _ => (.blk n4 (k4 c1 b1 c2 b2 c3 b3) :: (stC d3 m (v b3) c3 (stC d2 m (v b2) c2 (stC d1 m (v b1) c1 st0)))) | .p5 c1 b1 _ c2 b2 _ c3 b3 _ => (.blk n5 (k5 c1 b1 c2 b2 c3 b3) :: (.blk n4 (k4 c1 b1 c2 b2 c3 b3) :: (stC d3 m (v b3) c3 (stC d2 m (v b2) c2 (stC d1 m (v b1) c1 st0))))))
    (Es := fun φ => match φ with | .p0 => E0 | .p1 c1 b1 _ => E1 c1 b1 | .p2 c1 b1 _ c2 b2 _ => E2 c1 b1 c2 b2 | .p3 c1 b1 _ c2 b2 _ c3 b3 _ => E3 c1 b1 c2 b2 c3 b3 | .p4 c1 b1 _ c2 b2 _ c3 b3 _ => E4 c1 b1 c2 b2 c3 b3 | .p5 c1 b1 _ c2 b2 _ c3 b3 _ => E5 c1 b1 c2 b2 c3 b3) hΓ h hpl (fun i => decide (i = x1 ∨ i = x2 ∨ i = x3 ∨ i = x4 ∨ i = x5))
    (fun φ => match φ with | .p0 => (fun _ => false) | .p1 c1 b1 _ => (fun i => decide (i = x1)) | .p2 c1 b1 _ c2 b2 _ => (fun i => decide (i = x1 ∨ i = x2)) | .p3 c1 b1 _ c2 b2 _ c3 b3 _ => (fun i => decide (i = x1 ∨ i = x2 ∨ i = x3)) | .p4 c1 b1 _ c2 b2 _ c3 b3 _ => (fun i => decide (i = x1 ∨ i = x2 ∨ i = x3 ∨ i = x4)) | .p5 c1 b1 _ c2 b2 _ c3 b3 _ => (fun i => decide (i = x1 ∨ i = x2 ∨ i = x3 ∨ i = x4 ∨ i = x5))) (fun φ => ?_) (fun φ i hi hsi hp1 hp2 => ?_) (fun φ x hxp hsx hdx hanc listed listed' hset hLx hlook hdesc hancL a w K hR hK => ?_) (fun φ a w hall hR => ?_) _ _ a w.drew .p0 (by simp) (fun i o _ hL => by rw [hL0] at hL; cases hL) (fun i hL => by rw [hL0] at hL; cases hL) (by simp only [hL0]; simp) (fun i _ => hL0 i) (by rw [hpick]; exact hR')
  · cases φ with
    | p0  => exact S0.1
    | p1 c1 b1 h1 => exact (S1 c1 b1 h1.1 h1.2).1
    | p2 c1 b1 h1 c2 b2 h2 => exact (S2 c1 b1 c2 b2 h1.1 h1.2 h2.1 h2.2).1
    | p3 c1 b1 h1 c2 b2 h2 c3 b3 h3 => exact (S3 c1 b1 c2 b2 c3 b3 h1.1 h1.2 h2.1 h2.2 h3.1 h3.2).1
    | p4 c1 b1 h1 c2 b2 h2 c3 b3 h3 => exact (S4 c1 b1 c2 b2 c3 b3 h1.1 h1.2 h2.1 h2.2 h3.1 h3.2).1
    | p5 c1 b1 h1 c2 b2 h2 c3 b3 h3 => exact (S5 c1 b1 c2 b2 c3 b3 h1.1 h1.2 h2.1 h2.2 h3.1 h3.2).1
  · cases φ with
    | p0  => exact neP_get hsps 0 _ S0.2.1 i (by rw [Nat.zero_add]; exact hsi) (by rw [Nat.zero_add]; exact hp1) (by rw [Nat.zero_add]; exact hp2)
    | p1 c1 b1 h1 => exact neP_get hsps 0 _ (S1 c1 b1 h1.1 h1.2).2.1 i (by rw [Nat.zero_add]; exact hsi) (by rw [Nat.zero_add]; exact hp1) (by rw [Nat.zero_add]; exact hp2)
    | p2 c1 b1 h1 c2 b2 h2 => exact neP_get hsps 0 _ (S2 c1 b1 c2 b2 h1.1 h1.2 h2.1 h2.2).2.1 i (by rw [Nat.zero_add]; exact hsi) (by rw [Nat.zero_add]; exact hp1) (by rw [Nat.zero_add]; exact hp2)
    | p3 c1 b1 h1 c2 b2 h2 c3 b3 h3 => exact neP_get hsps 0 _ (S3 c1 b1 c2 b2 c3 b3 h1.1 h1.2 h2.1 h2.2 h3.1 h3.2).2.1 i (by rw [Nat.zero_add]; exact hsi) (by rw [Nat.zero_add]; exact hp1) (by rw [Nat.zero_add]; exact hp2)
    | p4 c1 b1 h1 c2 b2 h2 c3 b3 h3 => exact neP_get hsps 0 _ (S4 c1 b1 c2 b2 c3 b3 h1.1 h1.2 h2.1 h2.2 h3.1 h3.2).2.1 i (by rw [Nat.zero_add]; exact hsi) (by rw [Nat.zero_add]; exact hp1) (by rw [Nat.zero_add]; exact hp2)
    | p5 c1 b1 h1 c2 b2 h2 c3 b3 h3 => exact neP_get hsps 0 _ (S5 c1 b1 c2 b2 c3 b3 h1.1 h1.2 h2.1 h2.2 h3.1 h3.2).2.1 i (by rw [Nat.zero_add]; exact hsi) (by rw [Nat.zero_add]; exact hp1) (by rw [Nat.zero_add]; exact hp2)
  · have hsx' : x = x1 ∨ x = x2 ∨ x = x3 ∨ x = x4 ∨ x = x5 := of_decide_eq_true hsx
    cases φ with
    | p0  =>
      have hxx : x = x1 := by
        rcases hsx' with e | e | e | e | e
        · exact e
        · subst e
          have q := hanc x1 q1 (by simp)
          simp at q
        · subst e
          have q := hanc x2 q2 (by simp)
          simp at q
        · subst e
          have q := hanc x3 q3 (by simp)
          simp at q
        · subst e
          have q := hanc x4 q4 (by simp)
          simp at q
      subst hxx
      exact call_ph x hf hs c0 hc0 a1 ok1 ho1 hN1 S0.1 S0.2.2 hb (fun st _ => ha1 st) hst1 (fun c' b hc hr => ⟨(S1  c' b  hc hr).1, (S1  c' b  hc hr).2.2.2⟩) hset hlook hdesc hR fun c' b a' w' hc hr hR2 => hK (.p1  c' b ⟨hc, hr⟩) a' w' (fun k => by
        by_cases e : x = k
        · subst e; simp
        · have e2 : ¬ k = x := fun h => e h.symm
          simp [e, e2]) hR2
    | p1 c1 b1 h1 =>
      have hxx : x = x2 := by
        rcases hsx' with e | e | e | e | e
        · subst e; simp at hdx
        · exact e
        · subst e
          have q := hanc x2 q2 (by simp)
          simp [d1_2, d1_2.symm] at q
        · subst e
          have q := hanc x3 q3 (by simp)
          simp [d1_3, d1_3.symm] at q
        · subst e
          have q := hanc x4 q4 (by simp)
          simp [d1_4, d1_4.symm] at q
      subst hxx
      exact call_ph x hf hs c1 h1.1.ok a2 ok2 ho2 hN2 (S1 c1 b1 h1.1 h1.2).1 (S1 c1 b1 h1.1 h1.2).2.2.1 (by simp [getB]) (fun st _ => ha2 st) hst2 (fun c' b hc hr => ⟨(S2 c1 b1 c' b h1.1 h1.2 hc hr).1, (S2 c1 b1 c' b h1.1 h1.2 hc hr).2.2.2⟩) hset hlook hdesc hR fun c' b a' w' hc hr hR2 => hK (.p2 c1 b1 h1 c' b ⟨hc, hr⟩) a' w' (fun k => by
        by_cases e : x = k
        · subst e; simp
        · have e2 : ¬ k = x := fun h => e h.symm
          simp [e, e2]) hR2
    | p2 c1 b1 h1 c2 b2 h2 =>
      have hxx : x = x3 := by
        rcases hsx' with e | e | e | e | e
        · subst e; simp at hdx
        · subst e; simp at hdx
        · exact e
        · subst e
          have q := hanc x3 q3 (by simp)
          simp [d1_3, d2_3, d1_3.symm, d2_3.symm] at q
        · subst e
          have q := hanc x4 q4 (by simp)
          simp [d1_4, d2_4, d1_4.symm, d2_4.symm] at q
      subst hxx
      exact call_ph x hf hs c2 h2.1.ok a3 ok3 ho3 hN3 (S2 c1 b1 c2 b2 h1.1 h1.2 h2.1 h2.2).1 (S2 c1 b1 c2 b2 h1.1 h1.2 h2.1 h2.2).2.2.1 (by simp [getB]) (fun st _ => ha3 st) hst3 (fun c' b hc hr => ⟨(S3 c1 b1 c2 b2 c' b h1.1 h1.2 h2.1 h2.2 hc hr).1, (S3 c1 b1 c2 b2 c' b h1.1 h1.2 h2.1 h2.2 hc hr).2.2.2⟩) hset hlook hdesc hR fun c' b a' w' hc hr hR2 => hK (.p3 c1 b1 h1 c2 b2 h2 c' b ⟨hc, hr⟩) a' w' (fun k => by
        by_cases e : x = k
        · subst e; simp
        · have e2 : ¬ k = x := fun h => e h.symm
          simp [e, e2]) hR2
    | p3 c1 b1 h1 c2 b2 h2 c3 b3 h3 =>
      have hxx : x = x4 := by
        rcases hsx' with e | e | e | e | e
        · subst e; simp at hdx
        · subst e; simp at hdx
        · subst e; simp at hdx
        · exact e
        · subst e
          have q := hanc x4 q4 (by simp)
          simp [d1_4, d2_4, d3_4, d1_4.symm, d2_4.symm, d3_4.symm] at q
      subst hxx
      exact store_ph hΓ x ho4 (S3 c1 b1 c2 b2 c3 b3 h1.1 h1.2 h2.1 h2.2 h3.1 h3.2).1 (S3 c1 b1 c2 b2 c3 b3 h1.1 h1.2 h2.1 h2.2 h3.1 h3.2).2.2.1 (S4 c1 b1 c2 b2 c3 b3 h1.1 h1.2 h2.1 h2.2 h3.1 h3.2).1 (S4 c1 b1 c2 b2 c3 b3 h1.1 h1.2 h2.1 h2.2 h3.1 h3.2).2.2.2.1 (S4 c1 b1 c2 b2 c3 b3 h1.1 h1.2 h2.1 h2.2 h3.1 h3.2).2.2.2.2 hset hlook hdesc hancL hR fun a' w' hR2 => hK (.p4 c1 b1 h1 c2 b2 h2 c3 b3 h3) a' w' (fun k => by
        by_cases e : x = k
        · subst e; simp
        · have e2 : ¬ k = x := fun h => e h.symm
          simp [e, e2]) hR2
    | p4 c1 b1 h1 c2 b2 h2 c3 b3 h3 =>
      have hxx : x = x5 := by
        rcases hsx' with e | e | e | e | e
        · subst e; simp at hdx
        · subst e; simp at hdx
        · subst e; simp at hdx
        · subst e; simp at hdx
        · exact e
      subst hxx
      exact store_ph hΓ x ho5 (S4 c1 b1 c2 b2 c3 b3 h1.1 h1.2 h2.1 h2.2 h3.1 h3.2).1 (S4 c1 b1 c2 b2 c3 b3 h1.1 h1.2 h2.1 h2.2 h3.1 h3.2).2.2.1 (S5 c1 b1 c2 b2 c3 b3 h1.1 h1.2 h2.1 h2.2 h3.1 h3.2).1 (S5 c1 b1 c2 b2 c3 b3 h1.1 h1.2 h2.1 h2.2 h3.1 h3.2).2.2.1 (S5 c1 b1 c2 b2 c3 b3 h1.1 h1.2 h2.1 h2.2 h3.1 h3.2).2.2.2 hset hlook hdesc hancL hR fun a' w' hR2 => hK (.p5 c1 b1 h1 c2 b2 h2 c3 b3 h3) a' w' (fun k => by
        by_cases e : x = k
        · subst e; simp
        · have e2 : ¬ k = x := fun h => e h.symm
          simp [e, e2]) hR2
    | p5 c1 b1 h1 c2 b2 h2 c3 b3 h3 => simp only [decide_eq_false_iff_not] at hdx; exact absurd hsx' hdx
  · cases φ with
    | p0  =>
      have q := hall x1 hx1 (by simp)
      simp at q
    | p1 c1 b1 h1 =>
      have q := hall x2 hx2 (by simp)
      simp [d1_2, d1_2.symm] at q
    | p2 c1 b1 h1 c2 b2 h2 =>
      have q := hall x3 hx3 (by simp)
      simp [d1_3, d2_3, d1_3.symm, d2_3.symm] at q
    | p3 c1 b1 h1 c2 b2 h2 c3 b3 h3 =>
      have q := hall x4 hx4 (by simp)
      simp [d1_4, d2_4, d3_4, d1_4.symm, d2_4.symm, d3_4.symm] at q
    | p4 c1 b1 h1 c2 b2 h2 c3 b3 h3 =>
      have q := hall x5 hx5 (by simp)
      simp [d1_5, d2_5, d3_5, d4_5, d1_5.symm, d2_5.symm, d3_5.symm, d4_5.symm] at q
    | p5 c1 b1 h1 c2 b2 h2 c3 b3 h3 => exact hT c1 b1 c2 b2 c3 b3 h1.1 h1.2 h2.1 h2.2 h3.1 h3.2 a w hR
end
/-- what has been done -/
inductive Ph13 (k : Cu) {A B : Type} (rel : A → B → Prop) (a1 : A) : Type
  | p0
  | p1 (c1 : Cu) (b1 : B) (h1 : CuTo k c1 ∧ rel a1 b1)
  | p2 (c1 : Cu) (b1 : B) (h1 : CuTo k c1 ∧ rel a1 b1)
  | p3 (c1 : Cu) (b1 : B) (h1 : CuTo k c1 ∧ rel a1 b1)
  | p4 (c1 : Cu) (b1 : B) (h1 : CuTo k c1 ∧ rel a1 b1)
section
variable {P : Program} {Γ : Models} {γ0 : Nat → Option Nat} {w0 : World} {N : Nat} {Q : Exit → Act → World → Prop} {l : List Oper} {p : Nat} {As : List (List Nat)} {Es : List (List Entry)} {st0 st st' : St} {a : Act} {w : World}
theorem W.ph13C (hm : P.follows .mixedOrders = true) (hΓ : GSound P Γ) {id : Nat} (p x1 x2 x3 x4 : Nat) (As : List (List Nat)) {d1 f m t1 n2 n3 n4 : Nat} {xs1 : List Operand} {ts1 : Array TypeId} {ty1 ty2 ty3 ty4 t2 t3 t4 : TypeId} {po1 po2 po3 po4 : String} {af1 af2 af3 af4 : Array Edge} {xo2 xo3 xo4 yo2 yo3 yo4 : Operand}
    {A B : Type} {ok : A → Prop} {enc : A → List Arg} {rel : A → B → Prop} {res : A → B → Res} {v : B → PV} {E0 : List (List Entry)} {E1 : Cu → B → List (List Entry)} {E2 : Cu → B → List (List Entry)} {E3 : Cu → B → List (List Entry)} {E4 : Cu → B → List (List Entry)} {k2 k3 k4 : Cu → B → Blk}
    (hf : Has P f) (hs : SoundCu P f ok enc rel res) (c0 : Cu) (hc0 : CuOk c0) (a1 : A) (ok1 : ok a1)
    (h : chk l p As = true) (hpl : p ≤ l.length) (hx1 : x1 < p) (hx2 : x2 < p) (hx3 : x3 < p) (hx4 : x4 < p) (hnd : [x1, x2, x3, x4].Nodup) (q1 : x1 ∈ ancO As x2) (q2 : x2 ∈ ancO As x3) (q3 : x3 ∈ ancO As x4)
    (ho1 : l[x1]? = some ⟨some d1, .call ⟨.value (.func f), (.tmp t1 :: xs1).toArray, ts1⟩, ty1, po1, af1, none⟩)
    (ho2 : l[x2]? = some ⟨none, .store t2 xo2 yo2, ty2, po2, af2, none⟩) (ho3 : l[x3]? = some ⟨none, .store t3 xo3 yo3, ty3, po3, af3, none⟩) (ho4 : l[x4]? = some ⟨none, .store t4 xo4 yo4, ty4, po4, af4, none⟩)
    (hN1 : d1 < N) (hb : getB st0 m = some (.box (cuL c0))) (ha1 : ∀ st, datasO st m xs1 = some (enc a1))
    (hst1 : ∀ c' b st, impE (.blk m (.box (cuL c')) :: st) d1 (res a1 b) = stC d1 m (v b) c' st)
    (S0 : StepsX P Γ N l p As st0 E0 ∧ neP As (fun i => decide (i = x1 ∨ i = x2 ∨ i = x3 ∨ i = x4)) (fun _ => false) [x1, x2, x3, x4] 0 E0 = true ∧ getS (pickE' E0 0 (inL (ancO As x1)) st0) t1 = one (.ptr m 0))
    (S1 : ∀ c1 b1, CuTo c0 c1 → rel a1 b1 → StepsX P Γ N l p As (stC d1 m (v b1) c1 st0) (E1 c1 b1) ∧ neP As (fun i => decide (i = x1 ∨ i = x2 ∨ i = x3 ∨ i = x4)) (fun i => decide (i = x1)) [x1, x2, x3, x4] 0 (E1 c1 b1) = true ∧ storeL P (pickE' (E1 c1 b1) 0 (inL (ancO As x2)) (stC d1 m (v b1) c1 st0)) t2 xo2 yo2 = some (n2, k2 c1 b1) ∧ (∀ j E, (E1 c1 b1)[j]? = some E → j = x1 → E = []) ∧ maskE As x1 0 (E1 c1 b1) = E0 ∧ ((E1 c1 b1).all fun E => !hasS E d1) = true)
    (S2 : ∀ c1 b1, CuTo c0 c1 → rel a1 b1 → StepsX P Γ N l p As (.blk n2 (k2 c1 b1) :: (stC d1 m (v b1) c1 st0)) (E2 c1 b1) ∧ neP As (fun i => decide (i = x1 ∨ i = x2 ∨ i = x3 ∨ i = x4)) (fun i => decide (i = x1 ∨ i = x2)) [x1, x2, x3, x4] 0 (E2 c1 b1) = true ∧ storeL P (pickE' (E2 c1 b1) 0 (inL (ancO As x3)) (.blk n2 (k2 c1 b1) :: (stC d1 m (v b1) c1 st0))) t3 xo3 yo3 = some (n3, k3 c1 b1) ∧ (∀ j E, (E2 c1 b1)[j]? = some E → j = x2 → E = []) ∧ maskE As x2 0 (E2 c1 b1) = E1 c1 b1)
    (S3 : ∀ c1 b1, CuTo c0 c1 → rel a1 b1 → StepsX P Γ N l p As (.blk n3 (k3 c1 b1) :: (.blk n2 (k2 c1 b1) :: (stC d1 m (v b1) c1 st0))) (E3 c1 b1) ∧ neP As (fun i => decide (i = x1 ∨ i = x2 ∨ i = x3 ∨ i = x4)) (fun i => decide (i = x1 ∨ i = x2 ∨ i = x3)) [x1, x2, x3, x4] 0 (E3 c1 b1) = true ∧ storeL P (pickE' (E3 c1 b1) 0 (inL (ancO As x4)) (.blk n3 (k3 c1 b1) :: (.blk n2 (k2 c1 b1) :: (stC d1 m (v b1) c1 st0)))) t4 xo4 yo4 = some (n4, k4 c1 b1) ∧ (∀ j E, (E3 c1 b1)[j]? = some E → j = x3 → E = []) ∧ maskE As x3 0 (E3 c1 b1) = E2 c1 b1)
    (S4 : ∀ c1 b1, CuTo c0 c1 → rel a1 b1 → StepsX P Γ N l p As (.blk n4 (k4 c1 b1) :: (.blk n3 (k3 c1 b1) :: (.blk n2 (k2 c1 b1) :: (stC d1 m (v b1) c1 st0)))) (E4 c1 b1) ∧ neP As (fun i => decide (i = x1 ∨ i = x2 ∨ i = x3 ∨ i = x4)) (fun i => decide (i = x1 ∨ i = x2 ∨ i = x3 ∨ i = x4)) [x1, x2, x3, x4] 0 (E4 c1 b1) = true ∧ (∀ j E, (E4 c1 b1)[j]? = some E → j = x4 → E = []) ∧ maskE As x4 0 (E4 c1 b1) = E3 c1 b1)
    (hT : ∀ c1 b1, CuTo c0 c1 → rel a1 b1 → WL P γ0 w0 N l.toArray (l.drop p) (pickE' (E4 c1 b1) 0 (fun _ => true) (.blk n4 (k4 c1 b1) :: (.blk n3 (k3 c1 b1) :: (.blk n2 (k2 c1 b1) :: (stC d1 m (v b1) c1 st0))))) Q) :
    W P γ0 w0 N st0 (.region id l.toArray true) Q := fun a w hR => by
  refine wp_region_any hm ?_
  obtain ⟨η, γ, hI⟩ := hR
  have hR' : R γ0 w0 N st0 a w.drew := ⟨η, γ, hI.world w.drew rfl rfl rfl rfl⟩
  have hL0 : ∀ i, L (Array.replicate l.toArray.size false) i = false := fun i => by
    unfold L
    simp only [Array.getD_eq_getD_getElem?, Array.getElem?_replicate]
    split <;> rfl
  have hpick : pickE' E0 0 (L (Array.replicate l.toArray.size false)) st0 = st0 := pick_none E0 0 (fun j => hL0 _) st0
  have hsps : ∀ k ∈ [x1, x2, x3, x4], (fun i => decide (i = x1 ∨ i = x2 ∨ i = x3 ∨ i = x4)) k = true := fun k hk => by
    simpa using hk
  have d1_2 : x1 ≠ x2 := fun e => by subst e; simp at hnd
  have d1_3 : x1 ≠ x3 := fun e => by subst e; simp at hnd
  have d1_4 : x1 ≠ x4 := fun e => by subst e; simp at hnd
  have d2_3 : x2 ≠ x3 := fun e => by subst e; simp at hnd
  have d2_4 : x2 ≠ x4 := fun e => by subst e; simp at hnd
  have d3_4 : x3 ≠ x4 := fun e => by subst e; simp at hnd
  refine draw_ph (Φ := Ph13 c0 rel a1) (st := fun φ => match φ with | .p0 => st0 | .p1 c1 b1 _ => (stC d1 m (v b1) c1 st0) | .p2 c1 b1 _ => (.blk n2 (k2 c1 b1) :: (stC d1 m (v b1) c1 st0)) | .p3 c1 b1 _ => (.blk n3 (k3 c1 b1) :: (.blk n2 (k2 c1 b1) :: (stC d1 m (v b1) c1 st0))) | .p4 c1 b1 _ => (.blk n4 (k4 c1 b1) :: (.blk n3 (k3 c1 b1) :: (.blk n2 (k2 c1 b1) :: (stC d1 m (v b1) c1 st0)))))
    (Es := fun φ => match φ with | .p0 => E0 | .p1 c1 b1 _ => E1 c1 b1 | .p2 c1 b1 _ => E2 c1 b1 | .p3 c1 b1 _ => E3 c1 b1 | .p4 c1 b1 _ => E4 c1 b1) hΓ h hpl (fun i => decide (i = x1 ∨ i = x2 ∨ i = x3 ∨ i = x4))
    (fun φ => match φ with | .p0 => (fun _ => false) | .p1 c1 b1 _ => (fun i => decide (i = x1)) | .p2 c1 b1 _ => (fun i => decide (i = x1 ∨ i = x2)) | .p3 c1 b1 _ => (fun i => decide (i = x1 ∨ i = x2 ∨ i = x3)) | .p4 c1 b1 _ => (fun i => decide (i = x1 ∨ i = x2 ∨ i = x3 ∨ i = x4))) (fun φ => ?_) (fun φ i hi hsi hp1 hp2 => ?_) (fun φ x hxp hsx hdx hanc listed listed' hset hLx hlook hdesc hancL a w K hR hK => ?_) (fun φ a w hall hR => ?_) _ _ a w.drew .p0 (by simp) (fun i o _ hL => by rw [hL0] at hL; cases hL) (fun i hL => by rw [hL0] at hL; cases hL) (by simp only [hL0]; simp) (fun i _ => hL0 i) (by rw [hpick]; exact hR')
  · cases φ with
    | p0  => exact S0.1
    | p1 c1 b1 h1 => exact (S1 c1 b1 h1.1 h1.2).1
    | p2 c1 b1 h1 => exact (S2 c1 b1 h1.1 h1.2).1
    | p3 c1 b1 h1 => exact (S3 c1 b1 h1.1 h1.2).1
    | p4 c1 b1 h1 => exact (S4 c1 b1 h1.1 h1.2).1
  · cases φ with
    | p0  => exact neP_get hsps 0 _ S0.2.1 i (by rw [Nat.zero_add]; exact hsi) (by rw [Nat.zero_add]; exact hp1) (by rw [Nat.zero_add]; exact hp2)
    | p1 c1 b1 h1 => exact neP_get hsps 0 _ (S1 c1 b1 h1.1 h1.2).2.1 i (by rw [Nat.zero_add]; exact hsi) (by rw [Nat.zero_add]; exact hp1) (by rw [Nat.zero_add]; exact hp2)
    | p2 c1 b1 h1 => exact neP_get hsps 0 _ (S2 c1 b1 h1.1 h1.2).2.1 i (by rw [Nat.zero_add]; exact hsi) (by rw [Nat.zero_add]; exact hp1) (by rw [Nat.zero_add]; exact hp2)
    | p3 c1 b1 h1 => exact neP_get hsps 0 _ (S3 c1 b1 h1.1 h1.2).2.1 i (by rw [Nat.zero_add]; exact hsi) (by rw [Nat.zero_add]; exact hp1) (by rw [Nat.zero_add]; exact hp2)
    | p4 c1 b1 h1 => exact neP_get hsps 0 _ (S4 c1 b1 h1.1 h1.2).2.1 i (by rw [Nat.zero_add]; exact hsi) (by rw [Nat.zero_add]; exact hp1) (by rw [Nat.zero_add]; exact hp2)
  · have hsx' : x = x1 ∨ x = x2 ∨ x = x3 ∨ x = x4 := of_decide_eq_true hsx
    cases φ with
    | p0  =>
      have hxx : x = x1 := by
        rcases hsx' with e | e | e | e
        · exact e
        · subst e
          have q := hanc x1 q1 (by simp)
          simp at q
        · subst e
          have q := hanc x2 q2 (by simp)
          simp at q
        · subst e
          have q := hanc x3 q3 (by simp)
          simp at q
      subst hxx
      exact call_ph x hf hs c0 hc0 a1 ok1 ho1 hN1 S0.1 S0.2.2 hb (fun st _ => ha1 st) hst1 (fun c' b hc hr => ⟨(S1  c' b  hc hr).1, (S1  c' b  hc hr).2.2.2⟩) hset hlook hdesc hR fun c' b a' w' hc hr hR2 => hK (.p1  c' b ⟨hc, hr⟩) a' w' (fun k => by
        by_cases e : x = k
        · subst e; simp
        · have e2 : ¬ k = x := fun h => e h.symm
          simp [e, e2]) hR2
    | p1 c1 b1 h1 =>
      have hxx : x = x2 := by
        rcases hsx' with e | e | e | e
        · subst e; simp at hdx
        · exact e
        · subst e
          have q := hanc x2 q2 (by simp)
          simp [d1_2, d1_2.symm] at q
        · subst e
          have q := hanc x3 q3 (by simp)
          simp [d1_3, d1_3.symm] at q
      subst hxx
      exact store_ph hΓ x ho2 (S1 c1 b1 h1.1 h1.2).1 (S1 c1 b1 h1.1 h1.2).2.2.1 (S2 c1 b1 h1.1 h1.2).1 (S2 c1 b1 h1.1 h1.2).2.2.2.1 (S2 c1 b1 h1.1 h1.2).2.2.2.2 hset hlook hdesc hancL hR fun a' w' hR2 => hK (.p2 c1 b1 h1) a' w' (fun k => by
        by_cases e : x = k
        · subst e; simp
        · have e2 : ¬ k = x := fun h => e h.symm
          simp [e, e2]) hR2
    | p2 c1 b1 h1 =>
      have hxx : x = x3 := by
        rcases hsx' with e | e | e | e
        · subst e; simp at hdx
        · subst e; simp at hdx
        · exact e
        · subst e
          have q := hanc x3 q3 (by simp)
          simp [d1_3, d2_3, d1_3.symm, d2_3.symm] at q
      subst hxx
      exact store_ph hΓ x ho3 (S2 c1 b1 h1.1 h1.2).1 (S2 c1 b1 h1.1 h1.2).2.2.1 (S3 c1 b1 h1.1 h1.2).1 (S3 c1 b1 h1.1 h1.2).2.2.2.1 (S3 c1 b1 h1.1 h1.2).2.2.2.2 hset hlook hdesc hancL hR fun a' w' hR2 => hK (.p3 c1 b1 h1) a' w' (fun k => by
        by_cases e : x = k
        · subst e; simp
        · have e2 : ¬ k = x := fun h => e h.symm
          simp [e, e2]) hR2
    | p3 c1 b1 h1 =>
      have hxx : x = x4 := by
        rcases hsx' with e | e | e | e
        · subst e; simp at hdx
        · subst e; simp at hdx
        · subst e; simp at hdx
        · exact e
      subst hxx
      exact store_ph hΓ x ho4 (S3 c1 b1 h1.1 h1.2).1 (S3 c1 b1 h1.1 h1.2).2.2.1 (S4 c1 b1 h1.1 h1.2).1 (S4 c1 b1 h1.1 h1.2).2.2.1 (S4 c1 b1 h1.1 h1.2).2.2.2 hset hlook hdesc hancL hR fun a' w' hR2 => hK (.p4 c1 b1 h1) a' w' (fun k => by
        by_cases e : x = k
        · subst e; simp
        · have e2 : ¬ k = x := fun h => e h.symm
          simp [e, e2]) hR2
    | p4 c1 b1 h1 => simp only [decide_eq_false_iff_not] at hdx; exact absurd hsx' hdx
  · cases φ with
    | p0  =>
      have q := hall x1 hx1 (by simp)
      simp at q
    | p1 c1 b1 h1 =>
      have q := hall x2 hx2 (by simp)
      simp [d1_2, d1_2.symm] at q
    | p2 c1 b1 h1 =>
      have q := hall x3 hx3 (by simp)
      simp [d1_3, d2_3, d1_3.symm, d2_3.symm] at q
    | p3 c1 b1 h1 =>
      have q := hall x4 hx4 (by simp)
      simp [d1_4, d2_4, d3_4, d1_4.symm, d2_4.symm, d3_4.symm] at q
    | p4 c1 b1 h1 => exact hT c1 b1 h1.1 h1.2 a w hR
end
end Go.Proofs.YtfgkfcfplodaoaaGreatDoor
