/-
  Put together: PEvLateF PMarkInt POneInt.
-/
import Derived.Test.YtfgkfcfplodaoaaGreatDoorHPEvOne
import Derived.Test.YtfgkfcfplodaoaaGreatDoorHPEvLate
import Derived.Test.YtfgkfcfplodaoaaGreatDoorG32
import Derived.Test.YtfgkfcfplodaoaaGreatDoorG0
import Derived.Test.YtfgkfcfplodaoaaGreatDoorRows
section
/-!
  A region that draws its order: one store, beside free operations before it, behind it, and at any time.
-/
namespace Go.Proofs.YtfgkfcfplodaoaaGreatDoor
set_option maxRecDepth 100000
set_option linter.unusedVariables false
set_option linter.unusedSimpArgs false
open Go Go.RowKit
set_option linter.unusedVariables false

/-- the entries that do not come ahead of the special one -/
def maskA (As : List (List Nat)) (x : Nat) : Nat → List (List Entry) → List (List Entry)
  | _, [] => []
  | i, E :: r => (if (ancO As x).contains i then [] else E) :: maskA As x (i + 1) r
theorem maskA_get (As : List (List Nat)) (x : Nat) : ∀ (i : Nat) (Es : List (List Entry)) (j : Nat), i + j ∉ ancO As x → (maskA As x i Es)[j]? = Es[j]?
  | i, [], j, h => rfl
  | i, E :: r, 0, h => by
    unfold maskA
    rw [if_neg (by simpa using h)]
    rfl
  | i, E :: r, j + 1, h => by
    unfold maskA
    rw [List.getElem?_cons_succ, List.getElem?_cons_succ]
    exact maskA_get As x (i + 1) r j (by rw [show i + 1 + j = i + (j + 1) by omega]; exact h)
/-- those ahead of the special one, and that one, are empty; no others -/
def neF (As : List (List Nat)) (x : Nat) : Nat → List (List Entry) → Bool
  | _, [] => true
  | i, E :: r => (if i = x ∨ (ancO As x).contains i = true then E.isEmpty else !E.isEmpty) && neF As x (i + 1) r
theorem neF_get (As : List (List Nat)) (x : Nat) : ∀ (i : Nat) (Es : List (List Entry)) (_ : neF As x i Es = true) (j : Nat) (E : List Entry), Es[j]? = some E → ((i + j = x ∨ i + j ∈ ancO As x) → E = []) ∧ (i + j ≠ x → i + j ∉ ancO As x → E ≠ [])
  | i, [], _, j, E, h => by simp at h
  | i, E0 :: r, hn, 0, E, h => by
    simp only [neF, Bool.and_eq_true] at hn
    simp only [List.getElem?_cons_zero, Option.some.injEq] at h
    subst h
    refine ⟨fun e => ?_, fun e e2 => ?_⟩
    · have := hn.1
      rw [if_pos (by simpa using e)] at this
      simpa using this
    · have := hn.1
      rw [if_neg (by rw [Nat.add_zero] at e e2; simp [e, e2])] at this
      intro e3
      subst e3
      simp at this
  | i, E0 :: r, hn, j + 1, E, h => by
    simp only [neF, Bool.and_eq_true] at hn
    have := neF_get As x (i + 1) r hn.2 j E (by simpa using h)
    rw [show i + 1 + j = i + (j + 1) by omega] at this
    exact this
section
variable {P : Program} {Γ : Models} {γ0 : Nat → Option Nat} {w0 : World} {N : Nat} {Q : Exit → Act → World → Prop} {l : List Oper} {As : List (List Nat)} {EsA EsB : List (List Entry)} {st0 st1 : St}
theorem W.lateFC (hm : P.follows .mixedOrders = true) (hΓ : GSound P Γ) {id : Nat} (p x : Nat) {t : TypeId} {xo yo : Operand} {ty : TypeId} {pos : String} {after : Array Edge} {restA rest : List Oper} {n : Nat} {b : Blk}
    (h : chk l p As = true) (hxp : x < p) (hoX : l[x]? = some ⟨none, .store t xo yo, ty, pos, after, none⟩)
    (hfA : FlowX P Γ N l.toArray As st0 0 l [] EsA restA) (hpA : p + restA.length = l.length) (hdA : distB EsA = true) (hfrA : freeB st0 EsA = true) (hneA : neM As x 0 EsA = true)
    (hst : storeL P (pickE' EsA 0 (inL (ancO As x)) st0) t xo yo = some (n, b)) (hs1 : .blk n b :: pickE' EsA 0 (inL (ancO As x)) st0 = st1)
    (hfB : FlowX P Γ N l.toArray As st1 0 l [] EsB rest) (hpB : p + rest.length = l.length) (hdB : distB EsB = true) (hfrB : freeB st1 EsB = true) (hneB : neF As x 0 EsB = true) (hmask : maskE As x 0 EsB = maskA As x 0 EsA)
    (hT : WL P γ0 w0 N l.toArray rest (pickE' EsB 0 (fun _ => true) st1) Q) : W P γ0 w0 N st0 (.region id l.toArray true) Q := fun a w hR => by
  have hpl : p ≤ l.length := by omega
  obtain ⟨sA, -⟩ := flowX_all h hfA hpA hdA hfrA
  obtain ⟨sB, hrest⟩ := flowX_all h hfB hpB hdB hfrB
  refine wp_region_any hm ?_
  obtain ⟨η, γ, hI⟩ := hR
  have hR' : R γ0 w0 N st0 a w.drew := ⟨η, γ, hI.world w.drew rfl rfl rfl rfl⟩
  have hL0 : ∀ i, L (Array.replicate l.toArray.size false) i = false := fun i => by
    unfold L
    simp only [Array.getD_eq_getD_getElem?, Array.getElem?_replicate]
    split <;> rfl
  have hpick : pickE' EsA 0 (L (Array.replicate l.toArray.size false)) st0 = st0 := pick_none EsA 0 (fun j => hL0 _) st0
  refine draw_one (β := Unit) (EsB := fun _ => EsB) (st1 := fun _ => st1) hΓ h hpl hxp sA (fun _ => sB) (fun i hi hix him he => ?_) (fun _ i hi hix hia he => ?_) ?_ (fun _ a w hR => ?_) _ _ a w.drew (by simp) (fun i o _ hL => by rw [hL0] at hL; cases hL) (fun i hL => by rw [hL0] at hL; cases hL) ?_ (fun _ => by rw [hpick]; exact hR') (fun hL => by rw [hL0] at hL; cases hL)
  · exact neM_get As x 0 _ hneA i [] he (by omega) (by rw [Nat.zero_add]; exact him) rfl
  · exact (neF_get As x 0 _ hneB i [] he).2 (by omega) (by rw [Nat.zero_add]; exact hia) rfl
  · intro listed listed' hset hLx hlook hdesc hancs a w K hR hK
    have hev : ∀ z ∈ (Op.store t xo yo).operands.toList, ev (pickE' EsA 0 (inL (ancO As x)) st0) z = ev (pickE' EsA 0 (L listed) st0) z := fun z hz => by
      cases z with
      | tmp s => exact hlook s _ hoX (by unfold Oper.looksAt; exact List.mem_append_left _ (List.mem_filterMap.2 ⟨.tmp s, hz, rfl⟩))
      | const v => rfl
      | global g => rfl
      | func f => rfl
    have hle : ∀ j, inL (ancO As x) j = true → L listed j = true := fun j hj => hancs j (by unfold inL at hj; simpa using hj)
    have hst' := storeL_mono (pick_leX sA.dist sA.free hle) (hev xo (by simp [Op.operands])) (hev yo (by simp [Op.operands])) hst
    have hE := storeL_E hst'
    unfold wpOp
    have hget : l.toArray[x]? = some ⟨none, .store t xo yo, ty, pos, after, none⟩ := by simpa using hoX
    rw [hget]
    simp only
    rw [if_pos (by simp [Region.wanted])]
    left
    refine stepO_sound (o := ⟨none, .store t xo yo, ty, pos, after, none⟩) (st' := .blk n b :: pickE' EsA 0 (L listed) st0) hΓ hR hE fun a' w' hR2 => ?_
    refine hK () a' w' (hR2.congr (fun t => ?_) (fun n' => ?_))
    all_goals
      have hsame : ∀ j, L listed j = true → j ∉ ancO As x → EsA[j]? = EsB[j]? := fun j hj hja => by
        have e1 := maskE_get As x 0 EsB j (by rw [Nat.zero_add]; exact hdesc j hj)
        have e2 := maskA_get As x 0 EsA j (by rw [Nat.zero_add]; exact hja)
        rw [← e1, ← e2, hmask]
      have hL' : ∀ (j : Nat) E, EsB[j]? = some E → E ≠ [] → L listed' (0 + j) = true → L listed j = true ∧ j ∉ ancO As x := fun j E hj hne hL => by
        have hf := neF_get As x 0 _ hneB j E hj
        rw [Nat.zero_add] at hf hL
        refine ⟨?_, fun hm => hne (hf.1 (.inr hm))⟩
        rw [hset] at hL
        by_cases e : x = j
        · exact absurd (hf.1 (.inl e.symm)) hne
        · rwa [if_neg e] at hL
      have hL2 : ∀ j, L listed j = true → L listed' (0 + j) = true := fun j hj => by
        rw [Nat.zero_add, hset]
        split
        · rfl
        · exact hj
    · show getS (pickE' EsA 0 (L listed) st0) t = _
      by_cases hx : ∃ (j : Nat) (E : List Entry), EsB[j]? = some E ∧ L listed' (0 + j) = true ∧ hasS E t = true
      · obtain ⟨j, E, h1, h2, h3⟩ := hx
        obtain ⟨hj, hja⟩ := hL' j E h1 (hasS_ne h3) h2
        rw [pick_S_some EsB 0 _ st1 sB.dist j E h1 h2 h3, pick_S_some EsA 0 _ st0 sA.dist j E (by rw [hsame j hj hja]; exact h1) (by rw [Nat.zero_add]; exact hj) h3]
      · have hn : ∀ (j : Nat) E, EsB[j]? = some E → L listed' (0 + j) = true → hasS E t = false := fun j E h1 h2 => by
          cases h3 : hasS E t with
          | false => rfl
          | true => exact absurd ⟨j, E, h1, h2, h3⟩ hx
        rw [pick_S_none EsB 0 _ st1 sB.dist hn, ← hs1]
        show _ = getS (pickE' EsA 0 (inL (ancO As x)) st0) t
        exact pick_congr sA.dist fun j E hj hh => by
          by_cases hja : j ∈ ancO As x
          · rw [hancs j hja]
            unfold inL
            simpa using hja
          · have h5 : inL (ancO As x) j = false := by unfold inL; simpa using hja
            rw [h5]
            cases hL : L listed j with
            | false => rfl
            | true =>
              have := hn j E (by rw [← hsame j hL hja]; exact hj) (hL2 j hL)
              rw [hh] at this
              cases this
    · show (if n = n' then some b else getB (pickE' EsA 0 (L listed) st0) n') = _
      by_cases hx : ∃ (j : Nat) (E : List Entry), EsB[j]? = some E ∧ L listed' (0 + j) = true ∧ hasB E n' = true
      · obtain ⟨j, E, h1, h2, h3⟩ := hx
        obtain ⟨hj, hja⟩ := hL' j E h1 (hasB_ne h3) h2
        have hnn : ¬ n = n' := fun e => by
          have := sB.free E (List.mem_of_getElem? h1) n' h3
          rw [← hs1, ← e] at this
          simp [getB] at this
        rw [pick_B_some EsB 0 _ st1 sB.dist j E h1 h2 h3, if_neg hnn, pick_B_some EsA 0 _ st0 sA.dist j E (by rw [hsame j hj hja]; exact h1) (by rw [Nat.zero_add]; exact hj) h3]
      · have hn : ∀ (j : Nat) E, EsB[j]? = some E → L listed' (0 + j) = true → hasB E n' = false := fun j E h1 h2 => by
          cases h3 : hasB E n' with
          | false => rfl
          | true => exact absurd ⟨j, E, h1, h2, h3⟩ hx
        rw [pick_B_none EsB 0 _ st1 sB.dist hn, ← hs1]
        show _ = (if n = n' then some b else getB (pickE' EsA 0 (inL (ancO As x)) st0) n')
        rw [pick_congrB (S := L listed) (S' := inL (ancO As x)) (st0 := st0) sA.dist fun j E hj hh => by
          by_cases hja : j ∈ ancO As x
          · rw [hancs j hja]
            unfold inL
            symm
            simpa using hja
          · have h5 : inL (ancO As x) j = false := by unfold inL; simpa using hja
            rw [h5]
            cases hL : L listed j with
            | false => rfl
            | true =>
              have := hn j E (by rw [← hsame j hL hja]; exact hj) (hL2 j hL)
              rw [hh] at this
              cases this]
  · rw [← hrest]
    exact hT a w hR
  · simp only [hL0]
    simp
end
section
variable {Γ : Models} {γ0 : Nat → Option Nat} {w0 : World} {N : Nat} {Q : Exit → Act → World → Prop} {l : List Oper} {EsA EsB : List (List Entry)} {st0 stA st1 stE : St}
theorem FlowX.skF (x : Nat) {ops : Array Oper} {As : List (List Nat)} {st0 : St} {i : Nat} {o : Oper} {r rest : List Oper} {Es Es' F : List (List Entry)} (hk : (decide (i = x) || (ancO As x).contains i) = true := by decide) (hE : Es ++ [[]] = Es' := by simp only [List.cons_append, List.nil_append]; rfl)
    (h : FlowX Tryz.prog Γ N ops As st0 (i + 1) r Es' F rest) : FlowX Tryz.prog Γ N ops As st0 i (o :: r) Es F rest := .skip (hE ▸ h)
theorem W.lateFA (hΓ : GSound Tryz.prog Γ) {id : Nat} (As : List (List Nat)) (p x : Nat) {t : TypeId} {xo yo : Operand} {ty : TypeId} {pos : String} {after : Array Edge} {restA rest : List Oper} {n : Nat} {b : Blk}
    (h : chk l p As = true) (hxp : x < p) (hoX : l[x]? = some ⟨none, .store t xo yo, ty, pos, after, none⟩)
    (hfA : FlowX Tryz.prog Γ N l.toArray As st0 0 l [] EsA restA) (hpA : p + restA.length = l.length) (hdA : distB EsA = true) (hfrA : freeB st0 EsA = true) (hneA : neM As x 0 EsA = true)
    (hA : pickE' EsA 0 (inL (ancO As x)) st0 = stA) (hst : storeL Tryz.prog stA t xo yo = some (n, b)) (hs1 : .blk n b :: stA = st1)
    (hfB : FlowX Tryz.prog Γ N l.toArray As st1 0 l [] EsB rest) (hpB : p + rest.length = l.length) (hdB : distB EsB = true) (hfrB : freeB st1 EsB = true) (hneB : neF As x 0 EsB = true) (hmask : maskE As x 0 EsB = maskA As x 0 EsA)
    (hsE : pickE' EsB 0 (fun _ => true) st1 = stE) (hT : WL Tryz.prog γ0 w0 N l.toArray rest stE Q) : W Tryz.prog γ0 w0 N st0 (.region id l.toArray true) Q :=
  W.lateFC follows_mixed hΓ p x h hxp hoX hfA hpA hdA hfrA hneA (by rw [hA]; exact hst) (by rw [hA]; exact hs1) hfB hpB hdB hfrB hneB hmask (by rw [hsE]; exact hT)
end
end Go.Proofs.YtfgkfcfplodaoaaGreatDoor

end
section
/-!
  Marking and holding slices of Int, by contracts.
-/
namespace Go.Proofs.YtfgkfcfplodaoaaGreatDoor
set_option maxRecDepth 100000
set_option linter.unusedVariables false
set_option linter.unusedSimpArgs false
open Go.RowKit

def mkInt (k : Nat) : Int := (k : Int)
theorem cInt_len (x : Int) : (cInt x).length = 1 := rfl
set_option maxHeartbeats 2000000 in
theorem markIntS_any (v : Value) (l : List Int) (k B0 : Nat) (w : World) (h : OwnS w B0 1 cInt v l) (h0 : 0 < k) (hn : k + 1 * l.length ≤ 1099511627776) :
    Calls Tryz.prog 36 #[v, .int .i64 (k : Int)] w (Marks B0 1 cInt v (marked mkInt 1 k l.length) (k + 1 * l.length) w) := by
  by_cases hne : l = []
  · subst hne
    obtain ⟨A, c, rfl, h1, h2, h3⟩ := h
    go_enter Tryz.func36, Tryz.ntmps36
    go_wp2_with fail
    refine wp_loop_rounds 1 ?_
    rw [rounds_succ]
    go_wp2_with fail
    go_ret
    exact ⟨rfl, ⟨A, c, rfl, h1, h2, fun e => absurd rfl e⟩, fun _ => rfl, World.grownBy.refl _ _⟩
  obtain ⟨b, off, c, rfl, hlc, hcm, hat⟩ := h.at_ hne
  clear h
  go_enter Tryz.func36, Tryz.ntmps36
  go_wp2_with fail
  go_loopw [1, 5] (fun q i wr => ∃ j m : Nat, j ≤ l.length ∧ m = k + 1 * j ∧ i = .int .i64 j ∧ q = .int .i64 m ∧ OwnAt wr B0 1 cInt b off (marks mkInt 1 k j l) ∧ w.grownBy wr (some b)) (fun _ i _ => l.length - (intOf i).toNat)
  case atStart => exact ⟨0, k, Nat.zero_le _, rfl, rfl, rfl, by rw [marks_zero]; exact hat, World.grownBy.refl _ _⟩
  case round =>
    obtain ⟨j, m, hj, hm, rfl, rfl, ho, hg⟩ := hrel
    have hm1 : 0 < m := by omega
    have hm2 : m + 1 * (l.length - j) ≤ 1099511627776 := by omega
    have HM := Lib.hid hm
    clear hm
    by_cases hlt : j < l.length
    · have hml : j < (marks mkInt 1 k j l).length := by rw [length_marks hj]; exact hlt
      obtain ⟨x, hx⟩ : ∃ x, (marks mkInt 1 k j l)[j]? = some x := ⟨_, List.getElem?_eq_getElem hml⟩
      obtain ⟨u0, hx0⟩ := ho.old cInt_len (i := j) (by simpa using hml) (j := 0) (by omega)
      have hf0 := ho.2.2.1 (off + j * 1 + 0)
      simp only [Nat.mul_one, Nat.add_zero] at hx0 hf0
      have oc0 := ho.field (i := j) (j := 0) (u := .int .i64 ((m : Int))) (y := ((m : Int) : Int)) cInt_len (by simpa using hml) (by omega) (by rw [(List.getElem?_eq_some_iff.1 hx).2]; rfl)
      have hy0 := List.getElem?_set_self (l := (marks mkInt 1 k j l)) (i := j) (a := ((m : Int) : Int)) (by simpa using hml)
      have gc0 := only_setCell hg (p := ⟨b, off + j * 1 + 0, none⟩) rfl (.int .i64 ((m : Int)))
      simp only [Nat.mul_one, Nat.add_zero] at oc0 gc0
      try simp only [List.set_set] at oc0
      rw [marks_next hlt _ (by rw [← HM.out]; rfl)] at oc0
      have HO' := Lib.hid oc0
      have HG' := Lib.hid gc0
      clear hy0 oc0 gc0 ho hg hx hml hat
      go_wp2_with fail
      go_roundw
      case rel => exact ⟨j + 1, m + 1, by omega, by rw [HM.out]; omega, by go_num, by go_num, HO'.out, HG'.out⟩
      case measure => simp [intOf]; omega
    · go_wp2_with fail
      go_ret
      have e : j = l.length := by omega
      subst e
      rw [marks_all] at ho
      have hl : (marked mkInt 1 k l.length).length = l.length := length_marked
      refine ⟨ret_int (by rw [HM.out]), ?_, fun e => absurd (List.length_eq_zero_iff.1 (by rw [e] at hl; simpa using hl.symm)) hne, hg⟩
      have := ho.slice (c := c) (by rw [hl]; exact hlc) hcm
      rwa [hl] at this
set_option maxHeartbeats 2000000 in
theorem heldIntS_any (v : Value) (n : Nat) (k : Nat) (w : World) (h : RdS w w.heap.size 1 cInt v (marked mkInt 1 k n)) (h0 : 0 < k) (hn : k + 1 * n ≤ 1099511627776) :
    Calls Tryz.prog 38 #[v, .int .i64 (k : Int)] w (Held (k + 1 * n) w) := by
  obtain ⟨A, c, rfl, hlc, hcm, hcell⟩ := h
  have hml : (marked mkInt 1 k n).length = n := length_marked
  rw [hml] at hlc ⊢
  go_enter Tryz.func38, Tryz.ntmps38
  go_wp2_with fail
  go_loopw [1, 5] (fun q i wr => ∃ j m : Nat, j ≤ n ∧ m = k + 1 * j ∧ i = .int .i64 j ∧ q = .int .i64 m ∧ Below w.heap.size w wr) (fun _ i _ => n - (intOf i).toNat)
  case atStart => exact ⟨0, k, Nat.zero_le _, rfl, rfl, rfl, Below.refl _ _⟩
  case round =>
    obtain ⟨j, m, hj, hm, rfl, rfl, hb⟩ := hrel
    have hm1 : 0 < m := by omega
    have hm2 : m + 1 * (n - j) ≤ 1099511627776 := by omega
    by_cases hlt : j < n
    · obtain ⟨b, off, rfl, hbb, hc⟩ := hcell (by intro e; rw [e] at hml; simp at hml; omega)
      have gx0 := (hb.cell (p := ⟨b, off + j * 1 + 0, none⟩) hbb).trans (hc j _ (marked_get hlt) 0 _ rfl)
      rw [← hm] at gx0
      have hx0 : wr.cell? ⟨b, off + j * 1 + 0, none⟩ = some (.int .i64 ((m : Int))) := gx0
      clear gx0
      simp only [Nat.mul_one, Nat.add_zero] at hx0
      have HM := Lib.hid hm
      have hbw : b < wr.heap.size := Nat.lt_of_lt_of_le hbb hb.size
      clear hm hc hcell hml
      go_wp2_with fail
      go_roundw
      case rel => exact ⟨j + 1, m + 1, by omega, by rw [HM.out]; omega, by go_num, by go_num, hb⟩
      case measure => simp [intOf]; omega
    · go_wp2_with fail
      go_ret
      have e : j = n := by omega
      subst e
      exact ⟨ret_int (by rw [hm]), hb⟩
end Go.Proofs.YtfgkfcfplodaoaaGreatDoor

end
section
/-!
  Slices of int: their size, copy and equality functions, by contracts.
-/
namespace Go.Proofs.YtfgkfcfplodaoaaGreatDoor
set_option maxRecDepth 100000
set_option linter.unusedVariables false
set_option linter.unusedSimpArgs false
open Go.RowKit


set_option maxHeartbeats 400000 in
theorem eqIntS_raw (v1 v2 : Value) (xs ys : List Int) (B : Nat) (w : World) (h1 : RdS w B 1 cInt v1 xs) (h2 : RdS w B 1 cInt v2 ys) (hn : xs.length ≤ 8796093022207) (hn2 : ys.length ≤ 8796093022207) :
    Calls Tryz.prog 32 #[v1, v2] w (Quiet (.bool (decide (xs = ys))) w) := by
  obtain ⟨A1, c1, rfl, hlc1, hcm1, hcell1⟩ := h1
  obtain ⟨A2, c2, rfl, hlc2, hcm2, hcell2⟩ := h2
  by_cases hl : xs.length = ys.length
  case neg =>
    have hne : decide (xs = ys) = false := by
      simp only [decide_eq_false_iff_not]
      intro e; exact hl (by rw [e])
    rw [hne]
    go_enter Tryz.func32, Tryz.ntmps32
    go_wp2
    go_ret
    exact ⟨rfl, 0, rfl⟩
  have hl1 : xs.length ≤ ys.length := by omega
  have hl2 : ys.length ≤ xs.length := by omega
  have hb0 : ((xs.length : Int) != ys.length) = false := by simp [hl]
  clear hl
  go_enter Tryz.func32, Tryz.ntmps32
  go_wp2
  go_loopw [5] (fun i wr => ∃ k : Nat, k ≤ xs.length ∧ i = .int .i64 k ∧ QW w wr ∧ xs.take k = ys.take k) (fun i _ => xs.length - (intOf i).toNat)
  case atStart => exact ⟨0, Nat.zero_le _, rfl, QW.refl _, by simp⟩
  case round =>
    obtain ⟨k, hk, rfl, hq, heq⟩ := hrel
    have HE := Lib.hid heq
    clear heq
    by_cases hlt : k < xs.length
    · obtain ⟨b1, o1, rfl, -, hcA⟩ := hcell1 (by intro e; simp [e] at hlt)
      obtain ⟨b2, o2, rfl, -, hcB⟩ := hcell2 (by intro e; simp [e] at hl1; simp [hl1] at hlt)
      have hlt2 : k < ys.length := by omega
      have hx := (hq.cell ⟨b1, o1 + k * 1 + 0, none⟩).trans <| hcA k _ (List.getElem?_eq_getElem hlt) 0 _ rfl
      have hy := (hq.cell ⟨b2, o2 + k * 1 + 0, none⟩).trans <| hcB k _ (List.getElem?_eq_getElem hlt2) 0 _ rfl
      simp only [Nat.mul_one, Nat.add_zero] at hx hy
      clear hcA hcB hcell1 hcell2
      by_cases hxy : xs[k] = ys[k]
      · have hq1 : (xs[k] != ys[k]) = false := by simp [hxy]
        have HX := Lib.hid hxy
        clear hxy
        go_wp2
        go_quiet (fail)
        go_wp2
        go_roundw
        case rel => exact ⟨k + 1, by omega, by go_num, hq.drewN _, by rw [List.take_succ_eq_append_getElem hlt, List.take_succ_eq_append_getElem hlt2, HE.out, HX.out]⟩
        case measure => simp [intOf]; omega
      · have hq1 : (xs[k] != ys[k]) = true := by simpa using hxy
        have hne : decide (xs = ys) = false := by
          simp only [decide_eq_false_iff_not]
          intro e; subst e; exact hxy rfl
        have HN := Lib.hid hne
        clear hne hxy
        go_wp2
        go_quiet (fail)
        go_wp2
        go_ret
        exact ⟨ret_bool HN.out.symm, hq.drewN _⟩
    · have hall : decide (xs = ys) = true := by
        simp only [decide_eq_true_eq]
        have := HE.out
        rwa [List.take_of_length_le (by omega), List.take_of_length_le (by omega)] at this
      have HN := Lib.hid hall
      clear hall
      go_wp2
      go_ret
      exact ⟨ret_bool HN.out.symm, hq⟩
theorem eqIntS_any (v1 v2 : Value) (xs ys : List Int) (w : World) (h1 : RdS w w.heap.size 1 cInt v1 xs) (h2 : RdS w w.heap.size 1 cInt v2 ys) (hn : xs.length ≤ 8796093022207) (hn2 : ys.length ≤ 8796093022207) :
    Calls Tryz.prog 32 #[v1, v2] w (SaysB (decide (xs = ys)) w) :=
  (eqIntS_raw v1 v2 xs ys _ w h1 h2 hn hn2).mono fun _ _ hh => hh.says

end Go.Proofs.YtfgkfcfplodaoaaGreatDoor

end
