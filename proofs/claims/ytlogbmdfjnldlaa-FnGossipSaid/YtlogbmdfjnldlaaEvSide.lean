/-
  A region that draws its order: free operations, one that is forced behind them all, and beside it a move.
-/
import Derived.Test.YtlogbmdfjnldlaaEvLate
namespace Go.Proofs.Ytlogbmdfjnldlaa
set_option maxRecDepth 100000
set_option linter.unusedVariables false
set_option linter.unusedSimpArgs false
open Go Go.RowKit
set_option linter.unusedVariables false

section
variable {P : Program} {Γ : Models} {γ0 : Nat → Option Nat} {w0 : World} {N : Nat} {Q : Exit → Act → World → Prop} {l : List Oper} {p : Nat} {As : List (List Nat)} {Es : List (List Entry)} {st0 st st' : St} {a : Act} {w : World}

theorem look_side (h : chk l (p + 2) As = true) (hpl : p < l.length) (hS : Steps' P Γ N l p As st0 Es) {listed : Array Bool} (hc : Closed l listed) {i : Nat} {o : Oper} (h1 : l[i]? = some o) (hip : i < p) (h2 : L listed i = false) (h3 : ∀ k ∈ dirO o, L listed k = true) :
    ∀ t ∈ o.looksAt l.toArray, getS (pickE' Es 0 (inL (ancO As i)) st0) t = getS (pickE' Es 0 (L listed) st0) t := fun t ht => pick_congr hS.dist fun j E' hj hh => by
  have hanc := closed_anc h hc i o h1 h3
  have hlt := (List.getElem?_eq_some_iff.1 h1).1
  have hjl := (List.getElem?_eq_some_iff.1 hj).1
  rw [hS.len] at hjl
  have hoj : l[j]? = some l[j] := List.getElem?_eq_getElem (by omega)
  obtain ⟨d', hd', _, hod', _⟩ := hS.step j _ E' hoj hj
  have htd := onlyS_has hod' hh
  have hb : (l[j]?).bind (·.dst) = some t := by rw [hoj, htd]; exact hd'
  rcases chk_read h h1 (by omega) t ht j (by omega) hb with h5 | h5
  · rw [hanc j h5]
    unfold inL
    simpa using h5
  · have hnj : L listed j = false := by
      cases hL : L listed j with
      | false => rfl
      | true =>
        have := closed_anc h hc j _ hoj (hc j _ hoj hL) i h5
        rw [h2] at this
        cases this
    rw [hnj]
    unfold inL
    cases hq : (ancO As i).contains j with
    | false => rfl
    | true =>
      have := (chk_anc h h1 j (by simpa using hq)).1
      have h7 := (chk_anc h hoj i h5).1
      omega

theorem draw_side (hΓ : GSound P Γ) (h : chk l (p + 2) As = true) (hS : Steps' P Γ N l p As st0 Es) {oX : Oper} {d s : Nat} {ty : TypeId} {pos : String} {after : Array Edge} (hoX : l[p]? = some oX) (hoM : l[p + 1]? = some ⟨some d, .move (.tmp s), ty, pos, after, none⟩)
    (hN : d < N) (hdE : ∀ E ∈ Es, hasS E d = false) (hsE : ∀ E ∈ Es, hasS E s = false) (hM0 : ancO As (p + 1) = []) (hX : ∀ j, j < p → j ∈ ancO As p)
    (hTB : ∀ a w, R γ0 w0 N (pickE' Es 0 (fun _ => true) st0) a w → wpList P l.toArray Q (oX :: ⟨some d, .move (.tmp s), ty, pos, after, none⟩ :: l.drop (p + 2)) a w)
    (hTA : ∀ a w, R γ0 w0 N (.slot d (getS st0 s) :: pickE' Es 0 (fun _ => true) st0) a w → wpList P l.toArray Q (oX :: l.drop (p + 2)) a w) :
    ∀ (fuel : Nat) (listed : Array Bool) (a : Act) (w : World), listed.size = l.length → Closed l listed → (∀ i, L listed i = true → i ≤ p + 1) → (List.range l.length).countP (fun i => !L listed i) ≤ fuel →
      (L listed p = false → R γ0 w0 N (if L listed (p + 1) = true then .slot d (getS st0 s) :: pickE' Es 0 (L listed) st0 else pickE' Es 0 (L listed) st0) a w) →
      (L listed p = true → wpList P l.toArray Q (if L listed (p + 1) = true then l.drop (p + 2) else ⟨some d, .move (.tmp s), ty, pos, after, none⟩ :: l.drop (p + 2)) a w) → wpAny P .any l.toArray Q fuel listed a w := by
  have hpl : p + 1 < l.length := (List.getElem?_eq_some_iff.1 hoM).1
  intro fuel
  induction fuel with
  | zero =>
    intro listed a w hs hc hlp hcnt hR hW
    have hall : ∀ i, i < l.length → L listed i = true := fun i hi => by
      have := List.countP_eq_zero.1 (Nat.le_zero.1 hcnt) i (List.mem_range.2 hi)
      simpa using this
    have hpn : l.length = p + 2 := by
      rcases Nat.lt_or_ge (p + 2) l.length with h1 | h1
      · have := hlp (p + 2) (hall _ h1); omega
      · omega
    refine draw_tail h 0 (p + 2) listed a w hs (Nat.le_refl _) (by omega) (by omega) (fun i hi => ?_) ?_
    · rw [hall i hi]; simp; omega
    · have := hW (hall p (by omega))
      rwa [if_pos (hall (p + 1) hpl)] at this
  | succ fuel ih =>
    intro listed a w hs hc hlp hcnt hR hW
    by_cases hall : ∀ i, i ≤ p + 1 → L listed i = true
    · refine draw_tail h (fuel + 1) (p + 2) listed a w hs (Nat.le_refl _) (by omega) ?_ (fun i hi => ?_) ?_
      · have : l.length - (p + 2) ≤ (List.range l.length).countP (fun i => !L listed i) := by
          have h1 : (List.range l.length).countP (fun i => !L listed i) = (List.range l.length).countP (fun i => decide (p + 2 ≤ i)) := List.countP_congr fun i hi => by
            by_cases hip : i ≤ p + 1
            · simp [hall i hip]; omega
            · have : L listed i = false := by
                cases hL : L listed i with
                | false => rfl
                | true => exact absurd (hlp i hL) hip
              simp [this]; omega
          rw [h1]
          exact count_ge l.length (p + 2)
        omega
      · by_cases hip : i ≤ p + 1
        · rw [hall i hip]; simp; omega
        · have : L listed i = false := by
            cases hL : L listed i with
            | false => rfl
            | true => exact absurd (hlp i hL) hip
          rw [this]; simp; omega
      · have := hW (hall p (by omega))
        rwa [if_pos (hall (p + 1) (Nat.le_refl _))] at this
    · refine ⟨fun hr => ?_, fun i hi => ?_⟩
      · exfalso
        apply hall
        intro i
        induction i using Nat.strongRecOn with
        | _ i ih2 =>
          intro hip
          cases hL : L listed i with
          | true => rfl
          | false =>
            have hlt : i < l.length := by omega
            have hok : l[i]? = some l[i] := List.getElem?_eq_getElem hlt
            have := ready_of hs hok hL (fun k hk => by
              have h1 := chk_dir h hok k hk
              exact ih2 k h1 (by omega))
            rw [hr] at this
            cases this
      · obtain ⟨o, h1, h2, h3⟩ := ready_spec hs hi
        have hlt := (List.getElem?_eq_some_iff.1 h1).1
        have hanc := closed_anc h hc i o h1 h3
        have hset : ∀ j, L (listed.setIfInBounds i true) j = if i = j then true else L listed j := L_set (by omega)
        have hip : i ≤ p + 1 := by
          rcases Nat.lt_or_ge (p + 1) i with h4 | h4
          · exfalso
            exact hall fun j hj => hanc j (chk_tail h h1 (by omega) j (by omega))
          · exact h4
        have hle : ∀ j, inL (ancO As i) j = true → L listed j = true := fun j hj => hanc j (by unfold inL at hj; simpa using hj)
        have hcl : Closed l (listed.setIfInBounds i true) := fun j o' hj hL k hk => by
          rw [hset] at hL ⊢
          by_cases e : i = j
          · subst e
            rw [h1] at hj
            cases hj
            split
            · rfl
            · exact h3 k hk
          · rw [if_neg e] at hL
            split
            · rfl
            · exact hc j o' hj hL k hk
        have hbd : ∀ j, L (listed.setIfInBounds i true) j = true → j ≤ p + 1 := fun j hL => by
          rw [hset] at hL
          by_cases e : i = j
          · omega
          · rw [if_neg e] at hL
            exact hlp j hL
        have hct : (List.range l.length).countP (fun j => !L (listed.setIfInBounds i true) j) ≤ fuel := by
          have := count_set (fun j => !L listed j) (fun j => !L (listed.setIfInBounds i true) j) i (by simp [h2]) (by simp [hset]) (fun j hj => by simp only [hset, if_neg (fun e : i = j => hj e.symm)]) (List.range l.length) List.nodup_range (List.mem_range.2 hlt)
          omega
        have hfrees : L listed p = true → ∀ j, j < p → L listed j = true := fun hp j hj => closed_anc h hc p _ hoX (hc p _ hoX hp) j (hX j hj)
        by_cases hpi : i = p
        · -- the forced one
          subst hpi
          have hall2 : ∀ j, j < i → L listed j = true := fun j hj => hanc j (hX j hj)
          have hpk : pickE' Es 0 (L listed) st0 = pickE' Es 0 (fun _ => true) st0 := pick_ext Es 0 (fun j hj => hall2 (0 + j) (by rw [hS.len] at hj; omega)) st0
          have hR := hR h2
          rw [hpk] at hR
          rw [hoX] at h1
          cases h1
          have hp1 : L (listed.setIfInBounds i true) (i + 1) = L listed (i + 1) := by rw [hset, if_neg (by omega)]
          cases hM : L listed (i + 1) with
          | true =>
            rw [if_pos hM] at hR
            refine wpOp_of_list hoX (hTA a w hR) fun a' w' hw => ih _ a' w' (by simpa using hs) hcl hbd hct (fun hf => ?_) (fun _ => ?_)
            · rw [hset, if_pos rfl] at hf; cases hf
            · rw [hp1, hM, if_pos rfl]; exact hw
          | false =>
            rw [if_neg (by rw [hM]; simp)] at hR
            refine wpOp_of_list hoX (hTB a w hR) fun a' w' hw => ih _ a' w' (by simpa using hs) hcl hbd hct (fun hf => ?_) (fun _ => ?_)
            · rw [hset, if_pos rfl] at hf; cases hf
            · rw [hp1, hM, if_neg (by simp)]; exact hw
        · have hLp : L (listed.setIfInBounds i true) p = L listed p := by rw [hset, if_neg hpi]
          by_cases hmi : i = p + 1
          · -- the move
            subst hmi
            rw [hoM] at h1
            cases h1
            have hm1 : L (listed.setIfInBounds (p + 1) true) (p + 1) = true := by rw [hset, if_pos rfl]
            cases hp : L listed p with
            | true =>
              have hw := hW hp
              rw [if_neg (by rw [h2]; simp)] at hw
              refine wpOp_of_list hoM hw fun a' w' hw' => ih _ a' w' (by simpa using hs) hcl hbd hct (fun hf => ?_) (fun _ => ?_)
              · rw [hLp, hp] at hf; cases hf
              · rw [hm1, if_pos rfl]; exact hw'
            | false =>
              have hR := hR hp
              rw [if_neg (by rw [h2]; simp)] at hR
              have hev : getS (pickE' Es 0 (L listed) st0) s = getS st0 s := pick_S_none Es 0 (L listed) st0 hS.dist (fun j E hj _ => hsE E (List.mem_of_getElem? hj))
              have hent : entG P Γ l.toArray (pickE' Es 0 (L listed) st0) ⟨some d, .move (.tmp s), ty, pos, after, none⟩ = some [Entry.slot d (getS st0 s)] := by
                rw [← hev]
                rfl
              refine entG_step hΓ rfl hN hent (fun m hm => by simp [hasB] at hm) hoM hR fun a' w' hR' => ?_
              refine ih _ a' w' (by simpa using hs) hcl hbd hct (fun _ => ?_) (fun hf => ?_)
              · rw [hm1, if_pos rfl]
                have e1 : ∀ (j : Nat) (E : List Entry), Es[j]? = some E → L listed j = L (listed.setIfInBounds (p + 1) true) j := fun j E hj => by
                  have := (List.getElem?_eq_some_iff.1 hj).1
                  rw [hS.len] at this
                  rw [hset, if_neg (by omega)]
                exact hR'.congr (fun q => by
                  show (if d = q then _ else getS (pickE' Es 0 (L listed) st0) q) = (if d = q then _ else getS (pickE' Es 0 _ st0) q)
                  rw [pick_congr hS.dist fun j E hj _ => e1 j E hj]) (fun m => by
                  show getB (pickE' Es 0 (L listed) st0) m = getB (pickE' Es 0 _ st0) m
                  exact pick_congrB hS.dist fun j E hj _ => e1 j E hj)
              · rw [hLp, hp] at hf; cases hf
          · have hip' : i < p := by omega
            have hp : L listed p = false := by
              cases hp : L listed p with
              | false => rfl
              | true =>
                have := hfrees hp i hip'
                rw [h2] at this
                cases this
            have hR := hR hp
            have hEi : Es[i]? = some (Es[i]'(by rw [hS.len]; exact hip')) := List.getElem?_eq_getElem _
            obtain ⟨d1, hd1, hN1, hod, hent⟩ := hS.step i o _ h1 hEi
            generalize Es[i]'(by rw [hS.len]; exact hip') = E at hEi hod hent
            have hent' := entG_mono (ops := l.toArray) (pick_le hS hle) (look_side h (by omega) hS hc h1 hip' h2 h3) hent
            obtain ⟨g1, g2⟩ := pick_add hS (S := L listed) (S' := L (listed.setIfInBounds i true)) hEi hset
            have hfree : ∀ n, hasB E n = true → getB (pickE' Es 0 (L listed) st0) n = none := fun n hn => by
              rw [pick_B_none Es 0 (L listed) st0 hS.dist (fun j E' hj hL => by
                by_cases e : i = j
                · subst e; rw [Nat.zero_add, h2] at hL; cases hL
                · exact (distinct_ne hS.dist hEi hj e).2 n hn)]
              exact hS.free E (List.mem_of_getElem? hEi) n hn
            have hp1 : L (listed.setIfInBounds i true) (p + 1) = L listed (p + 1) := by rw [hset, if_neg hmi]
            cases hM : L listed (p + 1) with
            | false =>
              rw [if_neg (by rw [hM]; simp)] at hR
              refine entG_step hΓ hd1 hN1 hent' hfree h1 hR fun a' w' hR' => ?_
              refine ih _ a' w' (by simpa using hs) hcl hbd hct (fun _ => ?_) (fun hf => ?_)
              · rw [hp1, hM, if_neg (by simp)]
                exact hR'.congr g1 g2
              · rw [hLp, hp] at hf; cases hf
            | true =>
              rw [if_pos hM] at hR
              have hnl : ∀ t ∈ o.looksAt l.toArray, t ≠ d := fun t ht e => by
                subst e
                rcases chk_read h h1 (by omega) t ht (p + 1) (by omega) (by rw [hoM]; rfl) with h5 | h5
                · have := (chk_anc h h1 (p + 1) h5).1
                  omega
                · rw [hM0] at h5; cases h5
              have hent2 : entG P Γ l.toArray (.slot d (getS st0 s) :: pickE' Es 0 (L listed) st0) o = some E := entG_mono (ops := l.toArray) (st := pickE' Es 0 (L listed) st0) (st' := .slot d (getS st0 s) :: pickE' Es 0 (L listed) st0) (fun n b hb => hb) (fun t ht => by
                show getS (pickE' Es 0 (L listed) st0) t = (if d = t then getS st0 s else getS (pickE' Es 0 (L listed) st0) t)
                rw [if_neg fun e => hnl t ht e.symm]) hent'
              refine entG_step hΓ hd1 hN1 hent2 (fun n hn => hfree n hn) h1 hR fun a' w' hR' => ?_
              refine ih _ a' w' (by simpa using hs) hcl hbd hct (fun _ => ?_) (fun hf => ?_)
              · rw [hp1, hM, if_pos rfl]
                have hk := distinct_kill hS.dist hEi
                refine hR'.congr (fun t => ?_) (fun m => ?_)
                · show getS (E ++ (.slot d (getS st0 s) :: pickE' Es 0 (L listed) st0)) t = (if d = t then getS st0 s else getS (pickE' Es 0 _ st0) t)
                  rw [← g1 t]
                  cases hh : hasS E t with
                  | true =>
                    have e1 := (getS_app hk (.slot d (getS st0 s) :: pickE' Es 0 (L listed) st0) [] t).1 hh
                    have e2 := (getS_app hk (pickE' Es 0 (L listed) st0) [] t).1 hh
                    rw [List.append_nil] at e1 e2
                    rw [e1, e2, if_neg fun e => by subst e; rw [hdE E (List.mem_of_getElem? hEi)] at hh; cases hh]
                  | false =>
                    rw [(getS_app hk (.slot d (getS st0 s) :: pickE' Es 0 (L listed) st0) [] t).2 hh, (getS_app hk (pickE' Es 0 (L listed) st0) [] t).2 hh]
                    rfl
                · show getB (E ++ (.slot d (getS st0 s) :: pickE' Es 0 (L listed) st0)) m = getB (pickE' Es 0 _ st0) m
                  rw [← g2 m]
                  cases hh : hasB E m with
                  | true =>
                    have e1 := ((getB_app hk (.slot d (getS st0 s) :: pickE' Es 0 (L listed) st0) [] m).1 hh).1
                    have e2 := ((getB_app hk (pickE' Es 0 (L listed) st0) [] m).1 hh).1
                    rw [List.append_nil] at e1 e2
                    rw [e1, e2]
                  | false =>
                    rw [(getB_app hk (.slot d (getS st0 s) :: pickE' Es 0 (L listed) st0) [] m).2 hh, (getB_app hk (pickE' Es 0 (L listed) st0) [] m).2 hh]
                    rfl
              · rw [hLp, hp] at hf; cases hf
def noS (Es : List (List Entry)) (t : Nat) : Bool := Es.all fun E => !hasS E t
theorem noS_of {Es : List (List Entry)} {t : Nat} (h : noS Es t = true) : ∀ E ∈ Es, hasS E t = false := fun E hE => by
  have := List.all_eq_true.1 h E hE
  simpa using this
theorem W.side (hm : P.follows .mixedOrders = true) (hΓ : GSound P Γ) {id : Nat} (p : Nat) (As : List (List Nat)) {oX : Oper} {rest : List Oper} {d s : Nat} {ty : TypeId} {pos : String} {after : Array Edge} (h : chk l (p + 2) As = true)
    (hM0 : ancO As (p + 1) = []) (hX : (List.range p).all (fun j => (ancO As p).contains j) = true)
    (hf : FlowT P Γ N l.toArray As st0 0 l [] Es (oX :: ⟨some d, .move (.tmp s), ty, pos, after, none⟩ :: rest)) (hp : p + 2 + rest.length = l.length) (hd : distB Es = true) (hfr : freeB st0 Es = true) (hN : d < N) (hdE : noS Es d = true) (hsE : noS Es s = true)
    (hTB : WL P γ0 w0 N l.toArray (oX :: ⟨some d, .move (.tmp s), ty, pos, after, none⟩ :: rest) (pickE' Es 0 (fun _ => true) st0) Q)
    (hTA : WL P γ0 w0 N l.toArray (oX :: rest) (.slot d (getS st0 s) :: pickE' Es 0 (fun _ => true) st0) Q) : W P γ0 w0 N st0 (.region id l.toArray true) Q := fun a w hR => by
  obtain ⟨pre, hpre, h1⟩ := flowT_split hf
  have hpl : pre.length = p := by rw [hpre, List.length_append, List.length_cons, List.length_cons] at hp; omega
  have hoX : l[p]? = some oX := by
    rw [hpre, ← hpl, List.getElem?_append_right (Nat.le_refl _), Nat.sub_self]
    rfl
  have hoM : l[p + 1]? = some ⟨some d, .move (.tmp s), ty, pos, after, none⟩ := by
    rw [hpre, ← hpl, List.getElem?_append_right (by omega), Nat.add_sub_cancel_left]
    rfl
  have hdrop : l.drop (p + 2) = rest := by
    rw [hpre, ← hpl, List.drop_append, List.drop_of_length_le (by omega), List.nil_append, Nat.add_sub_cancel_left]
    rfl
  obtain ⟨g1, g2⟩ := flow_steps h h1 rfl (fun k o hk => by
    rw [hpre, Nat.zero_add, List.getElem?_append_left (List.getElem?_eq_some_iff.1 hk).1]
    exact hk) (fun k o E _ hE => by simp at hE)
  have hS : Steps' P Γ N l p As st0 Es := ⟨by rw [g1, hpl, Nat.zero_add], dist_of hd, free_of hfr, fun i o E hi hE => g2 i o E hi hE⟩
  refine wp_region_any hm ?_
  obtain ⟨η, γ, hI⟩ := hR
  have hR' : R γ0 w0 N st0 a w.drew := ⟨η, γ, hI.world w.drew rfl rfl rfl rfl⟩
  have hL0 : ∀ i, L (Array.replicate l.toArray.size false) i = false := fun i => by
    unfold L
    simp only [Array.getD_eq_getD_getElem?, Array.getElem?_replicate]
    split <;> rfl
  have hpick : pickE' Es 0 (L (Array.replicate l.toArray.size false)) st0 = st0 := pick_none Es 0 (fun j => hL0 _) st0
  refine draw_side hΓ h hS hoX hoM hN (noS_of hdE) (noS_of hsE) hM0 (fun j hj => ?_) (fun a w hR => by rw [hdrop]; exact hTB a w hR) (fun a w hR => by rw [hdrop]; exact hTA a w hR) _ _ a w.drew (by simp) (fun i o _ hL => by rw [hL0] at hL; cases hL) (fun i hL => by rw [hL0] at hL; cases hL) ?_ (fun _ => by rw [hL0, if_neg (by simp), hpick]; exact hR') (fun hL => by rw [hL0] at hL; cases hL)
  · simpa using List.all_eq_true.1 hX j (List.mem_range.2 hj)
  · simp only [hL0]
    simp
end
section
variable {Γ : Models} {γ0 : Nat → Option Nat} {w0 : World} {N : Nat} {st1 st2 : St} {Q : Exit → Act → World → Prop}
/-- a region that draws its order: p free operations, one forced behind them all, a move that may come at any time, then a tail -/
theorem W.sideA (hΓ : GSound Try.prog Γ) {id : Nat} {l rest : List Oper} {st0 : St} (p : Nat) (As : List (List Nat)) {Es : List (List Entry)} {oX : Oper} {d s : Nat} {ty : TypeId} {pos : String} {after : Array Edge} (h : chk l (p + 2) As = true) (hM0 : ancO As (p + 1) = []) (hX : (List.range p).all (fun j => (ancO As p).contains j) = true)
    (hf : FlowT Try.prog Γ N l.toArray As st0 0 l [] Es (oX :: ⟨some d, .move (.tmp s), ty, pos, after, none⟩ :: rest)) (hp : p + 2 + rest.length = l.length) (hd : distB Es = true) (hfr : freeB st0 Es = true) (hN : d < N) (hdE : noS Es d = true) (hsE : noS Es s = true)
    (hst1 : pickE' Es 0 (fun _ => true) st0 = st1) (hst2 : .slot d (getS st0 s) :: st1 = st2) (hTB : WL Try.prog γ0 w0 N l.toArray (oX :: ⟨some d, .move (.tmp s), ty, pos, after, none⟩ :: rest) st1 Q) (hTA : WL Try.prog γ0 w0 N l.toArray (oX :: rest) st2 Q) : W Try.prog γ0 w0 N st0 (.region id l.toArray true) Q :=
  W.side follows_mixed hΓ p As h hM0 hX hf hp hd hfr hN hdE hsE (by rw [hst1]; exact hTB) (by rw [hst1, hst2]; exact hTA)
end
end Go.Proofs.Ytlogbmdfjnldlaa
