/-
  A row of blocks of one's own is marked, and is data from then on.
-/
import Derived.Test.YtfgkfcfplodaoaaGreatDoorHPEvMkB
namespace Go.Proofs.YtfgkfcfplodaoaaGreatDoor
set_option maxRecDepth 100000
set_option linter.unusedVariables false
set_option linter.unusedSimpArgs false
open Go Go.RowKit
set_option maxHeartbeats 8000000
set_option linter.unusedVariables false
set_option linter.unusedSimpArgs false

theorem own_of_repB {α : Type} {f : α → List Value} {s : Nat} {w : World} {γ : Nat → Option Nat} {l : List α} {u : Value} (hf : ∀ x, (f x).length = s) (h : RepL w γ (.sl (rowsF f l)) u) (hd : ∀ b, hdrBlock u = some b → ∃ cs t, w.heap[b]? = some (.cells cs t (0, 0))) : OwnS w 0 s f u l := by
  have hlen := rowsF_len f l
  generalize hr : rowsF f l = rows at h
  cases h with
  | @emp A c hc =>
    have : l = [] := by
      cases l with
      | nil => rfl
      | cons _ _ => simp [rowsF] at hr
    subst this
    exact ⟨A, c, rfl, Nat.zero_le _, hc, fun h => absurd rfl h⟩
  | @sl _ b off s' cap val g1 g2 g3 g4 g5 g6 g7 =>
    rw [hr] at hlen
    rw [hlen] at g3 ⊢
    obtain ⟨cs, t, hh⟩ := hd b rfl
    refine ⟨_, cap, rfl, g3, g4, fun hne => ⟨b, off, rfl, Nat.zero_le _, g2, fun o => by simp [World.frozen?, hh], fun i x hi j u hu => ?_⟩⟩
    have hrow : rows[i]? = some ((f x).map Leaf.sc) := by rw [← hr]; unfold rowsF; rw [List.getElem?_map, hi]; rfl
    have hcell : ((f x).map Leaf.sc)[j]? = some (.sc u) := by rw [List.getElem?_map, hu]; rfl
    have hs : s' = s := by rw [← g5 _ (List.mem_of_getElem? hrow)]; simp [hf]
    subst hs
    have e1 := g6 i _ j _ hrow hcell
    have e2 := g7 i _ j _ hrow hcell
    rw [e1]
    generalize val i j = q at e2
    cases e2
    rfl
theorem bkG_at {l : List TBlock} {i : Nat} (h : i < l.length) : bkG l i = l[i] := by rw [bkG, List.getD_eq_getElem?_getD, List.getElem?_eq_getElem h, Option.getD_some]
theorem bkG_get {l : List TBlock} {i : Nat} (h : i < l.length) : (bkRows l)[i]? = some (bkRow (bkG l i)) := by rw [bkRows_get h, bkG_at h]
/-- a block with its marks -/
def mkBk (m : Nat) (b : TBlock) : TBlock := (((m : Int), (m : Int) + 1, mtext (m + 2), mtext (m + 3), mtext (m + 4), mtext (m + 5)), marked mkVal 2 (m + 6) b.2.1.length, marked mkVal 2 (m + 6 + 2 * b.2.1.length) b.2.2.1.length,
  (((m + 6 + 2 * b.2.1.length + 2 * b.2.2.1.length : Nat) : Int), ((m + 6 + 2 * b.2.1.length + 2 * b.2.2.1.length : Nat) : Int) + 1, mtext (m + 6 + 2 * b.2.1.length + 2 * b.2.2.1.length + 2), marked mkCSig 2 (m + 9 + 2 * b.2.1.length + 2 * b.2.2.1.length) b.2.2.2.2.2.2.length))
def mkBl (l : List TBlock) (k : Nat) : List TBlock := (List.range l.length).map fun i => mkBk (kB l k i) (bkG l i)
theorem mkBl_len (l : List TBlock) (k : Nat) : (mkBl l k).length = l.length := by simp [mkBl]
theorem mkBl_row {l : List TBlock} {k i : Nat} (h : i < l.length) : (bkRows (mkBl l k))[i]? = some (bkRow (mkBk (kB l k i) (bkG l i))) := by
  unfold bkRows mkBl
  rw [List.getElem?_map, List.getElem?_map, List.getElem?_range h]
  rfl
def slotU (q : Nat) : Nat := match q with | 0 => 6 | 1 => 7 | _ => 11
section
variable {P : Program} {γ0 : Nat → Option Nat} {w0 : World} {N : Nat} {st : St} {a : Act} {w : World} {η : Nat → Value} {γ : Nat → Option Nat} {Q : Exit → Act → World → Prop}
/-- what a row of blocks of one's own is in memory -/
theorem nd_openB (h : Inv γ0 w0 N st a w η γ) {n e : Nat} {l : List TBlock} (hb : getB st n = some (.arr .nd e 12 (bkRows l))) :
    (l = [] ∧ ∃ A c, η n = .slice A 0 c ∧ c ≤ maxLen) ∨ ∃ (b c : Nat) (u : Nat → Nat → Value), η n = .slice (some ⟨b, 0, none⟩) l.length c ∧ l.length ≤ c ∧ c ≤ maxLen ∧ b < w.heap.size ∧ γ b = some n ∧ Sep b l.length u ∧
      (∀ k, St3 w w b 0 l.length u (bvL l u k 0) (in1B l k 0) (in2B l k 0) (in3B l k 0)) ∧ (∀ q i, q < 3 → i < l.length → ∀ g, (u q i).ownBlock = some g → γ g = some n) := by
  obtain ⟨xs, ⟨hxl, ho⟩, hr, hw, hg, _, hdis⟩ := h.blks n _ hb
  rw [bkRows_len] at ho hxl
  rcases ho with ⟨he, hz⟩ | ⟨g, cap, cur, he, _, hh, hnc, hcm, hcs, ht⟩
  · exact .inl ⟨List.length_eq_zero_iff.1 hz, none, 0, he, Nat.zero_le _⟩
  · have hd := hdis rfl
    have hfl : ∀ i j x, i < l.length → j < 12 → (bkRow (bkG l i))[j]? = some x → (bkRows l).flatten[i * 12 + j]? = some x := fun i j x hi hj hx => by
      rw [flatten_row hw (bkG_get hi) j hj]
      exact hx
    have hx : ∀ i j x, i < l.length → j < 12 → (bkRow (bkG l i))[j]? = some x → ∃ u, xs[i * 12 + j]? = some u ∧ RepL w (vw .nd n (η n) γ) x u := fun i j x hi hj hq => hr.2 _ _ (hfl i j x hi hj hq)
    have hcell : ∀ j v, xs[j]? = some v → w.cell? ⟨g, j, none⟩ = some v := fun j v hj => by
      rw [← ht, List.getElem?_take] at hj
      split at hj
      · simp only [World.cell?, hh]
        simpa using hj
      · cases hj
    let us : Nat → Nat → Value := fun q i => (xs[i * 12 + slotU q]?).getD undef
    have hus : ∀ q i rows, i < l.length → (bkRow (bkG l i))[slotU q]? = some (.sl rows) → xs[i * 12 + slotU q]? = some (us q i) ∧ RepL w (vw .nd n (η n) γ) (.sl rows) (us q i) := fun q i rows hi hq => by
      have hs : slotU q < 12 := (List.getElem?_eq_some_iff.1 hq).1
      obtain ⟨u, h1, h2⟩ := hx i _ _ hi hs hq
      have : us q i = u := by show (xs[i * 12 + slotU q]?).getD undef = u; rw [h1]; rfl
      rw [this]
      exact ⟨h1, h2⟩
    have hsc : ∀ i j v, i < l.length → (bkRow (bkG l i))[j]? = some (.sc v) → xs[i * 12 + j]? = some v := fun i j v hi hq => by
      have hs : j < 12 := (List.getElem?_eq_some_iff.1 hq).1
      obtain ⟨u, h1, h2⟩ := hx i _ _ hi hs hq
      cases h2
      exact h1
    have hrow : ∀ q i, q < 3 → i < l.length → ∃ rows, (bkRow (bkG l i))[slotU q]? = some (.sl rows) := fun q i hq hi => by
      match q, hq with
      | 0, _ => exact ⟨_, rfl⟩
      | 1, _ => exact ⟨_, rfl⟩
      | 2, _ => exact ⟨_, rfl⟩
    have hob : ∀ q i, q < 3 → i < l.length → ∀ g, (us q i).ownBlock = some g ↔ hdrBlock (us q i) = some g := fun q i hq hi g => by
      obtain ⟨rows, h0⟩ := hrow q i hq hi
      obtain ⟨_, h2⟩ := hus q i rows hi h0
      generalize us q i = u at h2
      cases h2 with
      | emp hc =>
        rename_i A c
        cases A <;> exact Iff.rfl
      | sl val g1 g2 g3 g4 g5 g6 g7 => exact Iff.rfl
    have hdq : ∀ q i, q < 3 → i < l.length → ∀ g, hdrBlock (us q i) = some g → γ g = some n ∧ (η n).ownBlock ≠ some g ∧ ∃ cs t, w.heap[g]? = some (.cells cs t (0, 0)) := fun q i hq hi g hg => by
      obtain ⟨rows, h0⟩ := hrow q i hq hi
      have hs : slotU q < 12 := (List.getElem?_eq_some_iff.1 h0).1
      exact hd.1 (i * 12 + slotU q) _ _ g (hfl i _ _ hi hs h0) (hus q i rows hi h0).1 hg
    have hlt : g < w.heap.size := heap_lt hh
    refine .inr ⟨g, cap, us, he, hnc, hcm, hlt, hg g (by rw [he]; rfl), ⟨fun q i hq hi e => ?_, fun q i q' i' hq hi hq' hi' hne b h1 h2 => ?_⟩, fun k => ⟨⟨Nat.zero_le _, hlt, fun o => by simp [World.frozen?, hh], fun i x hi j u hu => ?_⟩, fun i hi => ?_, fun i hi => ?_, fun i hi => ?_, ⟨rfl, rfl, rfl, Nat.le_refl _, fun _ _ _ _ => rfl⟩⟩, fun q i hq hi b h1 => (hdq q i hq hi b ((hob q i hq hi b).1 h1)).1⟩
    · have := (hdq q i hq hi g ((hob q i hq hi g).1 e)).2.1
      rw [he] at this
      exact this rfl
    · obtain ⟨r1, h3⟩ := hrow q i hq hi
      obtain ⟨r2, h4⟩ := hrow q' i' hq' hi'
      have s1 : slotU q < 12 := (List.getElem?_eq_some_iff.1 h3).1
      have s2 : slotU q' < 12 := (List.getElem?_eq_some_iff.1 h4).1
      refine hd.2 (i * 12 + slotU q) (i' * 12 + slotU q') _ _ _ _ b (fun e => hne ?_) (hfl i _ _ hi s1 h3) (hfl i' _ _ hi' s2 h4) (hus q i r1 hi h3).1 (hus q' i' r2 hi' h4).1 ((hob q i hq hi b).1 h1) ((hob q' i' hq' hi' b).1 h2)
      have e1 : i = i' := by omega
      have e2 : slotU q = slotU q' := by omega
      subst e1
      have : q = q' := by
        match q, q', hq, hq', e2 with
        | 0, 0, _, _, _ => rfl
        | 1, 1, _, _, _ => rfl
        | 2, 2, _, _, _ => rfl
        | 0, 1, _, _, e => exact absurd e (by decide)
        | 0, 2, _, _, e => exact absurd e (by decide)
        | 1, 0, _, _, e => exact absurd e (by decide)
        | 1, 2, _, _, e => exact absurd e (by decide)
        | 2, 0, _, _, e => exact absurd e (by decide)
        | 2, 1, _, _, e => exact absurd e (by decide)
      rw [this]
    · have hil : i < l.length := by have := (List.getElem?_eq_some_iff.1 hi).1; rw [bvL_len] at this; exact this
      rw [bvL_get hil, if_neg (Nat.not_lt_zero i)] at hi
      cases hi
      rw [Nat.zero_add]
      have hj : j < 12 := (List.getElem?_eq_some_iff.1 hu).1
      apply hcell
      match j, hj with
      | 0, _ => cases hu; exact hsc i 0 _ hil rfl
      | 1, _ => cases hu; exact hsc i 1 _ hil rfl
      | 2, _ => cases hu; exact hsc i 2 _ hil rfl
      | 3, _ => cases hu; exact hsc i 3 _ hil rfl
      | 4, _ => cases hu; exact hsc i 4 _ hil rfl
      | 5, _ => cases hu; exact hsc i 5 _ hil rfl
      | 6, _ => cases hu; exact (hus 0 i _ hil rfl).1
      | 7, _ => cases hu; exact (hus 1 i _ hil rfl).1
      | 8, _ => cases hu; exact hsc i 8 _ hil rfl
      | 9, _ => cases hu; exact hsc i 9 _ hil rfl
      | 10, _ => cases hu; exact hsc i 10 _ hil rfl
      | 11, _ => cases hu; exact (hus 2 i _ hil rfl).1
    · rw [in1B, if_neg (Nat.not_lt_zero i)]
      exact own_of_repB (fun _ => rfl) (hus 0 i _ hi rfl).2 fun q hq => (hdq 0 i (by omega) hi q hq).2.2
    · rw [in2B, if_neg (Nat.not_lt_zero i)]
      exact own_of_repB (fun _ => rfl) (hus 1 i _ hi rfl).2 fun q hq => (hdq 1 i (by omega) hi q hq).2.2
    · rw [in3B, if_neg (Nat.not_lt_zero i)]
      exact own_of_repB (fun _ => rfl) (hus 2 i _ hi rfl).2 fun q hq => (hdq 2 i (by omega) hi q hq).2.2
end
theorem markB_nil (A : Option Addr) (c k : Nat) (hc : c ≤ maxLen) (w : World) : Calls Tryz.prog 35 #[.slice A 0 c, .int .i64 (k : Int)] w fun e w' => e = .returned (.int .i64 (k : Int)) ∧ Below w.heap.size w w' := by
  go_enter Tryz.func35, Tryz.ntmps35
  go_wp2_with fail
  refine wp_loop_rounds 1 ?_
  rw [rounds_succ]
  go_wp2_with fail
  go_ret
  exact ⟨rfl, Below.refl _ _⟩
section
variable {γ0 : Nat → Option Nat} {w0 : World} {N : Nat} {st st1 : St} {a : Act} {w : World} {η : Nat → Value} {γ : Nat → Option Nat} {Q : Exit → Act → World → Prop}
theorem cVal_on1 : ∀ x : TVal, ∀ u ∈ cVal x, u.oneCell' = true := fun x u hu => by simp [cVal] at hu; rcases hu with rfl | rfl <;> rfl
theorem cCSig_on1 : ∀ x : TCSig, ∀ u ∈ cCSig x, u.oneCell' = true := fun x u hu => by simp [cCSig] at hu; rcases hu with rfl | rfl <;> rfl
theorem WL.opMarkB {ops : Array Oper} {r : List Oper} {d e : Nat} {x0 x1 : Operand} {ts : Array TypeId} {ty : TypeId} {pos : String} {after : Array Edge} {l : List TBlock} (n k : Nat) (h0 : 0 < k) (hn : kB l k l.length ≤ 1099511627776)
    (hf : Has Tryz.prog 35) (hN : d < N := by decide)
    (hx : ev st x0 = one (.all n) := by exact evsP) (hk : ev st x1 = one (.sc (.int .i64 (k : Int))) := by exact evsP) (hb : getB st n = some (.arr .nd e 12 (bkRows l)) := by exact evsP)
    (hst : .slot d (one (.sc (.int .i64 ((kB l k l.length : Nat) : Int)))) :: datS n (bkRows (mkBl l k)) st = st1 := by simp only [datS, PV.dat, datL, datT, PL.dat, Blk.dat, Nat.reduceEqDiff, reduceIte]; rfl)
    (h : WL Tryz.prog γ0 w0 N ops r st1 Q) : WL Tryz.prog γ0 w0 N ops (⟨some d, .call ⟨.value (.func 35), #[x0, x1], ts⟩, ty, pos, after, none⟩ :: r) st Q := fun a w hR => by
  subst hst
  refine wpList_plain rfl fun K hK => ?_
  obtain ⟨η, γ, hI⟩ := hR
  have h1 := ev_sound hI x0
  rw [hx] at h1
  have h1 := (RepV.one_iff.1 h1).1
  have h2 := ev_sound hI x1
  rw [hk] at h2
  obtain ⟨h2, -⟩ := RepV.one_iff.1 h2
  have hrun := enter_of (P := Tryz.prog) hf (a := a) (w := w) (args := [x0, x1]) (ts := ts) (dst := some d) (ty := ty) (pos := pos) (after := after) (g := none)
  unfold Oper.wp
  rw [hrun]
  show Calls Tryz.prog _ ([x0, x1].map a.eval).toArray w _
  simp only [List.map_cons, List.map_nil, h1, h2]
  have fin : ∀ (w' : World), w'.os = w.os → w'.tape = w.tape → w'.output = w.output → w.heap.size ≤ w'.heap.size → (∀ q, q < w.heap.size → γ q ≠ some n → w'.heap[q]? = w.heap[q]?) → RepL w' (fun b => if γ b = some n then none else γ b) (.sl (bkRows (mkBl l k))) (η n) →
      K (a.put (some d) (.int .i64 ((kB l k l.length : Nat) : Int))) w' := fun w' g1 g2 g3 g4 g5 g6 => by
    have hI2 := hI.toDat n (rows := bkRows (mkBl l k)) w' g1 g2 g3 g4 g5 g6
    exact hK _ _ (h _ _ ⟨η, _, hI2.put d _ _ hN (RepV.one_iff.2 ⟨rfl, rfl⟩)⟩)
  rcases nd_openB hI hb with ⟨rfl, A, c, he, hc⟩ | ⟨b, c, u, he, hlc, hcm, hbs, hgb, hsep, hst3, hgu⟩
  · rw [he]
    refine (markB_nil A c k hc w).mono fun e' w' ⟨he', hbel⟩ => ?_
    subst he'
    refine fin w' hbel.os hbel.tape hbel.output hbel.size (fun q hq _ => hbel.block q hq) ?_
    rw [he]
    exact RepL.emp hc
  · rw [he]
    refine (markBlockS_any b 0 c l u k w hsep (hst3 k) hlc hcm h0 hn).mono fun e' w' ⟨he', hs'⟩ => ?_
    subst he'
    have hch := hs'.chg
    refine fin w' hch.os hch.tape hch.output hch.size (fun q hq hne => hch.block q hq (fun e => hne (e ▸ hgb)) fun p i hp hi e => hne (hgu p i hp hi q e)) ?_
    rw [he, ← mkBl_len l k, ← bkRows_len]
    have hlen : (bkRows (mkBl l k)).length = l.length := by rw [bkRows_len, mkBl_len]
    have hcl : ∀ i j v, i < l.length → (cBv (bvM l u k i))[j]? = some v → w'.cell? ⟨b, 0 + i * 12 + j, none⟩ = some v := fun i j v hi hv => by
      have hel := bvL_get (u := u) (k := k) (j := l.length) hi
      rw [if_pos hi] at hel
      exact hs'.cell hel j hv
    have hown : ∀ q i, q < 3 → i < l.length → ∀ g, (u q i).ownBlock = some g → (if γ g = some n then none else γ g) = none := fun q i hq hi g hg => by simp [hgu q i hq hi g hg]
    have r1 : ∀ i, i < l.length → RepL w' (fun b => if γ b = some n then none else γ b) (.sl (rowsF cVal (marked mkVal 2 (kB l k i + 6) (bkG l i).2.1.length))) (u 0 i) := fun i hi => by
      have := hs'.in1 i hi
      unfold in1B at this
      rw [if_pos hi] at this
      exact rep_of_own (fun _ => rfl) cVal_on1 (fun q hq => hown 0 i (by omega) hi q hq) this
    have r2 : ∀ i, i < l.length → RepL w' (fun b => if γ b = some n then none else γ b) (.sl (rowsF cVal (marked mkVal 2 (kB l k i + 6 + 2 * (bkG l i).2.1.length) (bkG l i).2.2.1.length))) (u 1 i) := fun i hi => by
      have := hs'.in2 i hi
      unfold in2B at this
      rw [if_pos hi] at this
      exact rep_of_own (fun _ => rfl) cVal_on1 (fun q hq => hown 1 i (by omega) hi q hq) this
    have r3 : ∀ i, i < l.length → RepL w' (fun b => if γ b = some n then none else γ b) (.sl (rowsF cCSig (marked mkCSig 2 (kB l k i + 9 + 2 * (bkG l i).2.1.length + 2 * (bkG l i).2.2.1.length) (bkG l i).2.2.2.2.2.2.length))) (u 2 i) := fun i hi => by
      have := hs'.in3 i hi
      unfold in3B at this
      rw [if_pos hi] at this
      exact rep_of_own (fun _ => rfl) cCSig_on1 (fun q hq => hown 2 i (by omega) hi q hq) this
    refine .sl (s := 12) (off := 0) (fun i j => ((cBv (bvM l u k i))[j]?).getD undef) (by simp [hgb]) (Nat.lt_of_lt_of_le hbs hch.size) (by rw [hlen]; exact hlc) hcm (fun row hr => bkRows_wid _ row hr) (fun i row j x hi hj => ?_) (fun i row j x hi hj => ?_)
    · have hil : i < l.length := by have := (List.getElem?_eq_some_iff.1 hi).1; omega
      rw [mkBl_row hil] at hi
      cases hi
      have hj2 : j < 12 := (List.getElem?_eq_some_iff.1 hj).1
      have hv : (cBv (bvM l u k i))[j]? = some ((cBv (bvM l u k i))[j]'(by rw [cBv_len]; exact hj2)) := List.getElem?_eq_getElem _
      rw [hv, Option.getD_some]
      exact hcl i j _ hil hv
    · have hil : i < l.length := by have := (List.getElem?_eq_some_iff.1 hi).1; omega
      rw [mkBl_row hil] at hi
      cases hi
      have hj2 : j < 12 := (List.getElem?_eq_some_iff.1 hj).1
      match j, hj2 with
      | 0, _ => cases hj; exact .sc rfl
      | 1, _ => cases hj; exact .sc rfl
      | 2, _ => cases hj; exact .sc rfl
      | 3, _ => cases hj; exact .sc rfl
      | 4, _ => cases hj; exact .sc rfl
      | 5, _ => cases hj; exact .sc rfl
      | 6, _ => cases hj; exact r1 i hil
      | 7, _ => cases hj; exact r2 i hil
      | 8, _ => cases hj; exact .sc rfl
      | 9, _ => cases hj; exact .sc rfl
      | 10, _ => cases hj; exact .sc rfl
      | 11, _ => cases hj; exact r3 i hil
end
end Go.Proofs.YtfgkfcfplodaoaaGreatDoor
