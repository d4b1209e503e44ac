/-
  Put together: PEvCut PEvNest PEvFrz.
-/
import Derived.Test.YtfgkfcfplodaoaaGreatDoorHPEvCur
import Derived.Test.YtfgkfcfplodaoaaGreatDoorG9
section
/-!
  A function that cuts a row of one's own in place: contract, entering, leaving, calling.
-/
namespace Go.Proofs.YtfgkfcfplodaoaaGreatDoor
set_option maxRecDepth 100000
set_option linter.unusedVariables false
set_option linter.unusedSimpArgs false
open Go Go.RowKit
set_option linter.unusedVariables false

section
variable {P : Program} {γ0 : Nat → Option Nat} {w0 : World} {N : Nat} {st : St} {a : Act} {w : World} {η : Nat → Value} {γ : Nat → Option Nat} {Q : Exit → Act → World → Prop}
section
variable {α : Type} {enc : α → List Value} {k : Nat}
theorem flat_lenK (hk : ∀ x, (enc x).length = k) (l : List α) : ((l.map enc).flatten).length = l.length * k := by
  have := flatten_len (s := k) (rows := l.map enc) (fun row hr => by
    obtain ⟨x, _, rfl⟩ := List.mem_map.1 hr
    exact hk x)
  simpa using this
end
theorem scs_eq {l : List Value} {us : List Value} (h : RepLs w γ (l.map Leaf.sc) us) : us = l ∧ ∀ v ∈ l, v.oneCell' = true := by
  obtain ⟨h1, h2⟩ := h
  rw [List.length_map] at h1
  have key : ∀ j (v : Value), l[j]? = some v → us[j]? = some v ∧ v.oneCell' = true := fun j v hj => by
    obtain ⟨u, h3, h4⟩ := h2 j (.sc v) (by rw [List.getElem?_map, hj]; rfl)
    cases h4 with
    | sc h5 => exact ⟨h3, h5⟩
  refine ⟨List.ext_getElem? fun j => ?_, fun v hv => ?_⟩
  · cases hj : l[j]? with
    | some v => exact (key j v hj).1
    | none =>
      rw [List.getElem?_eq_none_iff] at hj ⊢
      omega
  · obtain ⟨j, hj⟩ := List.mem_iff_getElem?.1 hv
    exact (key j v hj).2
theorem scs_rep {l : List Value} (h : ∀ v ∈ l, v.oneCell' = true) : RepLs w γ (l.map Leaf.sc) l := by
  refine ⟨by simp, fun j x hj => ?_⟩
  rw [List.getElem?_map] at hj
  obtain ⟨u, h1, rfl⟩ := Option.map_eq_some_iff.1 hj
  exact ⟨u, h1, .sc (h u (List.mem_of_getElem? h1))⟩
theorem rowsF_flatten {α : Type} (f : α → List Value) (l : List α) : (rowsF f l).flatten = ((l.map f).flatten).map Leaf.sc := by
  unfold rowsF
  induction l with
  | nil => rfl
  | cons x l ih => simp [ih]

end
def idxP {α : Type} (p : α → Bool) (l : List α) : Int := if l.findIdx p < l.length then (l.findIdx p : Int) else -1
theorem idxP_at {α : Type} {p : α → Bool} {l : List α} {k : Nat} (hk : k < l.length) (hn : ∀ j, (h : j < k) → p l[j] = false) (hx : p l[k] = true) : idxP p l = k := by
  have : l.findIdx p = k := (List.findIdx_eq hk).2 ⟨hx, fun j hj => hn j hj⟩
  unfold idxP
  rw [this, if_pos hk]
theorem idxP_no {α : Type} {p : α → Bool} {l : List α} (hn : ∀ j, (h : j < l.length) → p l[j] = false) : idxP p l = -1 := by
  unfold idxP
  rw [if_neg]
  intro h
  have h1 := List.findIdx_getElem (p := p) (w := h)
  rw [hn _ h] at h1
  cases h1
end Go.Proofs.YtfgkfcfplodaoaaGreatDoor

end
section
/-!
  Results whose data are not flat: they may speak of the arguments' memory; the caller owns nothing then.
-/
namespace Go.Proofs.YtfgkfcfplodaoaaGreatDoor
set_option maxRecDepth 100000
set_option linter.unusedVariables false
set_option linter.unusedSimpArgs false
open Go Go.RowKit
set_option linter.unusedVariables false

section
variable {P : Program} {Γ : Models} {γ0 : Nat → Option Nat} {w0 : World} {N : Nat} {st st' : St} {a : Act} {w : World} {η : Nat → Value} {γ γ' : Nat → Option Nat} {Q : Exit → Act → World → Prop}
def PostN (w : World) (r : Res) (e : Ending) (w' : World) : Prop :=
  ∃ u γ hdr, e = .returned u ∧ Below w.heap.size w w' ∧ (∀ b k, γ b = some k → w.heap.size ≤ b ∧ b < w'.heap.size ∧ AtR r hdr b k) ∧ RepR w.heap.size w' γ hdr r u
def SoundN (P : Program) (f : FuncId) (m : List Arg → Option Res) : Prop :=
  ∀ args r vs w, GlobOk none0 w → m args = some r → RepAs w args vs → Calls P f vs.toArray w (PostN w r)
def rlN (st : St) : PL → Option RL
  | .sc v => some (.ro (.sc v))
  | .nil => some (.ro (.sl []))
  | .sl rows => some (.ro (.sl rows))
  | .all n => match getB st n with
    | some (.arr fl e s rows) => some (.own fl e s rows)
    | _ => none
  | _ => none
def rlsN (st : St) : List PL → Option (List RL)
  | [] => some []
  | l :: r => match rlN st l, rlsN st r with
    | some x, some y => some (x :: y)
    | _, _ => none
def compN (st : St) : PV → Option (Bool × List RL)
  | .comp g ls => (rlsN st ls).map fun x => (g, x)
  | _ => none
def compsN (P : Program) (st : St) : List ResultVar → Option (List (Bool × List RL))
  | [] => some []
  | x :: r => match (resV P st x).bind (compN st), compsN P st r with
    | some a, some b => some (a :: b)
    | _, _ => none
def resN (P : Program) (st : St) (rs : List ResultVar) : Option Res := (compsN P st rs).map toRes
def γoutN (γ : Nat → Option Nat) (L : List (Nat × Nat)) : Nat → Option Nat := fun b => match γ b with
  | some n => (L.find? (fun p => p.2 == n)).map (·.1)
  | none => none
theorem rlsN_get : ∀ {ls : List PL} {xs : List RL} (_ : rlsN st ls = some xs), xs.length = ls.length ∧ ∀ (k : Nat) (x : RL), xs[k]? = some x → ∃ l, ls[k]? = some l ∧ rlN st l = some x
  | [], xs, h => by
    simp only [rlsN, Option.some.injEq] at h
    subst h
    exact ⟨rfl, fun k x hk => by simp at hk⟩
  | l :: r, xs, h => by
    unfold rlsN at h
    split at h
    · rename_i x y h1 h2
      cases h
      obtain ⟨h3, h4⟩ := rlsN_get h2
      refine ⟨by simp [h3], fun k z hk => ?_⟩
      cases k with
      | zero =>
        simp only [List.getElem?_cons_zero, Option.some.injEq] at hk
        subst hk
        exact ⟨l, rfl, h1⟩
      | succ k =>
        obtain ⟨l', h5, h6⟩ := h4 k z (by simpa using hk)
        exact ⟨l', by simpa using h5, h6⟩
    · cases h

theorem rlN_own {l : PL} {fl : Fl} {e s : Nat} {rows : List (List Leaf)} (h : rlN st l = some (.own fl e s rows)) : ∃ n, l = .all n ∧ getB st n = some (.arr fl e s rows) := by
  unfold rlN at h
  split at h
  · cases h
  · cases h
  · cases h
  · rename_i n
    split at h
    · rename_i hbx
      cases h
      exact ⟨n, rfl, hbx⟩
    · cases h
  · cases h
/-- where a row that is returned comes from -/
theorem compsN_own {fl : Fl} {e s : Nat} {rows : List (List Leaf)} : ∀ {rs : List ResultVar} {vs : List (Bool × List RL)} (_ : compsN P st rs = some vs) (j : Nat) {i k : Nat} {g : Bool} {ls : List RL} (_ : vs[i]? = some (g, ls)) (_ : ls[k]? = some (.own fl e s rows)), ∃ n, (64 * (j + i) + k, n) ∈ ownC P st j rs ∧ getB st n = some (.arr fl e s rows)
  | [], vs, h, j, i, k, g, ls, h1, h2 => by
    simp only [compsN, Option.some.injEq] at h
    subst h
    simp at h1
  | x :: r, vs, h, j, i, k, g, ls, h1, h2 => by
    unfold compsN at h
    split at h
    · rename_i p q e1 e2
      cases h
      cases i with
      | zero =>
        simp only [List.getElem?_cons_zero, Option.some.injEq] at h1
        subst h1
        obtain ⟨v, hv, hco⟩ := Option.bind_eq_some_iff.1 e1
        cases v with
        | tup _ => cases hco
        | comp g' ls' =>
          obtain ⟨xs, hx, he⟩ := Option.map_eq_some_iff.1 hco
          injection he with e3 e4
          subst e3; subst e4
          obtain ⟨_, hxg⟩ := rlsN_get hx
          obtain ⟨l, h3, h4⟩ := hxg k _ h2
          obtain ⟨n, rfl, h5⟩ := rlN_own h4
          exact ⟨n, ownC_mem (k := 0) (j := j) rfl hv (ownL_mem h3), h5⟩
      | succ i =>
        obtain ⟨n, h3, h4⟩ := compsN_own e2 (j + 1) (by simpa using h1) h2
        refine ⟨n, ?_, h4⟩
        unfold ownC
        rw [show j + (i + 1) = j + 1 + i by omega]
        exact List.mem_append_right _ h3
    · cases h
theorem compsN_at {fl : Fl} {e s : Nat} {rows : List (List Leaf)} {rs : List ResultVar} {vs : List (Bool × List RL)} (h : compsN P st rs = some vs) {k : Nat} (j : Nat) (hat : isAt (toRes vs) k (.own fl e s rows)) : ∃ n, (64 * j + k, n) ∈ ownC P st j rs ∧ getB st n = some (.arr fl e s rows) := by
  unfold toRes at hat
  split at hat
  · rename_i g ls
    obtain ⟨n, h1, h2⟩ := compsN_own h j (i := 0) rfl hat
    exact ⟨n, by simpa using h1, h2⟩
  · obtain ⟨i, k', g, ls, h1, h2, rfl⟩ := hat
    obtain ⟨n, h3, h4⟩ := compsN_own h j h1 h2
    refine ⟨n, ?_, h4⟩
    rw [show 64 * j + (64 * i + k') = 64 * (j + i) + k' by omega]
    exact h3

theorem rlN_sound (h : Inv none0 w0 N st a w η γ) {L : List (Nat × Nat)} (hL : apart L = true) {l : PL} {x : RL} {u : Value} {i : Nat} (hl : RepP (getB st) η γ w l u) (hx : rlN st l = some x) (hm : ∀ n, l = .all n → (i, n) ∈ L) : RepRL w0.heap.size w (γoutN γ L) (hout η L) i x u := by
  have hk : Kp w w γ (γoutN γ L) := ⟨Nat.le_refl _, fun b _ hg => ⟨by simp only [γoutN, hg], rfl⟩⟩
  unfold rlN at hx
  split at hx
  · cases hx; obtain ⟨rfl, h1⟩ := hl; exact .sc h1
  · cases hx; cases hl; exact .emp (Nat.zero_le _)
  · cases hx; exact RepL.kp hk hl
  · rename_i n
    split at hx
    · rename_i fl e s rows hbx
      cases hx
      have hmem := hm n rfl
      obtain ⟨f1, f2⟩ := find_own hL hmem
      obtain ⟨rfl, _⟩ := hl
      obtain ⟨xs, h1, h2, h3, h4, h5⟩ := h.blks n _ hbx
      have hgn : ∀ b, γ b = some n → w0.heap.size ≤ b ∧ γoutN γ L b = some i := fun b hg => by
        have hge : ¬ b < w0.heap.size := fun hlt => by
          have := (h.low b hlt rfl).1
          rw [hg] at this
          cases this
        exact ⟨Nat.le_of_not_lt hge, by simp only [γoutN, hg, f1, Option.map_some]⟩
      refine ⟨by simp only [hout, f2], xs, h1, ?_, h3, fun b hb => hgn b (h4 b hb), h5.kp fun b hg => hid_of (hgn b hg).1 (hgn b hg).2⟩
      by_cases hf : fl.nst = true
      · exact h2.kp (Kp.vwO hf hgn)
      · have hf : fl.nst = false := by simpa using hf
        rw [vw_of hf] at h2
        rw [vwR_of hf]
        exact h2.kp hk
    · cases hx
  · cases hx
theorem retN_core (h : Inv γ0 w0 N st a w η γ) {fn : Func} {r : Res} (hr : resN P st fn.results.toList = some r) {L : List (Nat × Nat)} (hLd : ownC P st 0 fn.results.toList = L) (hL : apart L = true) {B : Nat} {γr : Nat → Option Nat} (hk : ∀ b, γ b = none → γr b = none) (hg : ∀ i n, (i, n) ∈ L → ∀ b, γ b = some n → B ≤ b ∧ γr b = some i) :
    ∃ u, (results fn a.tmps).run P w = .ok u w ∧ RepR B w γr (hout η L) r u := by
  obtain ⟨vs, hvs, rfl⟩ := Option.map_eq_some_iff.1 hr
  have hkp : Kp w w γ γr := ⟨Nat.le_refl _, fun b _ hb => ⟨hk b hb, rfl⟩⟩
  have leaf : ∀ {l : PL} {x : RL} {u : Value} {i : Nat} (_ : RepP (getB st) η γ w l u) (_ : rlN st l = some x) (_ : ∀ n, l = .all n → (i, n) ∈ L), RepRL B w γr (hout η L) i x u := by
    intro l x u i hl hx hm
    unfold rlN at hx
    split at hx
    · cases hx; obtain ⟨rfl, h1⟩ := hl; exact .sc h1
    · cases hx; cases hl; exact .emp (Nat.zero_le _)
    · cases hx; exact RepL.kp hkp hl
    · rename_i n
      split at hx
      · rename_i fl e s rows hbx
        cases hx
        have hmem := hm n rfl
        obtain ⟨f1, f2⟩ := find_own hL hmem
        obtain ⟨rfl, _⟩ := hl
        obtain ⟨xs, h1, h2, h3, h4, h5⟩ := h.blks n _ hbx
        have hgn := hg _ _ hmem
        refine ⟨by simp only [hout, f2], xs, h1, ?_, h3, fun b hb => hgn b (h4 b hb), h5.kp fun b hg => hid_of (hgn b hg).1 (hgn b hg).2⟩
        by_cases hf : fl.nst = true
        · exact h2.kp (Kp.vwO hf hgn)
        · have hf : fl.nst = false := by simpa using hf
          rw [vw_of hf] at h2
          rw [vwR_of hf]
          exact h2.kp hkp
      · cases hx
    · cases hx
  have key : ∀ (rs : List ResultVar) (j : Nat) (vs : List (Bool × List RL)), compsN P st rs = some vs → (∀ p, p ∈ ownC P st j rs → p ∈ L) →
      ∃ us : List Value, us.length = rs.length ∧ us.length = vs.length ∧ (∀ (k : Nat) (x : ResultVar), rs[k]? = some x → ∃ u, us[k]? = some u ∧ (rsem a x).run P w = Result.ok u w) ∧
      ∀ (k : Nat) (g : Bool) (ls : List RL), vs[k]? = some (g, ls) → ∃ u, us[k]? = some u ∧ RepRC B w γr (hout η L) (64 * (j + k)) g ls u := by
    intro rs
    induction rs with
    | nil =>
      intro j vs hv _
      simp only [compsN, Option.some.injEq] at hv
      subst hv
      exact ⟨[], rfl, rfl, fun k x hk => by simp at hk, fun k g ls hk => by simp at hk⟩
    | cons x r ih =>
      intro j vs hv hsub
      unfold compsN at hv
      split at hv
      · rename_i p q h1 h2
        cases hv
        obtain ⟨g0, ls0⟩ := p
        obtain ⟨v, hv, hco⟩ := Option.bind_eq_some_iff.1 h1
        obtain ⟨u, hu1, hu2⟩ := resV_sound h hv
        obtain ⟨us, l1, l2, l3, l4⟩ := ih (j + 1) q h2 (fun p hp => hsub p (by unfold ownC; exact List.mem_append_right _ hp))
        have hcomp : RepRC B w γr (hout η L) (64 * j) g0 ls0 u := by
          cases v with
          | tup _ => cases hco
          | comp g ls =>
            obtain ⟨xs, hx, he⟩ := Option.map_eq_some_iff.1 hco
            injection he with e1 e2
            subst e1; subst e2
            obtain ⟨hxl, hxg⟩ := rlsN_get hx
            have hmem : ∀ (k n : Nat), ls[k]? = some (.all n) → (64 * j + k, n) ∈ L := fun k n hk => hsub _ (ownC_mem (k := 0) (j := j) rfl hv (ownL_mem hk))
            cases g with
            | true =>
              obtain ⟨cs, rfl, c1, c2⟩ := hu2
              refine ⟨cs, rfl, by rw [c1, hxl], fun k l hk => ?_⟩
              obtain ⟨pl, p1, p2⟩ := hxg k l hk
              obtain ⟨c, c3, c4⟩ := c2 k pl p1
              exact ⟨c, c3, leaf c4 p2 (fun n e => hmem k n (e ▸ p1))⟩
            | false =>
              obtain ⟨pl, rfl, c4⟩ := hu2
              cases xs with
              | nil => simp at hxl
              | cons l xr =>
                cases xr with
                | cons _ _ => simp at hxl
                | nil =>
                  obtain ⟨pl', p1, p2⟩ := hxg 0 l rfl
                  simp only [List.getElem?_cons_zero, Option.some.injEq] at p1
                  subst p1
                  exact ⟨l, rfl, leaf c4 p2 (fun n e => by have := hmem 0 n (by rw [e]; rfl); simpa using this)⟩
        refine ⟨u :: us, by simp [l1], by simp [l2], fun k y hk => ?_, fun k g ls hk => ?_⟩
        · cases k with
          | zero =>
            simp only [List.getElem?_cons_zero, Option.some.injEq] at hk
            subst hk
            exact ⟨u, rfl, hu1⟩
          | succ k =>
            obtain ⟨u', h5, h6⟩ := l3 k y (by simpa using hk)
            exact ⟨u', by simpa using h5, h6⟩
        · cases k with
          | zero =>
            simp only [List.getElem?_cons_zero, Option.some.injEq] at hk
            cases hk
            exact ⟨u, rfl, hcomp⟩
          | succ k =>
            obtain ⟨u', h5, h6⟩ := l4 k g ls (by simpa using hk)
            rw [show j + 1 + k = j + (k + 1) by omega] at h6
            exact ⟨u', by simpa using h5, h6⟩
      · cases hv
  obtain ⟨us, l1, l2, l3, l4⟩ := key fn.results.toList 0 vs hvs (fun p hp => hLd ▸ hp)
  have hrun := results_run us l1 l3
  have hres : (results fn a.tmps).run P w = .ok (if h : us.length = 1 then us[0]'(by rw [h]; exact Nat.zero_lt_one) else .tuple us.toArray) w := by
    have hrun' : (fn.results.mapM (rsem a)).run P w = Result.ok us.toArray w := by
      have e : fn.results = fn.results.toList.toArray := by simp
      rw [e, List.mapM_toArray]
      simp only [Sem.run_map]
      rw [hrun]
      rfl
    have hfx : (fun x => match x with
      | .tmp t => (pure (a.tmps.getD t undef) : Sem Value)
      | .cell t ty => do loadVar ty (← asAddr (a.tmps.getD t undef))) = rsem a := by
      funext x
      cases x <;> rfl
    have hfun : results fn a.tmps = (fn.results.mapM (rsem a) >>= fun vs => pure (if h : vs.size = 1 then vs[0]'(by rw [h]; exact Nat.zero_lt_one) else .tuple vs)) := by
      unfold results
      rw [← hfx]
      rfl
    rw [hfun]
    simp only [Sem.run_bind, hrun', Result.andThen_ok, Sem.run_pure, List.size_toArray, List.getElem_toArray]
  refine ⟨_, hres, ?_⟩
  by_cases h1 : us.length = 1
  · rw [dif_pos h1]
    refine (?_ : RepR B w γr (hout η L) (toRes vs) _)
    cases vs with
    | nil => rw [h1] at l2; simp at l2
    | cons p r =>
      cases r with
      | cons _ _ => rw [h1] at l2; simp at l2
      | nil =>
        obtain ⟨g, ls⟩ := p
        obtain ⟨u, h2, h3⟩ := l4 0 g ls rfl
        have : us[0]'(by omega) = u := by
          rw [List.getElem?_eq_getElem (by omega)] at h2
          cases h2; rfl
        rw [this]
        show RepRC _ _ _ _ 0 g ls u
        simpa using h3
  · rw [dif_neg h1]
    refine (?_ : RepR B w γr (hout η L) (toRes vs) _)
    have htup : toRes vs = .tup vs := by
      unfold toRes
      split
      · exact absurd l2 (by simpa using h1)
      · rfl
    rw [htup]
    exact ⟨us, rfl, l2, fun j g ls hj => by
      obtain ⟨u, h2, h3⟩ := l4 j g ls hj
      exact ⟨u, h2, by rw [Nat.zero_add] at h3; exact h3⟩⟩
theorem At.retN {fn : Func} {r : Res} (hr : resN P st fn.results.toList = some r) (hL : apart (ownC P st 0 fn.results.toList) = true) : At none0 w0 N st .ret (bodyPost P fn (PostN w0 r)) := by
  intro a w ⟨η, γ, h⟩
  refine ⟨h.defers, ?_⟩
  obtain ⟨vs, hvs, rfl⟩ := Option.map_eq_some_iff.1 hr
  generalize hLdef : ownC P st 0 fn.results.toList = L at hL
  have key : ∀ (rs : List ResultVar) (j : Nat) (vs : List (Bool × List RL)), compsN P st rs = some vs → (∀ p, p ∈ ownC P st j rs → p ∈ L) →
      ∃ us : List Value, us.length = rs.length ∧ us.length = vs.length ∧ (∀ (k : Nat) (x : ResultVar), rs[k]? = some x → ∃ u, us[k]? = some u ∧ (rsem a x).run P w = Result.ok u w) ∧
      ∀ (k : Nat) (g : Bool) (ls : List RL), vs[k]? = some (g, ls) → ∃ u, us[k]? = some u ∧ RepRC w0.heap.size w (γoutN γ L) (hout η L) (64 * (j + k)) g ls u := by
    intro rs
    induction rs with
    | nil =>
      intro j vs hv _
      simp only [compsN, Option.some.injEq] at hv
      subst hv
      exact ⟨[], rfl, rfl, fun k x hk => by simp at hk, fun k g ls hk => by simp at hk⟩
    | cons x r ih =>
      intro j vs hv hsub
      unfold compsN at hv
      split at hv
      · rename_i p q h1 h2
        cases hv
        obtain ⟨g0, ls0⟩ := p
        obtain ⟨v, hv, hco⟩ := Option.bind_eq_some_iff.1 h1
        obtain ⟨u, hu1, hu2⟩ := resV_sound h hv
        obtain ⟨us, l1, l2, l3, l4⟩ := ih (j + 1) q h2 (fun p hp => hsub p (by unfold ownC; exact List.mem_append_right _ hp))
        have hcomp : RepRC w0.heap.size w (γoutN γ L) (hout η L) (64 * j) g0 ls0 u := by
          cases v with
          | tup _ => cases hco
          | comp g ls =>
            obtain ⟨xs, hx, he⟩ := Option.map_eq_some_iff.1 hco
            injection he with e1 e2
            subst e1; subst e2
            obtain ⟨hxl, hxg⟩ := rlsN_get hx
            have hmem : ∀ (k n : Nat), ls[k]? = some (.all n) → (64 * j + k, n) ∈ L := fun k n hk => hsub _ (ownC_mem (k := 0) (j := j) rfl hv (ownL_mem hk))
            cases g with
            | true =>
              obtain ⟨cs, rfl, c1, c2⟩ := hu2
              refine ⟨cs, rfl, by rw [c1, hxl], fun k l hk => ?_⟩
              obtain ⟨pl, p1, p2⟩ := hxg k l hk
              obtain ⟨c, c3, c4⟩ := c2 k pl p1
              exact ⟨c, c3, rlN_sound h hL c4 p2 (fun n e => hmem k n (e ▸ p1))⟩
            | false =>
              obtain ⟨pl, rfl, c4⟩ := hu2
              cases xs with
              | nil => simp at hxl
              | cons l xr =>
                cases xr with
                | cons _ _ => simp at hxl
                | nil =>
                  obtain ⟨pl', p1, p2⟩ := hxg 0 l rfl
                  simp only [List.getElem?_cons_zero, Option.some.injEq] at p1
                  subst p1
                  exact ⟨l, rfl, rlN_sound h hL c4 p2 (fun n e => by have := hmem 0 n (by rw [e]; rfl); simpa using this)⟩
        refine ⟨u :: us, by simp [l1], by simp [l2], fun k y hk => ?_, fun k g ls hk => ?_⟩
        · cases k with
          | zero =>
            simp only [List.getElem?_cons_zero, Option.some.injEq] at hk
            subst hk
            exact ⟨u, rfl, hu1⟩
          | succ k =>
            obtain ⟨u', h5, h6⟩ := l3 k y (by simpa using hk)
            exact ⟨u', by simpa using h5, h6⟩
        · cases k with
          | zero =>
            simp only [List.getElem?_cons_zero, Option.some.injEq] at hk
            cases hk
            exact ⟨u, rfl, hcomp⟩
          | succ k =>
            obtain ⟨u', h5, h6⟩ := l4 k g ls (by simpa using hk)
            rw [show j + 1 + k = j + (k + 1) by omega] at h6
            exact ⟨u', by simpa using h5, h6⟩
      · cases hv
  obtain ⟨us, l1, l2, l3, l4⟩ := key fn.results.toList 0 vs hvs (fun p hp => hLdef ▸ hp)
  have hrun := results_run us l1 l3
  have hpost : ∀ (u : Value), RepR w0.heap.size w (γoutN γ L) (hout η L) (toRes vs) u → PostN w0 (toRes vs) (.returned u) w := by
    intro u hu
    refine ⟨u, _, _, rfl, ⟨h.os, h.tape, h.output, h.size, fun k hk => (h.low k hk rfl).2⟩, fun b k hk => ?_, hu⟩
    simp only [γoutN] at hk
    cases hg : γ b with
    | none => simp [hg] at hk
    | some n =>
      simp only [hg] at hk
      obtain ⟨p, hp, rfl⟩ := Option.map_eq_some_iff.1 hk
      have h1 := List.find?_some hp
      have h2 := List.mem_of_find?_eq_some hp
      obtain ⟨i, m⟩ := p
      simp only [beq_iff_eq] at h1
      subst h1
      obtain ⟨g1, g2, _⟩ := h.live b m hg
      refine ⟨Nat.le_of_not_lt fun hlt => (by have := (h.low b hlt rfl).1; rw [hg] at this; cases this), g1, g2.imp (fun g2 => ?_) (fun g2 fl e s rows hat => ?_)⟩
      · simp only [hout, (find_own hL h2).2]
        exact g2
      · obtain ⟨m', h3, h4⟩ := compsN_at hvs 0 hat
        have h5 : m' = m := (apart_spec hL (by rw [← hLdef]; simpa using h3) h2).2 rfl
        subst h5
        rw [h4] at g2
        exact g2
  have hres : (results fn a.tmps).run P w = .ok (if h : us.length = 1 then us[0]'(by rw [h]; exact Nat.zero_lt_one) else .tuple us.toArray) w := by
    have hrun' : (fn.results.mapM (rsem a)).run P w = Result.ok us.toArray w := by
      have e : fn.results = fn.results.toList.toArray := by simp
      rw [e, List.mapM_toArray]
      simp only [Sem.run_map]
      rw [hrun]
      rfl
    have hfx : (fun x => match x with
      | .tmp t => (pure (a.tmps.getD t undef) : Sem Value)
      | .cell t ty => do loadVar ty (← asAddr (a.tmps.getD t undef))) = rsem a := by
      funext x
      cases x <;> rfl
    have hfun : results fn a.tmps = (fn.results.mapM (rsem a) >>= fun vs => pure (if h : vs.size = 1 then vs[0]'(by rw [h]; exact Nat.zero_lt_one) else .tuple vs)) := by
      unfold results
      rw [← hfx]
      rfl
    rw [hfun]
    simp only [Sem.run_bind, hrun', Result.andThen_ok, Sem.run_pure, List.size_toArray, List.getElem_toArray]
  refine ⟨_, hres, ?_⟩
  by_cases h1 : us.length = 1
  · rw [dif_pos h1]
    refine hpost _ ?_
    cases vs with
    | nil => rw [h1] at l2; simp at l2
    | cons p r =>
      cases r with
      | cons _ _ => rw [h1] at l2; simp at l2
      | nil =>
        obtain ⟨g, ls⟩ := p
        obtain ⟨u, h2, h3⟩ := l4 0 g ls rfl
        have : us[0]'(by omega) = u := by
          rw [List.getElem?_eq_getElem (by omega)] at h2
          cases h2; rfl
        rw [this]
        show RepRC _ _ _ _ 0 g ls u
        simpa using h3
  · rw [dif_neg h1]
    refine hpost _ ?_
    have htup : toRes vs = .tup vs := by
      unfold toRes
      split
      · exact absurd l2 (by simpa using h1)
      · rfl
    rw [htup]
    exact ⟨us, rfl, l2, fun j g ls hj => by
      obtain ⟨u, h2, h3⟩ := l4 j g ls hj
      exact ⟨u, h2, by rw [Nat.zero_add] at h3; exact h3⟩⟩
theorem SoundN.of {f : FuncId} {fn : Func} {c : Code} {m : List Arg → Option Res} (hf : P.funcs[f]? = some fn) (hb : fn.body = some c) (hN : fn.ntmps = N)
    (h : ∀ args r w, m args = some r → args.length ≤ N ∧ W P none0 w N (initS 0 args) c (bodyPost P fn (PostN w r))) : SoundN P f m :=
  fun args r vs w hgl hm hargs => enter hf hb hN (h args r w hm).1 hargs hgl (h args r w hm).2
theorem SoundN.mdl {f : FuncId} {fn : Func} {c : Code} {α : Type} {ok : α → Prop} {enc : α → List Arg} {g : α → Res} (hf : P.funcs[f]? = some fn) (hb : fn.body = some c) (hN : fn.ntmps = N)
    (h : ∀ x w, ok x → (enc x).length ≤ N ∧ W P none0 w N (initS 0 (enc x)) c (bodyPost P fn (PostN w (g x)))) : SoundN P f (Go.Proofs.YtfgkfcfplodaoaaGreatDoor.mdl ok enc g) := by
  refine SoundN.of hf hb hN fun args r w hm => ?_
  unfold Go.Proofs.YtfgkfcfplodaoaaGreatDoor.mdl at hm
  split at hm
  · rename_i he
    cases hm
    obtain ⟨h1, h2⟩ := he.choose_spec
    have := h _ w h1
    rw [h2] at this
    exact this
  · cases hm
theorem clrL_noB (hn : ∀ n, getB st n = none) : ∀ (os : List (Nat × Blk)) n, getB (clrL os st) n = none
  | [], n => hn n
  | (m, b) :: r, n => by
    unfold clrL clr
    have ih := clrL_noB hn r
    split
    · simp only [getB, ih]
      split <;> rfl
    · exact ih n
def noB : St → Bool
  | [] => true
  | .slot _ _ :: r => noB r
  | _ :: _ => false
theorem noB_of : ∀ {st : St} (_ : noB st = true) (n : Nat), getB st n = none
  | [], _, _ => rfl
  | .slot _ _ :: r, h, n => noB_of (st := r) h n
  | .blk _ _ :: _, h, _ => by cases h
  | .kill _ :: _, h, _ => by cases h
end
end Go.Proofs.YtfgkfcfplodaoaaGreatDoor

end
section
/-!
  A row of one's own becomes data.
-/
namespace Go.Proofs.YtfgkfcfplodaoaaGreatDoor
set_option maxRecDepth 100000
set_option linter.unusedVariables false
set_option linter.unusedSimpArgs false
open Go Go.RowKit

section
variable {P : Program} {γ0 : Nat → Option Nat} {w0 : World} {N : Nat} {st : St} {a : Act} {w : World} {Q : Exit → Act → World → Prop} {c : Code}
theorem R.frz (h : R γ0 w0 N st a w) {t n : Nat} {fl : Fl} {e s : Nat} {rows : List (List Leaf)} (ht : getS st t = one (.all n)) (hb : getB st n = some (.arr fl e s rows)) : R γ0 w0 N (.slot t (one (.sl rows)) :: .kill n :: st) a w := by
  obtain ⟨η, γ, hI⟩ := h
  obtain ⟨γ', h1, h2⟩ := hI.frz [.all n]
  have hu := hI.slots t
  rw [ht] at hu
  have hk : ∀ b, γ b = none → γ' b = none := fun b hb => by
    cases hg : γ' b with
    | none => rfl
    | some m => have := (h2 b m hg).1; rw [hb] at this; cases this
  have hrep : RepL w γ' (.sl rows) (a.tmps.getD t undef) := by
    obtain ⟨l, e1, h3⟩ := hu
    cases e1
    refine leafO_sound hI hk (fun b m hbm he => ?_) h3 (by simp only [leafO, hb])
    have hm : m = n := by
      rcases he with e | ⟨o, k, e⟩
      · cases e; rfl
      · cases e
    subst hm
    cases hg : γ' b with
    | none => rfl
    | some k =>
      obtain ⟨h4, h5⟩ := h2 b k hg
      rw [hbm] at h4
      cases h4
      exact absurd rfl ((h5 _ List.mem_cons_self).1 m rfl)
  refine ⟨η, γ', { h1 with slots := fun k => ?_ }⟩
  show RepV (getB (.kill n :: st)) η γ' w (if t = k then one (.sl rows) else getS (.kill n :: st) k) (a.tmps.getD k undef)
  by_cases e : t = k
  · subst e
    rw [if_pos rfl]
    exact ⟨_, rfl, hrep⟩
  · rw [if_neg e]
    exact h1.slots k
theorem W.frz (t n : Nat) {fl : Fl} {e s : Nat} {rows : List (List Leaf)} (ht : getS st t = one (.all n)) (hb : getB st n = some (.arr fl e s rows)) (h : W P γ0 w0 N (.slot t (one (.sl rows)) :: .kill n :: st) c Q) : W P γ0 w0 N st c Q :=
  fun a w hR => h a w (hR.frz ht hb)
theorem At.frz (t n : Nat) {x : Exit} {fl : Fl} {e s : Nat} {rows : List (List Leaf)} (ht : getS st t = one (.all n)) (hb : getB st n = some (.arr fl e s rows)) (h : At γ0 w0 N (.slot t (one (.sl rows)) :: .kill n :: st) x Q) : At γ0 w0 N st x Q :=
  fun a w hR => h a w (hR.frz ht hb)
end
/-- less is kept -/
theorem W.subA {γ0 : Nat → Option Nat} {w0 : World} {N : Nat} {st : St} {Q : Exit → Act → World → Prop} {c : Code} (st' : St) (hs : Sub st' st := by exact subP) (h : W Tryz.prog γ0 w0 N st' c Q) : W Tryz.prog γ0 w0 N st c Q := W.sub hs h
theorem W.frzA {γ0 : Nat → Option Nat} {w0 : World} {N : Nat} {st : St} {Q : Exit → Act → World → Prop} {c : Code} (t n : Nat) {fl : Fl} {e s : Nat} {rows : List (List Leaf)} (ht : getS st t = one (.all n) := by exact evsP) (hb : getB st n = some (.arr fl e s rows) := by exact evsP)
    (h : W Tryz.prog γ0 w0 N (.slot t (one (.sl rows)) :: .kill n :: st) c Q) : W Tryz.prog γ0 w0 N st c Q := W.frz t n ht hb h
theorem At.frzA {γ0 : Nat → Option Nat} {w0 : World} {N : Nat} {st : St} {Q : Exit → Act → World → Prop} {x : Exit} (t n : Nat) {fl : Fl} {e s : Nat} {rows : List (List Leaf)} (ht : getS st t = one (.all n) := by exact evsP) (hb : getB st n = some (.arr fl e s rows) := by exact evsP)
    (h : At γ0 w0 N (.slot t (one (.sl rows)) :: .kill n :: st) x Q) : At γ0 w0 N st x Q := At.frz t n ht hb h

end Go.Proofs.YtfgkfcfplodaoaaGreatDoor

end
