/-
  Put together: PEvTurn PEvNest.
-/
import Derived.Test.YtfgkfcfplodaoaaGreatDoorG12
set_option linter.unusedSimpArgs false
set_option linter.unusedVariables false
set_option maxRecDepth 100000
section
namespace Go.Proofs.YtfgkfcfplodaoaaGreatDoor
open Go Go.RowKit
section
variable {P : Program} {γ0 : Nat → Option Nat} {w0 : World} {N : Nat} {st : St} {a : Act} {w : World} {η : Nat → Value} {γ : Nat → Option Nat} {Q : Exit → Act → World → Prop}
theorem Inv.turnW (h : Inv γ0 w0 N st a w η γ) (n : Nat) {fl : Fl} {e s : Nat} {rows rows' : List (List Leaf)} (hb0 : getB st n = some (.arr fl e s rows)) (hlen : rows'.length = rows.length) (g : Nat) (hg : γ g = some n) (w' : World)
    (hos : w'.os = w.os) (htape : w'.tape = w.tape) (hout : w'.output = w.output) (hsize : w.heap.size ≤ w'.heap.size) (hold : ∀ k, k < w.heap.size → k ≠ g → w'.heap[k]? = w.heap[k]?)
    (hB : RepB (getB (.blk n (.arr fl e s rows') :: st)) η γ w' n (.arr fl e s rows')) :
    Inv γ0 w0 N (.blk n (.arr fl e s rows') :: st) a w' η γ := by
  have hlive : ∀ k m, γ k = some m → k < w.heap.size := fun k m hk => (h.live k m hk).1
  have hk : Kp w w' γ γ := ⟨hsize, fun k hk hgk => ⟨hgk, hold k hk (fun e => by rw [e, hg] at hgk; cases hgk)⟩⟩
  have hget : ∀ m, m ≠ n → getB (.blk n (.arr fl e s rows') :: st) m = getB st m := fun m hm => if_neg (fun e => hm e.symm)
  have hn : Nm (getB st) (getB (.blk n (.arr fl e s rows') :: st)) η η (fun _ => True) := by
    intro m b' _ hb
    refine ⟨rfl, ?_⟩
    by_cases hm : m = n
    · subst hm
      rw [hb0] at hb
      cases hb
      exact ⟨fl, rows', if_pos rfl, hlen⟩
    · cases b' with
      | arr fl e s rows => exact ⟨fl, rows, by rw [hget m hm]; exact hb, rfl⟩
      | box ls => exact ⟨ls, by rw [hget m hm]; exact hb⟩
  have hgm : ∀ m b0, m ≠ n → γ b0 = some m → γ b0 = some m ∧ w'.heap[b0]? = w.heap[b0]? := fun m b0 hm hb0 => ⟨hb0, hold b0 (hlive b0 m hb0) (fun e => by rw [e, hg] at hb0; cases hb0; exact hm rfl)⟩
  refine { h with slots := fun t => (h.slots t).kp hn hk, blks := fun m b' hb => ?_, live := fun b0 m hb => ?_, low := fun b0 hb hg0 => ?_, size := Nat.le_trans h.size hsize, os := hos.trans h.os, tape := htape.trans h.tape, output := hout.trans h.output, pin := fun h9 b2 ls hb hbx => ?_, pinA := h.pinA.to fun h9 fl1 e1 s1 rows1 hbx => ⟨rfl, ?_⟩ }
  · by_cases hm : m = n
    · subst hm
      rw [getB_hit] at hb
      cases hb
      exact hB
    · rw [hget m hm] at hb
      have h1 := h.blks m b' hb
      cases b' with
      | box ls => exact RepB.kp_box hn hk h1 rfl (hgm m · hm)
      | arr fl e s rows => exact RepB.kp_arr hk h1 rfl (hgm m · hm)
  · obtain ⟨h1, h2, h3⟩ := h.live b0 m hb
    refine ⟨Nat.lt_of_lt_of_le h1 hsize, ?_, ?_⟩
    · by_cases hm : m = n
      · subst hm
        rw [hb0] at h2
        rw [getB_hit]
        exact h2
      · rw [hget m hm]; exact h2
    · by_cases hm : m = n
      · subst hm; simp [getB]
      · rw [hget m hm]; exact h3
  · obtain ⟨h1, h2⟩ := h.low b0 hb hg0
    exact ⟨h1, by rw [hold b0 (Nat.lt_of_lt_of_le hb h.size) (fun e => by rw [e, hg] at h1; cases h1)]; exact h2⟩
  · by_cases hm : (999 : Nat) = n
    · subst hm
      rw [getB_hit] at hbx
      cases hbx
    · rw [hget 999 hm] at hbx
      exact h.pin h9 b2 ls hb hbx
  · by_cases hm : (999 : Nat) = n
    · subst hm
      rw [getB_hit] at hbx
      cases hbx
      exact ⟨_, _, hb0, hlen⟩
    · rw [hget 999 hm] at hbx
      exact ⟨_, _, hbx, rfl⟩
end
end Go.Proofs.YtfgkfcfplodaoaaGreatDoor

end
section
namespace Go.Proofs.YtfgkfcfplodaoaaGreatDoor
open Go Go.RowKit
section
variable {P : Program} {Γ : Models} {γ0 : Nat → Option Nat} {w0 : World} {N : Nat} {st st' : St} {a : Act} {w : World} {η : Nat → Value} {γ γ' : Nat → Option Nat} {Q : Exit → Act → World → Prop}
def PostN (w : World) (r : Res) (e : Ending) (w' : World) : Prop :=
  ∃ u γ hdr, e = .returned u ∧ Below w.heap.size w w' ∧ (∀ b k, γ b = some k → w.heap.size ≤ b ∧ b < w'.heap.size ∧ AtR r hdr b k) ∧ RepR w.heap.size w' γ hdr r u
def SoundN (P : Program) (f : FuncId) (m : List Arg → Option Res) : Prop :=
  ∀ args r vs w, GlobOk none0 w → m args = some r → RepAs w args vs → Calls P f vs.toArray w (PostN w r)
def rlN (st : St) : PL → Option RL
  | .sc v => some (.ro (.sc v))
  | .nil => some (.ro (.sl []))
  | .sl rows => some (.ro (.sl rows))
  | .all n => match getB st n with
    | some (.arr fl e s rows) => some (.own fl e s rows)
    | _ => none
  | _ => none
def rlsN (st : St) : List PL → Option (List RL)
  | [] => some []
  | l :: r => match rlN st l, rlsN st r with
    | some x, some y => some (x :: y)
    | _, _ => none
def compN (st : St) : PV → Option (Bool × List RL)
  | .comp g ls => (rlsN st ls).map fun x => (g, x)
  | _ => none
def compsN (P : Program) (st : St) : List ResultVar → Option (List (Bool × List RL))
  | [] => some []
  | x :: r => match (resV P st x).bind (compN st), compsN P st r with
    | some a, some b => some (a :: b)
    | _, _ => none
def resN (P : Program) (st : St) (rs : List ResultVar) : Option Res := (compsN P st rs).map toRes
def γoutN (γ : Nat → Option Nat) (L : List (Nat × Nat)) : Nat → Option Nat := fun b => match γ b with
  | some n => (L.find? (fun p => p.2 == n)).map (·.1)
  | none => none
theorem rlsN_get : ∀ {ls : List PL} {xs : List RL} (_ : rlsN st ls = some xs), xs.length = ls.length ∧ ∀ (k : Nat) (x : RL), xs[k]? = some x → ∃ l, ls[k]? = some l ∧ rlN st l = some x
  | [], xs, h => by
    simp only [rlsN, Option.some.injEq] at h
    subst h
    exact ⟨rfl, fun k x hk => by simp at hk⟩
  | l :: r, xs, h => by
    unfold rlsN at h
    split at h
    · rename_i x y h1 h2
      cases h
      obtain ⟨h3, h4⟩ := rlsN_get h2
      refine ⟨by simp [h3], fun k z hk => ?_⟩
      cases k with
      | zero =>
        simp only [List.getElem?_cons_zero, Option.some.injEq] at hk
        subst hk
        exact ⟨l, rfl, h1⟩
      | succ k =>
        obtain ⟨l', h5, h6⟩ := h4 k z (by simpa using hk)
        exact ⟨l', by simpa using h5, h6⟩
    · cases h
theorem rlN_own {l : PL} {fl : Fl} {e s : Nat} {rows : List (List Leaf)} (h : rlN st l = some (.own fl e s rows)) : ∃ n, l = .all n ∧ getB st n = some (.arr fl e s rows) := by
  unfold rlN at h
  split at h
  · cases h
  · cases h
  · cases h
  · rename_i n
    split at h
    · rename_i hbx
      cases h
      exact ⟨n, rfl, hbx⟩
    · cases h
  · cases h
theorem compsN_own {fl : Fl} {e s : Nat} {rows : List (List Leaf)} : ∀ {rs : List ResultVar} {vs : List (Bool × List RL)} (_ : compsN P st rs = some vs) (j : Nat) {i k : Nat} {g : Bool} {ls : List RL} (_ : vs[i]? = some (g, ls)) (_ : ls[k]? = some (.own fl e s rows)), ∃ n, (64 * (j + i) + k, n) ∈ ownC P st j rs ∧ getB st n = some (.arr fl e s rows)
  | [], vs, h, j, i, k, g, ls, h1, h2 => by
    simp only [compsN, Option.some.injEq] at h
    subst h
    simp at h1
  | x :: r, vs, h, j, i, k, g, ls, h1, h2 => by
    unfold compsN at h
    split at h
    · rename_i p q e1 e2
      cases h
      cases i with
      | zero =>
        simp only [List.getElem?_cons_zero, Option.some.injEq] at h1
        subst h1
        obtain ⟨v, hv, hco⟩ := Option.bind_eq_some_iff.1 e1
        cases v with
        | tup _ => cases hco
        | comp g' ls' =>
          obtain ⟨xs, hx, he⟩ := Option.map_eq_some_iff.1 hco
          injection he with e3 e4
          subst e3; subst e4
          obtain ⟨_, hxg⟩ := rlsN_get hx
          obtain ⟨l, h3, h4⟩ := hxg k _ h2
          obtain ⟨n, rfl, h5⟩ := rlN_own h4
          exact ⟨n, ownC_mem (k := 0) (j := j) rfl hv (ownL_mem h3), h5⟩
      | succ i =>
        obtain ⟨n, h3, h4⟩ := compsN_own e2 (j + 1) (by simpa using h1) h2
        refine ⟨n, ?_, h4⟩
        unfold ownC
        rw [show j + (i + 1) = j + 1 + i by omega]
        exact List.mem_append_right _ h3
    · cases h
theorem compsN_at {fl : Fl} {e s : Nat} {rows : List (List Leaf)} {rs : List ResultVar} {vs : List (Bool × List RL)} (h : compsN P st rs = some vs) {k : Nat} (j : Nat) (hat : isAt (toRes vs) k (.own fl e s rows)) : ∃ n, (64 * j + k, n) ∈ ownC P st j rs ∧ getB st n = some (.arr fl e s rows) := by
  unfold toRes at hat
  split at hat
  · rename_i g ls
    obtain ⟨n, h1, h2⟩ := compsN_own h j (i := 0) rfl hat
    exact ⟨n, by simpa using h1, h2⟩
  · obtain ⟨i, k', g, ls, h1, h2, rfl⟩ := hat
    obtain ⟨n, h3, h4⟩ := compsN_own h j h1 h2
    refine ⟨n, ?_, h4⟩
    rw [show 64 * j + (64 * i + k') = 64 * (j + i) + k' by omega]
    exact h3
theorem retN_core (h : Inv γ0 w0 N st a w η γ) {fn : Func} {r : Res} (hr : resN P st fn.results.toList = some r) {L : List (Nat × Nat)} (hLd : ownC P st 0 fn.results.toList = L) (hL : apart L = true) {B : Nat} {γr : Nat → Option Nat} (hk : ∀ b, γ b = none → γr b = none) (hg : ∀ i n, (i, n) ∈ L → ∀ b, γ b = some n → B ≤ b ∧ γr b = some i) :
    ∃ u, (results fn a.tmps).run P w = .ok u w ∧ RepR B w γr (hout η L) r u := by
  obtain ⟨vs, hvs, rfl⟩ := Option.map_eq_some_iff.1 hr
  have hkp : Kp w w γ γr := ⟨Nat.le_refl _, fun b _ hb => ⟨hk b hb, rfl⟩⟩
  have leaf : ∀ {l : PL} {x : RL} {u : Value} {i : Nat} (_ : RepP (getB st) η γ w l u) (_ : rlN st l = some x) (_ : ∀ n, l = .all n → (i, n) ∈ L), RepRL B w γr (hout η L) i x u := by
    intro l x u i hl hx hm
    unfold rlN at hx
    split at hx
    · cases hx; obtain ⟨rfl, h1⟩ := hl; exact .sc h1
    · cases hx; cases hl; exact .emp (Nat.zero_le _)
    · cases hx; exact RepL.kp hkp hl
    · rename_i n
      split at hx
      · rename_i fl e s rows hbx
        cases hx
        have hmem := hm n rfl
        obtain ⟨f1, f2⟩ := find_own hL hmem
        obtain ⟨rfl, _⟩ := hl
        obtain ⟨xs, h1, h2, h3, h4, h5⟩ := h.blks n _ hbx
        have hgn := hg _ _ hmem
        refine ⟨by simp only [hout, f2], xs, h1, ?_, h3, fun b hb => hgn b (h4 b hb), h5.kp fun b hg => hid_of (hgn b hg).1 (hgn b hg).2⟩
        by_cases hf : fl.nst = true
        · exact h2.kp (Kp.vwO hf hgn)
        · have hf : fl.nst = false := by simpa using hf
          rw [vw_of hf] at h2
          rw [vwR_of hf]
          exact h2.kp hkp
      · cases hx
    · cases hx
  have key : ∀ (rs : List ResultVar) (j : Nat) (vs : List (Bool × List RL)), compsN P st rs = some vs → (∀ p, p ∈ ownC P st j rs → p ∈ L) →
      ∃ us : List Value, us.length = rs.length ∧ us.length = vs.length ∧ (∀ (k : Nat) (x : ResultVar), rs[k]? = some x → ∃ u, us[k]? = some u ∧ (rsem a x).run P w = Result.ok u w) ∧
      ∀ (k : Nat) (g : Bool) (ls : List RL), vs[k]? = some (g, ls) → ∃ u, us[k]? = some u ∧ RepRC B w γr (hout η L) (64 * (j + k)) g ls u := by
    intro rs
    induction rs with
    | nil =>
      intro j vs hv _
      simp only [compsN, Option.some.injEq] at hv
      subst hv
      exact ⟨[], rfl, rfl, fun k x hk => by simp at hk, fun k g ls hk => by simp at hk⟩
    | cons x r ih =>
      intro j vs hv hsub
      unfold compsN at hv
      split at hv
      · rename_i p q h1 h2
        cases hv
        obtain ⟨g0, ls0⟩ := p
        obtain ⟨v, hv, hco⟩ := Option.bind_eq_some_iff.1 h1
        obtain ⟨u, hu1, hu2⟩ := resV_sound h hv
        obtain ⟨us, l1, l2, l3, l4⟩ := ih (j + 1) q h2 (fun p hp => hsub p (by unfold ownC; exact List.mem_append_right _ hp))
        have hcomp : RepRC B w γr (hout η L) (64 * j) g0 ls0 u := by
          cases v with
          | tup _ => cases hco
          | comp g ls =>
            obtain ⟨xs, hx, he⟩ := Option.map_eq_some_iff.1 hco
            injection he with e1 e2
            subst e1; subst e2
            obtain ⟨hxl, hxg⟩ := rlsN_get hx
            have hmem : ∀ (k n : Nat), ls[k]? = some (.all n) → (64 * j + k, n) ∈ L := fun k n hk => hsub _ (ownC_mem (k := 0) (j := j) rfl hv (ownL_mem hk))
            cases g with
            | true =>
              obtain ⟨cs, rfl, c1, c2⟩ := hu2
              refine ⟨cs, rfl, by rw [c1, hxl], fun k l hk => ?_⟩
              obtain ⟨pl, p1, p2⟩ := hxg k l hk
              obtain ⟨c, c3, c4⟩ := c2 k pl p1
              exact ⟨c, c3, leaf c4 p2 (fun n e => hmem k n (e ▸ p1))⟩
            | false =>
              obtain ⟨pl, rfl, c4⟩ := hu2
              cases xs with
              | nil => simp at hxl
              | cons l xr =>
                cases xr with
                | cons _ _ => simp at hxl
                | nil =>
                  obtain ⟨pl', p1, p2⟩ := hxg 0 l rfl
                  simp only [List.getElem?_cons_zero, Option.some.injEq] at p1
                  subst p1
                  exact ⟨l, rfl, leaf c4 p2 (fun n e => by have := hmem 0 n (by rw [e]; rfl); simpa using this)⟩
        refine ⟨u :: us, by simp [l1], by simp [l2], fun k y hk => ?_, fun k g ls hk => ?_⟩
        · cases k with
          | zero =>
            simp only [List.getElem?_cons_zero, Option.some.injEq] at hk
            subst hk
            exact ⟨u, rfl, hu1⟩
          | succ k =>
            obtain ⟨u', h5, h6⟩ := l3 k y (by simpa using hk)
            exact ⟨u', by simpa using h5, h6⟩
        · cases k with
          | zero =>
            simp only [List.getElem?_cons_zero, Option.some.injEq] at hk
            cases hk
            exact ⟨u, rfl, hcomp⟩
          | succ k =>
            obtain ⟨u', h5, h6⟩ := l4 k g ls (by simpa using hk)
            rw [show j + 1 + k = j + (k + 1) by omega] at h6
            exact ⟨u', by simpa using h5, h6⟩
      · cases hv
  obtain ⟨us, l1, l2, l3, l4⟩ := key fn.results.toList 0 vs hvs (fun p hp => hLd ▸ hp)
  have hrun := results_run us l1 l3
  have hres : (results fn a.tmps).run P w = .ok (if h : us.length = 1 then us[0]'(by rw [h]; exact Nat.zero_lt_one) else .tuple us.toArray) w := by
    have hrun' : (fn.results.mapM (rsem a)).run P w = Result.ok us.toArray w := by
      have e : fn.results = fn.results.toList.toArray := by simp
      rw [e, List.mapM_toArray]
      simp only [Sem.run_map]
      rw [hrun]
      rfl
    have hfx : (fun x => match x with
      | .tmp t => (pure (a.tmps.getD t undef) : Sem Value)
      | .cell t ty => do loadVar ty (← asAddr (a.tmps.getD t undef))) = rsem a := by
      funext x
      cases x <;> rfl
    have hfun : results fn a.tmps = (fn.results.mapM (rsem a) >>= fun vs => pure (if h : vs.size = 1 then vs[0]'(by rw [h]; exact Nat.zero_lt_one) else .tuple vs)) := by
      unfold results
      rw [← hfx]
      rfl
    rw [hfun]
    simp only [Sem.run_bind, hrun', Result.andThen_ok, Sem.run_pure, List.size_toArray, List.getElem_toArray]
  refine ⟨_, hres, ?_⟩
  by_cases h1 : us.length = 1
  · rw [dif_pos h1]
    refine (?_ : RepR B w γr (hout η L) (toRes vs) _)
    cases vs with
    | nil => rw [h1] at l2; simp at l2
    | cons p r =>
      cases r with
      | cons _ _ => rw [h1] at l2; simp at l2
      | nil =>
        obtain ⟨g, ls⟩ := p
        obtain ⟨u, h2, h3⟩ := l4 0 g ls rfl
        have : us[0]'(by omega) = u := by
          rw [List.getElem?_eq_getElem (by omega)] at h2
          cases h2; rfl
        rw [this]
        show RepRC _ _ _ _ 0 g ls u
        simpa using h3
  · rw [dif_neg h1]
    refine (?_ : RepR B w γr (hout η L) (toRes vs) _)
    have htup : toRes vs = .tup vs := by
      unfold toRes
      split
      · exact absurd l2 (by simpa using h1)
      · rfl
    rw [htup]
    exact ⟨us, rfl, l2, fun j g ls hj => by
      obtain ⟨u, h2, h3⟩ := l4 j g ls hj
      exact ⟨u, h2, by rw [Nat.zero_add] at h3; exact h3⟩⟩
theorem SoundN.of {f : FuncId} {fn : Func} {c : Code} {m : List Arg → Option Res} (hf : P.funcs[f]? = some fn) (hb : fn.body = some c) (hN : fn.ntmps = N)
    (h : ∀ args r w, m args = some r → args.length ≤ N ∧ W P none0 w N (initS 0 args) c (bodyPost P fn (PostN w r))) : SoundN P f m :=
  fun args r vs w hgl hm hargs => enter hf hb hN (h args r w hm).1 hargs hgl (h args r w hm).2
theorem SoundN.mdl {f : FuncId} {fn : Func} {c : Code} {α : Type} {ok : α → Prop} {enc : α → List Arg} {g : α → Res} (hf : P.funcs[f]? = some fn) (hb : fn.body = some c) (hN : fn.ntmps = N)
    (h : ∀ x w, ok x → (enc x).length ≤ N ∧ W P none0 w N (initS 0 (enc x)) c (bodyPost P fn (PostN w (g x)))) : SoundN P f (Go.Proofs.YtfgkfcfplodaoaaGreatDoor.mdl ok enc g) := by
  refine SoundN.of hf hb hN fun args r w hm => ?_
  unfold Go.Proofs.YtfgkfcfplodaoaaGreatDoor.mdl at hm
  split at hm
  · rename_i he
    cases hm
    obtain ⟨h1, h2⟩ := he.choose_spec
    have := h _ w h1
    rw [h2] at this
    exact this
  · cases hm
end
end Go.Proofs.YtfgkfcfplodaoaaGreatDoor

end
