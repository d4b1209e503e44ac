/-
  Put together: PEvFr PEvDrV.
-/
import Derived.Test.YtfgkfcfplodaoaaGreatDoorG12
import Derived.Test.YtfgkfcfplodaoaaGreatDoorHPEvCu
import Derived.Test.YtfgkfcfplodaoaaGreatDoorG9
section
/-!
  Functions that move a cursor while their caller owns more than the cursor: the caller's other blocks are foreign, results do not speak of them.
-/
namespace Go.Proofs.YtfgkfcfplodaoaaGreatDoor
set_option maxRecDepth 100000
set_option linter.unusedVariables false
set_option linter.unusedSimpArgs false
open Go Go.RowKit
set_option linter.unusedVariables false

open Classical in
/-- the cursor's block b and foreign blocks -/
noncomputable def ownF (F : Nat → Prop) (b : Nat) : Nat → Option Nat := fun k => if k = b then some 999 else if F k then some 998 else none
theorem ownF_same (F : Nat → Prop) (b : Nat) : ownF F b b = some 999 := if_pos rfl
theorem ownF_other {F : Nat → Prop} {b k : Nat} (h : k ≠ b) (hf : ¬ F k) : ownF F b k = none := (if_neg h).trans (if_neg hf)
theorem ownF_fr {F : Nat → Prop} {b k : Nat} (h : k ≠ b) (hf : F k) : ownF F b k = some 998 := (if_neg h).trans (if_pos hf)
theorem ownF_some {F : Nat → Prop} {b k n : Nat} (h : ownF F b k = some n) : (k = b ∧ n = 999) ∨ (k ≠ b ∧ F k ∧ n = 998) := by
  unfold ownF at h
  split at h
  · rename_i e
    cases h
    exact .inl ⟨e, rfl⟩
  · rename_i e
    split at h
    · rename_i hf
      cases h
      exact .inr ⟨e, hf, rfl⟩
    · cases h
/-- what a function leaves whose results do not speak of the block c nor of the foreign blocks -/
def PostG (F : Nat → Prop) (c : Nat) (w : World) (r : Res) (e : Ending) (w' : World) : Prop :=
  ∃ u γ hdr, e = .returned u ∧ Below w.heap.size w w' ∧ (∀ b, b = c ∨ F b → γ b ≠ none) ∧ (∀ b k, b ≠ c → ¬ F b → γ b = some k → w.heap.size ≤ b ∧ b < w'.heap.size ∧ AtR r hdr b k) ∧ RepR w.heap.size w' γ hdr r u
def SoundCF (P : Program) (f : FuncId) {α β : Type} (ok : α → Prop) (us : α → List PL) (enc : α → List Arg) (rel : α → β → Prop) (us' : α → β → List PL) (res : α → β → Res) : Prop :=
  (∀ x y, ok x → rel x y → Kept (us x) (us' x y)) ∧
  ∀ (F : Nat → Prop) x b t vs w, ok x → ¬ F b → (∀ k, F k → k < w.heap.size) → GlobOk (ownF F b) w → (∀ l ∈ us x, ExOk w (ownF F b) l) → w.heap[b]? = some (.cells ((us x).map exV).toArray t (0, 0)) → RepDs w (ownF F b) (enc x) vs →
    Calls P f (Value.pointer (some ⟨b, 0, none⟩) :: vs).toArray w fun e w' => ∃ y t', rel x y ∧ PostG F b (putO w b (.cells ((us' x y).map exV).toArray t' (0, 0))) (res x y) e w'
/-- the entry that tells of foreign blocks -/
abbrev frE (F : Nat → Prop) (w : World) : Entry := .blk 998 (.arr (.fr F (fun k => w.heap[k]?)) 0 1 [])
section
variable {P : Program} {Γ : Models} {γ0 : Nat → Option Nat} {w0 : World} {N : Nat} {st st1 : St} {a : Act} {w : World} {η : Nat → Value} {γ : Nat → Option Nat} {Q : Exit → Act → World → Prop}
theorem SoundCF.of {f : FuncId} {fn : Func} {c : Code} {α β : Type} {ok : α → Prop} {us : α → List PL} {enc : α → List Arg} {rel : α → β → Prop} {us' : α → β → List PL} {res : α → β → Res}
    (hf : P.funcs[f]? = some fn) (hb : fn.body = some c) (hN : fn.ntmps = N)
    (hkept : ∀ x y, ok x → rel x y → Kept (us x) (us' x y))
    (h : ∀ F x b w, ok x → b < w.heap.size → ¬ F b → (enc x).length + 1 ≤ N ∧
      W P (ownF F b) w N (frE F w :: initC (us x) (enc x)) c (bodyPost P fn fun e w' => ∃ y t', rel x y ∧ PostG F b (putO w b (.cells ((us' x y).map exV).toArray t' (0, 0))) (res x y) e w')) : SoundCF P f ok us enc rel us' res := by
  refine ⟨hkept, ?_⟩
  intro F x b t vs w hok hFb hFl hgl h1 hh hargs
  obtain ⟨hl, hW⟩ := h F x b w hok (heap_lt hh) hFb
  refine calls_of_wp hf hb (hW _ _ ⟨fun n => if n = 998 then .slice none 0 0 else .pointer (some ⟨b, 0, none⟩), ownF F b, ?_⟩)
  have hsz : vs.length = (enc x).length := hargs.1
  refine { slots := fun k => ?_, blks := fun n b' hb' => ?_, live := fun k n hk => ?_, low := fun k _ hk => ⟨hk, rfl⟩, os := rfl, tape := rfl, output := rfl, size := Nat.le_refl _, defers := rfl, width := ?_, glob := hgl, pin := fun _ k ls hk _ => hk, pinA := PinA.no fun _ fl e s rows hb => (by simp [getB] at hb) }
  · show RepV _ _ _ _ (if 0 = k then one (.ptr 999 0) else getS (initS 1 (enc x)) k) _
    by_cases e : 0 = k
    · subst e
      rw [if_pos rfl]
      refine RepV.one_iff.2 ⟨us x, b, by simp [getB], by simp, ?_⟩
      show ((Value.pointer (some ⟨b, 0, none⟩) :: vs).toArray ++ Array.replicate (fn.ntmps - (Value.pointer (some ⟨b, 0, none⟩) :: vs).toArray.size) undef).getD 0 undef = _
      rw [Array.getD_eq_getD_getElem?, Array.getElem?_append_left (by simp)]
      simp
    · rw [if_neg e]
      refine initS_data (enc x) 1 (fun t => ((Value.pointer (some ⟨b, 0, none⟩) :: vs).toArray ++ Array.replicate (fn.ntmps - (Value.pointer (some ⟨b, 0, none⟩) :: vs).toArray.size) undef).getD t undef) (fun j y hj => ?_) k
      obtain ⟨v, k1, k2⟩ := hargs.2 j y hj
      have hlt : j < vs.length := (List.getElem?_eq_some_iff.1 k1).1
      have : ((Value.pointer (some ⟨b, 0, none⟩) :: vs).toArray ++ Array.replicate (fn.ntmps - (Value.pointer (some ⟨b, 0, none⟩) :: vs).toArray.size) undef).getD (1 + j) undef = v := by
        rw [Array.getD_eq_getD_getElem?, Array.getElem?_append_left (by simp; omega)]
        simp [Nat.add_comm 1 j, k1]
      rw [this]
      exact k2
  · by_cases e8 : n = 998
    · subst e8
      have : b' = .arr (.fr F (fun k => w.heap[k]?)) 0 1 [] := by
        simp [getB] at hb'
        exact hb'.symm
      subst this
      refine ⟨[], ⟨rfl, .inl ⟨by simp, rfl⟩⟩, ⟨rfl, fun j x hj => by simp at hj⟩, fun row hr => by simp at hr, fun k hk => by simp [Value.ownBlock] at hk, fun e => (by cases e), fun e => (by cases e), fun S h e => ?_⟩
      injection e with e1 e2
      subst e1; subst e2
      refine ⟨by simp [Value.ownBlock], fun k hk => ⟨ownF_fr (fun e => hFb (e ▸ hk)) hk, rfl⟩⟩
    · have hb2 : getB (initC (us x) (enc x)) n = some b' := by
        simp only [frE, getB] at hb'
        rw [if_neg (fun e => e8 e.symm)] at hb'
        exact hb'
      simp only [getB] at hb2
      split at hb2
      · rename_i e
        cases hb2
        subst e
        exact ⟨b, ((us x).map exV).toArray, t, by simp, ownF_same F b, hh, by simpa using RepPs.ofExs h1⟩
      · rw [initS_blk] at hb2
        cases hb2
  · rcases ownF_some hk with ⟨rfl, rfl⟩ | ⟨h2, h3, rfl⟩
    · exact ⟨heap_lt hh, .inl (by simp [hdrBlock]), by simp [getB]⟩
    · exact ⟨hFl k h3, .inr (by simp [getB, nstB, Fl.nst]), by simp [getB]⟩
  · simp
    omega
theorem At.retCF {F : Nat → Prop} {b : Nat} {fn : Func} {α β : Type} {rel : α → β → Prop} {us' : α → β → List PL} {res : α → β → Res} {x : α} (y : β) (hrel : rel x y) (hN : N ≤ 999) (hB : b < w0.heap.size) (hFb : ¬ F b)
    (hb : getB st 999 = some (.box (us' x y))) (hfr : getB st 998 = some (.arr (.fr F (fun k => w0.heap[k]?)) 0 1 [])) (hx : (us' x y).all exB = true) (hr : resN P st fn.results.toList = some (res x y)) (hL : apart (ownC P st 0 fn.results.toList) = true) (hL9 : ((ownC P st 0 fn.results.toList).all fun p => p.2 != 999 && p.2 != 998) = true) :
    At (ownF F b) w0 N st .ret (bodyPost P fn fun e w' => ∃ y t', rel x y ∧ PostG F b (putO w0 b (.cells ((us' x y).map exV).toArray t' (0, 0))) (res x y) e w') := by
  classical
  intro a w ⟨η, γ, h⟩
  obtain ⟨b', cs, t, g1, g2, g3, g4⟩ := h.blks 999 _ hb
  obtain ⟨xs, -, -, -, -, hfl⟩ := h.blks 998 _ hfr
  obtain ⟨-, hfo⟩ := hfl.2.2 _ _ rfl
  have hbb : b' = b := by
    rcases ownF_some (h.pin hN b' _ g2 hb) with ⟨e, _⟩ | ⟨_, _, e⟩
    · exact e
    · cases e
  subst hbb
  obtain ⟨g5, g6⟩ := g4.exs hx
  have hcs : cs = ((us' x y).map exV).toArray := by rw [← g5]
  subst hcs
  generalize hLd : ownC P st 0 fn.results.toList = L at hL hL9
  have hn9 : ∀ i n, (i, n) ∈ L → n ≠ 999 ∧ n ≠ 998 := fun i n hm => by
    have := List.all_eq_true.1 hL9 _ hm
    simpa using this
  have hge : ∀ k n, γ k = some n → n ≠ 999 ∧ n ≠ 998 → w0.heap.size ≤ k ∧ ¬ (k = b' ∨ F k) := fun k n hk hn => by
    have hkb : k ≠ b' := fun e => by rw [e, g2] at hk; injection hk with hk; exact hn.1 hk.symm
    have hkf : ¬ F k := fun e => by rw [(hfo k e).1] at hk; injection hk with hk; exact hn.2 hk.symm
    refine ⟨Nat.le_of_not_lt fun hlt => ?_, fun e => e.elim hkb hkf⟩
    have := (h.low k hlt (ownF_other hkb hkf)).1
    rw [hk] at this
    cases this
  obtain ⟨u, h1, h2⟩ := retN_core h hr hLd hL (B := w0.heap.size) (γr := fun k => if k = b' ∨ F k then some 999999 else γoutN γ L k) (fun k hk => by
      have hkb : ¬ (k = b' ∨ F k) := fun e => by
        rcases e with e | e
        · rw [e, g2] at hk; cases hk
        · rw [(hfo k e).1] at hk; cases hk
      simp only [if_neg hkb, γoutN, hk]) (fun i n hm k hk => by
      obtain ⟨h3, h4⟩ := hge k n hk (hn9 i n hm)
      exact ⟨h3, by simp only [if_neg h4, γoutN, hk, (find_own hL hm).1, Option.map_some]⟩)
  refine ⟨h.defers, u, h1, y, t, hrel, u, fun k => if k = b' ∨ F k then some 999999 else γoutN γ L k, hout η L, rfl, ⟨h.os, h.tape, h.output, by rw [putO_size]; exact h.size, fun k hk => ?_⟩, fun k hk => by simp only [if_pos hk]; simp, fun k i hkb hkf hk => ?_, by rw [putO_size]; exact h2⟩
  · rw [putO_size] at hk
    by_cases e : k = b'
    · subst e
      rw [g3, putO_same _ hk]
    · by_cases ef : F k
      · rw [(hfo k ef).2, putO_other _ e]
      · rw [(h.low k hk (ownF_other e ef)).2, putO_other _ e]
  · have hkk : ¬ (k = b' ∨ F k) := fun e => e.elim hkb hkf
    simp only [if_neg hkk, γoutN] at hk
    cases hg : γ k with
    | none => simp [hg] at hk
    | some n =>
      simp only [hg] at hk
      obtain ⟨p, hp, rfl⟩ := Option.map_eq_some_iff.1 hk
      have h3 := List.find?_some hp
      have h4 := List.mem_of_find?_eq_some hp
      obtain ⟨i, m⟩ := p
      simp only [beq_iff_eq] at h3
      subst h3
      obtain ⟨q1, q2, _⟩ := h.live k m hg
      rw [putO_size]
      refine ⟨(hge k m hg (hn9 i m h4)).1, q1, q2.imp (fun q2 => ?_) (fun q2 fl e s rows hat => ?_)⟩
      · simp only [hout, (find_own hL h4).2]
        exact q2
      · obtain ⟨vs, hvs, hrv⟩ := Option.map_eq_some_iff.1 hr
        rw [← hrv] at hat
        obtain ⟨m', h5, h6⟩ := compsN_at hvs 0 hat
        have h7 : m' = m := (apart_spec hL (by rw [← hLd]; simpa using h5) h4).2 rfl
        subst h7
        rw [h6] at q2
        exact q2
theorem Inv.clrLe (h : Inv γ0 w0 N st a w η γ) : ∀ os : List (Nat × Blk), ∃ γ', Inv γ0 w0 N (Go.Proofs.YtfgkfcfplodaoaaGreatDoor.clrL os st) a w η γ' ∧ ∀ b n, γ' b = some n → γ b = some n
  | [] => ⟨γ, h, fun _ _ h => h⟩
  | (m, b0) :: r => by
    obtain ⟨γ1, h1, h2⟩ := Inv.clrLe h r
    unfold Go.Proofs.YtfgkfcfplodaoaaGreatDoor.clrL Go.Proofs.YtfgkfcfplodaoaaGreatDoor.clr
    split
    · refine ⟨_, h1.drop m, fun b n hb => h2 b n ?_⟩
      split at hb
      · cases hb
      · exact hb
    · exact ⟨γ1, h1, h2⟩
theorem impE_soundH (h : Inv γ0 w0 N st a w η γ) {d : Nat} (hN : d < N) {r : Res} {w' : World} {u : Value} {γr : Nat → Option Nat} {hdr : Nat → Value} (hk : Below w.heap.size w w')
    (hold : ∀ b, b < w.heap.size → γr b = none → γ b = none) (hnew : ∀ b k, w.heap.size ≤ b → γr b = some k → b < w'.heap.size ∧ AtR r hdr b k) (hr : RepR w.heap.size w' γr hdr r u) : R γ0 w0 N (impE st d r) (a.put (some d) u) w' := by
  obtain ⟨γ1, h1, hle⟩ := h.clrLe (ownsR d r)
  replace hold : ∀ b, b < w.heap.size → γr b = none → γ1 b = none := fun b hb hg => by
    cases e : γ1 b with
    | none => rfl
    | some n =>
      have := hle b n e
      rw [hold b hb hg] at this
      cases this
  obtain ⟨η2, γ2, h2, hη, hkr⟩ := h1.imp (ownsR d r) d (fun h9 i => by omega) w' γr hdr (fun n b hb => clrL_none hb) hk hold (fun b k hb hg => ⟨(hnew b k hb hg).1, (hnew b k hb hg).2.imp id fun hA b' hb' => by
    cases r with
    | comp g ls =>
      obtain ⟨k', fl, e, s, rows, h3, h4, rfl⟩ := owns_mem hb'
      exact hA fl e s rows (by
        have : k' = k := by omega
        subst this
        exact h3)
    | tup vs =>
      obtain ⟨j, g, ls, h8, hb'⟩ := ownsT_mem hb'
      obtain ⟨k', fl, e, s, rows, h3, h4, rfl⟩ := owns_mem hb'
      exact hA fl e s rows ⟨j, k', g, ls, h8, h3, by omega⟩⟩) (fun n b hb => by
    cases r with
    | comp g ls =>
      obtain ⟨k, fl, e, s, rows, h3, h4, h5⟩ := owns_mem hb
      have : ∃ u, RepRL w.heap.size w' γr hdr (0 + k) (.own fl e s rows) u := by
        cases g with
        | true =>
          obtain ⟨us, _, h6⟩ := hr
          obtain ⟨u, _, h7⟩ := h6.2 k _ h3
          exact ⟨u, h7⟩
        | false =>
          obtain ⟨l, rfl, h6⟩ := hr
          cases k with
          | zero => simp at h3; subst h3; exact ⟨_, h6⟩
          | succ k => simp at h3
      obtain ⟨u, h6⟩ := this
      exact ⟨0 + k, fl, e, s, rows, u, h4, h5, h6⟩
    | tup vs =>
      obtain ⟨j, g, ls, h8, hb⟩ := ownsT_mem hb
      obtain ⟨k, fl, e, s, rows, h3, h4, h5⟩ := owns_mem hb
      obtain ⟨us, _, _, h9⟩ := hr
      obtain ⟨u, _, h10⟩ := h9 j g ls h8
      rw [Nat.zero_add] at h4
      have : ∃ u, RepRL w.heap.size w' γr hdr (64 * j + k) (.own fl e s rows) u := by
        cases g with
        | true =>
          obtain ⟨us, _, h6⟩ := h10
          obtain ⟨u, _, h7⟩ := h6.2 k _ h3
          exact ⟨u, h7⟩
        | false =>
          obtain ⟨l, rfl, h6⟩ := h10
          cases k with
          | zero => simp at h3; subst h3; exact ⟨_, h6⟩
          | succ k => simp at h3
      obtain ⟨u, h6⟩ := this
      exact ⟨64 * j + k, fl, e, s, rows, u, h4, h5, h6⟩)
  refine ⟨η2, γ2, h2.put d _ _ hN ?_⟩
  have leaf : ∀ (i : Nat) (l : RL) (c : Value), RepRL w.heap.size w' γr hdr i l c → (∀ fl e s rows, l = .own fl e s rows → (d + 1000 * i, Blk.arr fl e s rows) ∈ ownsR d r) → RepP (getB (withB (ownsR d r) (clrL (ownsR d r) st))) η2 γ2 w' (pvRL d i l) c := by
    intro i l c hl hm
    cases l with
    | ro l => exact toPL_sound (hl.kp hkr)
    | own fl e s rows =>
      have hm := hm _ _ _ _ rfl
      refine ⟨by rw [hη i _ hm]; exact hl.1, ?_⟩
      obtain ⟨b, hb⟩ := Option.isSome_iff_exists.1 (getB_blks_some (st := clrL (ownsR d r) st) hm)
      rcases getB_blks _ hb with h5 | ⟨h5, _⟩
      · have : ∃ fl e s rows, b = .arr fl e s rows := by
          cases r with
          | comp g ls => obtain ⟨k, fl, e, s, rows, _, _, h8⟩ := owns_mem h5; exact ⟨fl, e, s, rows, h8⟩
          | tup vs =>
            obtain ⟨j, g, ls, _, h5⟩ := ownsT_mem h5
            obtain ⟨k, fl, e, s, rows, _, _, h8⟩ := owns_mem h5
            exact ⟨fl, e, s, rows, h8⟩
        obtain ⟨fl, e, s, rows, rfl⟩ := this
        exact ⟨fl, e, s, rows, hb⟩
      · exact absurd hm (h5 _)
  have comp : ∀ (i : Nat) (g : Bool) (ls : List RL) (c : Value), RepRC w.heap.size w' γr hdr i g ls c → (∀ (k : Nat) fl e s rows, ls[k]? = some (.own fl e s rows) → (d + 1000 * (i + k), Blk.arr fl e s rows) ∈ ownsR d r) → RepC (getB (withB (ownsR d r) (clrL (ownsR d r) st))) η2 γ2 w' g (pvs d i ls) c := by
    intro i g ls c hc hm
    cases g with
    | true =>
      obtain ⟨us, rfl, h3, h4⟩ := hc
      refine ⟨us, rfl, by rw [h3, pvs_len], fun k p hp => ?_⟩
      obtain ⟨l, h5, rfl⟩ := pvs_get hp
      obtain ⟨u, h6, h7⟩ := h4 k l h5
      exact ⟨u, h6, leaf (i + k) l u h7 (fun fl e s rows e' => hm k fl e s rows (e' ▸ h5))⟩
    | false =>
      obtain ⟨l, rfl, h3⟩ := hc
      exact ⟨pvRL d i l, rfl, leaf i l c h3 (fun fl e s rows e' => hm 0 fl e s rows (by rw [e']; rfl))⟩
  cases r with
  | comp g ls => exact comp 0 g ls u hr (fun k fl e s rows hk => owns_of hk)
  | tup vs =>
    obtain ⟨us, rfl, h3, h4⟩ := hr
    refine ⟨us, rfl, by rw [h3, pvT_len], fun j g ps hp => ?_⟩
    obtain ⟨ls, h5, rfl⟩ := pvT_get hp
    obtain ⟨u, h6, h7⟩ := h4 j g ls h5
    refine ⟨u, h6, ?_⟩
    rw [Nat.zero_add]
    exact comp (64 * j) g ls u h7 (fun k fl e s rows hk => ownsT_of h5 (by rw [Nat.zero_add]; exact owns_of hk))
/-! data as arguments that name no block -/
def plainL : PL → Bool
  | .sc _ => true
  | .nil => true
  | .sl _ => true
  | .xl _ _ => true
  | _ => false
def dataP (st : St) : PV → Option Arg
  | .comp g ls => if g = true ∨ ls.length = 1 then (if ls.all plainL = true then (leafsO st ls).map (.val g) else none) else none
  | _ => none
def datasP (st : St) : List Operand → Option (List Arg)
  | [] => some []
  | x :: r => match dataP st (ev st x), datasP st r with
    | some a, some b => some (a :: b)
    | _, _ => none
theorem dataP_sound (h : Inv γ0 w0 N st a w η γ) {γ' : Nat → Option Nat} (hk : ∀ k, γ k = none → γ' k = none) {x : PV} {u : Value} {r : Arg} (hx : RepV (getB st) η γ w x u) (hr : dataP st x = some r) : RepD w γ' r u := by
  have hg : ∀ (ls : List PL), ls.all plainL = true → ∀ k m, γ k = some m → (∃ l ∈ ls, l = .all m ∨ ∃ o q, l = .ref m o q) → γ' k = none := by
    intro ls hall k m hm ⟨l, hl, he⟩
    have h1 := List.all_eq_true.1 hall l hl
    rcases he with rfl | ⟨o, q, rfl⟩ <;> cases h1
  unfold dataP at hr
  split at hr
  · rename_i g ls
    split at hr
    · rename_i hc
      split at hr
      · rename_i hall
        obtain ⟨xs, h1, rfl⟩ := Option.map_eq_some_iff.1 hr
        cases g with
        | true =>
          obtain ⟨us, rfl, h2⟩ := hx
          exact ⟨us, rfl, leafsO_sound h hk (hg ls hall) h2 h1⟩
        | false =>
          obtain ⟨l, rfl, h2⟩ := hx
          unfold leafsO at h1
          split at h1
          · rename_i x y e1 e2
            cases h1
            simp only [leafsO, Option.some.injEq] at e2
            subst e2
            exact ⟨x, rfl, leafO_sound h hk (fun k m hm he => hg [l] hall k m hm ⟨l, List.mem_cons_self, he⟩) h2 e1⟩
          · cases h1
      · cases hr
    · cases hr
  · cases hr
theorem datasP_sound (h : Inv γ0 w0 N st a w η γ) {γ' : Nat → Option Nat} (hk : ∀ k, γ k = none → γ' k = none) : ∀ {xs : List Operand} {rs : List Arg} (_ : datasP st xs = some rs), RepDs w γ' rs (xs.map a.eval)
  | [], rs, hr => by
    simp only [datasP, Option.some.injEq] at hr
    subst hr
    exact ⟨rfl, fun j x hj => by simp at hj⟩
  | x :: r, rs, hr => by
    unfold datasP at hr
    split at hr
    · rename_i y z h1 h2
      cases hr
      obtain ⟨h3, h4⟩ := datasP_sound h hk h2
      refine ⟨by simpa using h3, fun j k hj => ?_⟩
      cases j with
      | zero =>
        simp only [List.getElem?_cons_zero, Option.some.injEq] at hj
        subst hj
        exact ⟨_, rfl, dataP_sound h hk (ev_sound h x) h1⟩
      | succ j =>
        obtain ⟨v, h5, h6⟩ := h4 j k (by simpa using hj)
        exact ⟨v, by simpa using h5, h6⟩
    · cases hr
theorem WL.opCF {ops : Array Oper} {r : List Oper} {d f n : Nat} {x0 : Operand} {xs : List Operand} {ts : Array TypeId} {ty : TypeId} {pos : String} {after : Array Edge}
    {α β : Type} {ok : α → Prop} {us : α → List PL} {enc : α → List Arg} {rel : α → β → Prop} {us' : α → β → List PL} {res : α → β → Res}
    (hf : Has P f) (hs : SoundCF P f ok us enc rel us' res) (x : α) (hok : ok x) (hN : d < N)
    (hp : ev st x0 = one (.ptr n 0)) (hb : getB st n = some (.box (us x))) (he : (us x).all exB = true) (ha : datasP st xs = some (enc x))
    (h : ∀ y, rel x y → WL P γ0 w0 N ops r (impE (.blk n (.box (us' x y)) :: st) d (res x y)) Q) :
    WL P γ0 w0 N ops (⟨some d, .call ⟨.value (.func f), (x0 :: xs).toArray, ts⟩, ty, pos, after, none⟩ :: r) st Q := fun a w hR => by
  refine wpList_plain rfl fun K hK => ?_
  obtain ⟨η, γ, hI⟩ := hR
  have h0 := ev_sound hI x0
  rw [hp] at h0
  obtain ⟨ls, b, g1, g2, g3⟩ := RepV.one_iff.1 h0
  obtain ⟨b', cs, t, g4, g5, g6, g7⟩ := hI.blks n _ hb
  rw [g2] at g4
  injection g4 with g4
  injection g4 with g4
  injection g4 with g4
  subst g4
  obtain ⟨g8, g9⟩ := g7.exs he
  have hcs : cs = ((us x).map exV).toArray := by rw [← g8]
  have hlt := heap_lt g6
  let F : Nat → Prop := fun k => k ≠ b ∧ γ k ≠ none
  have hnone : ∀ k, γ k = none → ownF F b k = none := fun k hk => ownF_other (fun e => by rw [e, g5] at hk; cases hk) (fun hF => hF.2 hk)
  have hglob : GlobOk (ownF F b) w := fun g vs hg => by
    obtain ⟨k1, k2, k3⟩ := hI.globw g vs hg
    refine ⟨hnone g ?_, k2, k3⟩
    obtain ⟨m1, m2, _⟩ := hI.glob g vs hg
    exact (hI.low g m2 m1).1
  have hkb : Kp w w γ (ownF F b) := ⟨Nat.le_refl _, fun k _ hk => ⟨hnone k hk, rfl⟩⟩
  have hcall := hs.2 F x b t (xs.map a.eval) w hok (fun hF => hF.1 rfl) (fun k hF => by
    obtain ⟨m, hm⟩ := Option.ne_none_iff_exists'.1 hF.2
    exact (hI.live k m hm).1) hglob (fun l hl => (g9 l hl).kp hkb) (by rw [← hcs]; exact g6) (datasP_sound hI hnone ha)
  have hrun := enter_of (P := P) hf (a := a) (w := w) (args := x0 :: xs) (ts := ts) (dst := some d) (ty := ty) (pos := pos) (after := after) (g := none)
  unfold Oper.wp
  rw [hrun]
  show Calls P f ((x0 :: xs).map a.eval).toArray w _
  rw [List.map_cons, g3]
  refine hcall.mono fun e w' ⟨y, t', hrel, hpost⟩ => ?_
  have hI2 := hI.turnO n _ (us' x y) hb b g5 (.cells ((us' x y).map exV).toArray t' (0, 0)) (fun hn hk => ⟨b, ((us' x y).map exV).toArray, t', g2, g5, putO_same _ hlt, by
    simpa using RepPs.ofExs (((hs.1 x y hok hrel).ok fun l hl => (g9 l hl).kp hk))⟩)
  obtain ⟨u, γr, hdr, rfl, hbel, hcn, hnew, hrr⟩ := hpost
  refine hK _ _ (h y hrel _ _ (impE_soundH hI2 hN hbel (fun b0 hb0 hr0 => ?_) (fun b0 k hb0 hk0 => ?_) hrr))
  · cases hg : γ b0 with
    | none => rfl
    | some n' =>
      by_cases e : b0 = b
      · exact absurd hr0 (hcn b0 (.inl e))
      · exact absurd hr0 (hcn b0 (.inr ⟨e, by rw [hg]; simp⟩))
  · have hb0' : b0 ≠ b := fun e => by
      rw [e] at hb0
      have := hlt
      rw [putO_size] at hb0
      omega
    have hF0 : ¬ F b0 := fun hF => by
      obtain ⟨m, hm⟩ := Option.ne_none_iff_exists'.1 hF.2
      have := (hI.live b0 m hm).1
      rw [putO_size] at hb0
      omega
    exact ⟨(hnew b0 k hb0' hF0 hk0).2.1, (hnew b0 k hb0' hF0 hk0).2.2⟩
end
abbrev SoundCuF (P : Program) (f : FuncId) {A B : Type} (ok : A → Prop) (enc : A → List Arg) (rel : A → B → Prop) (res : A → B → Res) : Prop :=
  SoundCF P f (α := Cu × A) (β := Cu × B) (fun x => CuOk x.1 ∧ ok x.2) (fun x => cuL x.1) (fun x => enc x.2) (fun x y => CuTo x.1 y.1 ∧ rel x.2 y.2) (fun _ y => cuL y.1) (fun x y => res x.2 y.2)
def PCuF (F : Nat → Prop) (w : World) (b : Nat) (k : Cu) {A B : Type} (rel : A → B → Prop) (res : A → B → Res) (a : A) : Ending → World → Prop := fun e w' => ∃ (y : Cu × B) (t' : TypeId), (CuTo k y.1 ∧ rel a y.2) ∧ PostG F b (putO w b (.cells ((cuL y.1).map exV).toArray t' (0, 0))) (res a y.2) e w'
theorem SoundCuF.of {P : Program} {N : Nat} {f : FuncId} {fn : Func} {c : Code} {A B : Type} {ok : A → Prop} {enc : A → List Arg} {rel : A → B → Prop} {res : A → B → Res}
    (hf : P.funcs[f]? = some fn) (hb : fn.body = some c) (hN : fn.ntmps = N)
    (h : ∀ (F : Nat → Prop) (k : Cu) (a : A) b w, CuOk k → ok a → b < w.heap.size → ¬ F b → (enc a).length + 1 ≤ N ∧
      W P (ownF F b) w N (frE F w :: initC (cuL k) (enc a)) c (bodyPost P fn (PCuF F w b k rel res a))) : SoundCuF P f ok enc rel res :=
  SoundCF.of hf hb hN (fun x y _ hr => cuL_kept hr.1) fun F x b w hok hB hFb => h F x.1 x.2 b w hok.1 hok.2 hB hFb
section
variable {γ0 : Nat → Option Nat} {w0 : World} {N : Nat} {st : St} {Q : Exit → Act → World → Prop}
theorem WL.opCuF {ops : Array Oper} {r : List Oper} {d f m : Nat} {x0 : Operand} {xs : List Operand} {ts : Array TypeId} {ty : TypeId} {pos : String} {after : Array Edge}
    {A B : Type} {ok : A → Prop} {enc : A → List Arg} {rel : A → B → Prop} {res : A → B → Res} {st1 : Cu → B → St}
    (hf : Has Tryz.prog f) (hs : SoundCuF Tryz.prog f ok enc rel res) (c : Cu) (hc : CuOk c) (a : A) (hok : ok a) (hN : d < N := by decide)
    (hp : ev st x0 = one (.ptr m 0) := by exact evcP) (hb : getB st m = some (.box (cuL c)) := by exact evcP) (ha : datasP st xs = some (enc a) := by simp only [datasP, dataP, plainL]; exact evcP)
    (hst : ∀ c' b, impE (.blk m (.box (cuL c')) :: st) d (res a b) = st1 c' b := by intro c' b; exact evcP)
    (h : ∀ c' b, CuTo c c' → rel a b → WL Tryz.prog γ0 w0 N ops r (st1 c' b) Q) :
    WL Tryz.prog γ0 w0 N ops (⟨some d, .call ⟨.value (.func f), (x0 :: xs).toArray, ts⟩, ty, pos, after, none⟩ :: r) st Q :=
  WL.opCF hf hs (c, a) ⟨hc, hok⟩ hN hp hb (cuL_ex c) ha fun y hy => by
    rw [hst y.1 y.2]
    exact h y.1 y.2 hy.1 hy.2
theorem At.retCuF {F : Nat → Prop} {b : Nat} {fn : Func} {A B : Type} {rel : A → B → Prop} {res : A → B → Res} {k : Cu} {a : A} {l : List ResultVar} {ls : List PL} {r' : Res} (hl : fn.results.toList = l) (hB : b < w0.heap.size) (hFb : ¬ F b) (k' : Cu) (y : B) (hto : CuTo k k') (hrel : rel a y) (hN : N ≤ 999 := by decide)
    (hb : getB st 999 = some (.box ls) := by exact evcP) (hfr : getB st 998 = some (.arr (.fr F (fun k => w0.heap[k]?)) 0 1 []) := by exact evcP) (hr : resN Tryz.prog st l = some r' := by simp only [resN, compsN, compN, rlsN, rlN, resV]; exact evsP) (hL : apart (ownC Tryz.prog st 0 l) = true := by simp only [ownC, resV]; exact evsP) (hL9 : ((ownC Tryz.prog st 0 l).all fun p => p.2 != 999 && p.2 != 998) = true := by simp only [ownC, resV]; exact evsP)
    (hls : ls = cuL k') (he : r' = res a y) :
    At (ownF F b) w0 N st .ret (bodyPost Tryz.prog fn (PCuF F w0 b k rel res a)) := by
  subst hl
  exact At.retCF (α := Cu × A) (β := Cu × B) (rel := fun x y => CuTo x.1 y.1 ∧ rel x.2 y.2) (us' := fun _ y => cuL y.1) (res := fun x y => res x.2 y.2) (x := (k, a)) (k', y) ⟨hto, hrel⟩ hN hB hFb (hb.trans (by rw [hls])) hfr (cuL_ex k') (he ▸ hr) hL hL9
end
end Go.Proofs.YtfgkfcfplodaoaaGreatDoor

end
section
/-!
  Drawn validators.
-/
namespace Go.Proofs.YtfgkfcfplodaoaaGreatDoor
set_option maxRecDepth 100000
set_option linter.unusedVariables false
set_option linter.unusedSimpArgs false
open Go Go.RowKit
set_option maxHeartbeats 4000000

theorem cVal_app (l : List TVal) (a b : Int) : rowsF cVal l ++ [[.sc (.int .i64 a), .sc (.int .i64 b)]] = rowsF cVal (l ++ [(a, b)]) := by rw [← rowsF_app]; rfl
theorem cInt_app (l : List Int) (a : Int) : rowsF cInt l ++ [[.sc (.int .i64 a)]] = rowsF cInt (l ++ [a]) := by rw [← rowsF_app]; rfl
def rSome (_ : Unit) (l : List TVal) : Prop := 1 ≤ l.length ∧ l.length ≤ 4
theorem l6Some_s : SoundCu Tryz.prog 119 (fun _ : Unit => True) (fun _ => []) rSome (fun _ l => rL 76 2 cVal l) := by
  refine SoundCu.of Tryz.func119 rfl Tryz.ntmps119 ?_
  rintro k0 - b w hc - hB
  refine ⟨by simp, ?_⟩
  simp only [initC]
  have hΓ : GSound Tryz.prog (look []) := env_nil
  have hBe : Has Tryz.prog 56 := has_of Tryz.func56 rfl rfl
  have hcu := lsNms_cu
  have hck := kill_cu
  simp only [initS, argPV, List.map_cons, List.map_nil, toPL, Nat.zero_add]
  refine zR ?_
  refine zO ?_
  refine zL ?_
  refine WL.opCu hBe l1Below_s k0 hc 4 (by decide) (h := ?_)
  rintro k1 n0 hk1 ⟨hn0, hn1, -⟩
  replace hn1 : n0 < 4 := hn1 (by decide)
  have hnil : rowsF cVal [] = [] := rfl
  refine zL ?_
  refine zE ?_
  refine zR ?_
  refine W.loopA (fun x : List TVal × Int × Int × Cu => CuTo k0 x.2.2.2 ∧ 0 ≤ x.2.2.1 ∧ x.1.length + x.2.2.1 = 1 + n0 ∧ 1 ≤ x.2.1 ∧ x.2.1 ≤ 1 + 3 * x.1.length) (fun x => [.slot 0 (one (.ptr 999 0)), .blk 999 (.box (cuL x.2.2.2)), .slot 3 (one (.all 6)), .blk 6 (.arr .ft 76 2 (rowsF cVal x.1)), .slot 4 (vI x.2.1), .slot 5 (vI x.2.2.1)]) (fun x => x.2.2.1.toNat) ([], 1, 1 + n0, k1) ⟨hk1, by dsimp only; omega, by simp, by simp, by simp⟩ (h := ?_)
  rintro ⟨l, id, n, k⟩ ⟨hk, hn, hl, hi0, hi1⟩
  dsimp only at hk hn hl hi0 hi1 ⊢
  by_cases hp : 0 < n
  · have hr0 : 1 + n0 ≤ 5 := by omega
    refine zR ?_
    refine zO ?_
    refine zL ?_
    refine WL.opCu hBe l1Below_s k hk.ok 5 (by decide) (h := ?_)
    rintro k2 r hk2 ⟨hr0, hr1, -⟩
    replace hr1 : r < 5 := hr1 (by decide)
    have e := cVal_app l id (1 + r)
    refine zL ?_
    refine zE ?_
    refine zR ?_
    refine zO ?_
    refine zL ?_
    refine WL.opCu hBe l1Below_s k2 hk2.ok 2 (by decide) (h := ?_)
    rintro k3 r2 hk3 ⟨hs0, hs1, -⟩
    replace hs1 : r2 < 2 := hs1 (by decide)
    refine zL ?_
    refine zE ?_
    refine zR ?_
    exact At.roundA (l ++ [(id, 1 + r)], id + 1 + r2, n - 1, k3) ⟨(hk.trans hk2).trans hk3, by dsimp only; omega, by simp; omega, by dsimp only; omega, by simp; omega⟩ (by dsimp only; omega)
  · refine zR ?_
    refine At.retCu (by rw [Tryz.results119]) hB (hls := ?_) (he := ?_) k l hk ⟨by omega, by omega⟩
    · rfl
    · rfl
end Go.Proofs.YtfgkfcfplodaoaaGreatDoor

end
