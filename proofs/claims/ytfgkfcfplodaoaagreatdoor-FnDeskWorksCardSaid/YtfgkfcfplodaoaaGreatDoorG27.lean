/-
  Put together: PEvFr PEvReadD.
-/
import Derived.Test.YtfgkfcfplodaoaaGreatDoorG26
set_option linter.unusedSimpArgs false
set_option linter.unusedVariables false
set_option maxRecDepth 100000
section
namespace Go.Proofs.YtfgkfcfplodaoaaGreatDoor
open Go Go.RowKit
open Classical in
noncomputable def ownF (F : Nat → Prop) (b : Nat) : Nat → Option Nat := fun k => if k = b then some 999 else if F k then some 998 else none
theorem ownF_same (F : Nat → Prop) (b : Nat) : ownF F b b = some 999 := if_pos rfl
theorem ownF_fr {F : Nat → Prop} {b k : Nat} (h : k ≠ b) (hf : F k) : ownF F b k = some 998 := (if_neg h).trans (if_pos hf)
theorem ownF_some {F : Nat → Prop} {b k n : Nat} (h : ownF F b k = some n) : (k = b ∧ n = 999) ∨ (k ≠ b ∧ F k ∧ n = 998) := by
  unfold ownF at h
  split at h
  · rename_i e
    cases h
    exact .inl ⟨e, rfl⟩
  · rename_i e
    split at h
    · rename_i hf
      cases h
      exact .inr ⟨e, hf, rfl⟩
    · cases h
def PostG (F : Nat → Prop) (c : Nat) (w : World) (r : Res) (e : Ending) (w' : World) : Prop :=
  ∃ u γ hdr, e = .returned u ∧ Below w.heap.size w w' ∧ (∀ b, b = c ∨ F b → γ b ≠ none) ∧ (∀ b k, b ≠ c → ¬ F b → γ b = some k → w.heap.size ≤ b ∧ b < w'.heap.size ∧ AtR r hdr b k) ∧ RepR w.heap.size w' γ hdr r u
def SoundCF (P : Program) (f : FuncId) {α β : Type} (ok : α → Prop) (us : α → List PL) (enc : α → List Arg) (rel : α → β → Prop) (us' : α → β → List PL) (res : α → β → Res) : Prop :=
  (∀ x y, ok x → rel x y → Kept (us x) (us' x y)) ∧
  ∀ (F : Nat → Prop) x b t vs w, ok x → ¬ F b → (∀ k, F k → k < w.heap.size) → GlobOk (ownF F b) w → (∀ l ∈ us x, ExOk w (ownF F b) l) → w.heap[b]? = some (.cells ((us x).map exV).toArray t (0, 0)) → RepDs w (ownF F b) (enc x) vs →
    Calls P f (Value.pointer (some ⟨b, 0, none⟩) :: vs).toArray w fun e w' => ∃ y t', rel x y ∧ PostG F b (putO w b (.cells ((us' x y).map exV).toArray t' (0, 0))) (res x y) e w'
abbrev frE (F : Nat → Prop) (w : World) : Entry := .blk 998 (.arr (.fr F (fun k => w.heap[k]?)) 0 1 [])
section
variable {P : Program} {Γ : Models} {γ0 : Nat → Option Nat} {w0 : World} {N : Nat} {st st1 : St} {a : Act} {w : World} {η : Nat → Value} {γ : Nat → Option Nat} {Q : Exit → Act → World → Prop}
theorem SoundCF.of {f : FuncId} {fn : Func} {c : Code} {α β : Type} {ok : α → Prop} {us : α → List PL} {enc : α → List Arg} {rel : α → β → Prop} {us' : α → β → List PL} {res : α → β → Res}
    (hf : P.funcs[f]? = some fn) (hb : fn.body = some c) (hN : fn.ntmps = N)
    (hkept : ∀ x y, ok x → rel x y → Kept (us x) (us' x y))
    (h : ∀ F x b w, ok x → b < w.heap.size → ¬ F b → (enc x).length + 1 ≤ N ∧
      W P (ownF F b) w N (frE F w :: initC (us x) (enc x)) c (bodyPost P fn fun e w' => ∃ y t', rel x y ∧ PostG F b (putO w b (.cells ((us' x y).map exV).toArray t' (0, 0))) (res x y) e w')) : SoundCF P f ok us enc rel us' res := by
  refine ⟨hkept, ?_⟩
  intro F x b t vs w hok hFb hFl hgl h1 hh hargs
  obtain ⟨hl, hW⟩ := h F x b w hok (heap_lt hh) hFb
  refine calls_of_wp hf hb (hW _ _ ⟨fun n => if n = 998 then .slice none 0 0 else .pointer (some ⟨b, 0, none⟩), ownF F b, ?_⟩)
  have hsz : vs.length = (enc x).length := hargs.1
  refine { slots := fun k => ?_, blks := fun n b' hb' => ?_, live := fun k n hk => ?_, low := fun k _ hk => ⟨hk, rfl⟩, os := rfl, tape := rfl, output := rfl, size := Nat.le_refl _, defers := rfl, width := ?_, glob := hgl, pin := fun _ k ls hk _ => hk, pinA := PinA.no fun _ fl e s rows hb => (by simp [getB] at hb) }
  · show RepV _ _ _ _ (if 0 = k then one (.ptr 999 0) else getS (initS 1 (enc x)) k) _
    by_cases e : 0 = k
    · subst e
      rw [if_pos rfl]
      refine RepV.one_iff.2 ⟨us x, b, by simp [getB], by simp, ?_⟩
      show ((Value.pointer (some ⟨b, 0, none⟩) :: vs).toArray ++ Array.replicate (fn.ntmps - (Value.pointer (some ⟨b, 0, none⟩) :: vs).toArray.size) undef).getD 0 undef = _
      rw [Array.getD_eq_getD_getElem?, Array.getElem?_append_left (by simp)]
      simp
    · rw [if_neg e]
      refine initS_data (enc x) 1 (fun t => ((Value.pointer (some ⟨b, 0, none⟩) :: vs).toArray ++ Array.replicate (fn.ntmps - (Value.pointer (some ⟨b, 0, none⟩) :: vs).toArray.size) undef).getD t undef) (fun j y hj => ?_) k
      obtain ⟨v, k1, k2⟩ := hargs.2 j y hj
      have hlt : j < vs.length := (List.getElem?_eq_some_iff.1 k1).1
      have : ((Value.pointer (some ⟨b, 0, none⟩) :: vs).toArray ++ Array.replicate (fn.ntmps - (Value.pointer (some ⟨b, 0, none⟩) :: vs).toArray.size) undef).getD (1 + j) undef = v := by
        rw [Array.getD_eq_getD_getElem?, Array.getElem?_append_left (by simp; omega)]
        simp [Nat.add_comm 1 j, k1]
      rw [this]
      exact k2
  · by_cases e8 : n = 998
    · subst e8
      have : b' = .arr (.fr F (fun k => w.heap[k]?)) 0 1 [] := by
        simp [getB] at hb'
        exact hb'.symm
      subst this
      refine ⟨[], ⟨rfl, .inl ⟨by simp, rfl⟩⟩, ⟨rfl, fun j x hj => by simp at hj⟩, fun row hr => by simp at hr, fun k hk => by simp [Value.ownBlock] at hk, fun e => (by cases e), fun e => (by cases e), fun S h e => ?_⟩
      injection e with e1 e2
      subst e1; subst e2
      refine ⟨by simp [Value.ownBlock], fun k hk => ⟨ownF_fr (fun e => hFb (e ▸ hk)) hk, rfl⟩⟩
    · have hb2 : getB (initC (us x) (enc x)) n = some b' := by
        simp only [frE, getB] at hb'
        rw [if_neg (fun e => e8 e.symm)] at hb'
        exact hb'
      simp only [getB] at hb2
      split at hb2
      · rename_i e
        cases hb2
        subst e
        exact ⟨b, ((us x).map exV).toArray, t, by simp, ownF_same F b, hh, by simpa using RepPs.ofExs h1⟩
      · rw [initS_blk] at hb2
        cases hb2
  · rcases ownF_some hk with ⟨rfl, rfl⟩ | ⟨h2, h3, rfl⟩
    · exact ⟨heap_lt hh, .inl (by simp [hdrBlock]), by simp [getB]⟩
    · exact ⟨hFl k h3, .inr (by simp [getB, nstB, Fl.nst]), by simp [getB]⟩
  · simp
    omega
theorem Inv.clrLe (h : Inv γ0 w0 N st a w η γ) : ∀ os : List (Nat × Blk), ∃ γ', Inv γ0 w0 N (Go.Proofs.YtfgkfcfplodaoaaGreatDoor.clrL os st) a w η γ' ∧ ∀ b n, γ' b = some n → γ b = some n
  | [] => ⟨γ, h, fun _ _ h => h⟩
  | (m, b0) :: r => by
    obtain ⟨γ1, h1, h2⟩ := Inv.clrLe h r
    unfold Go.Proofs.YtfgkfcfplodaoaaGreatDoor.clrL Go.Proofs.YtfgkfcfplodaoaaGreatDoor.clr
    split
    · refine ⟨_, h1.drop m, fun b n hb => h2 b n ?_⟩
      split at hb
      · cases hb
      · exact hb
    · exact ⟨γ1, h1, h2⟩
theorem impE_soundH (h : Inv γ0 w0 N st a w η γ) {d : Nat} (hN : d < N) {r : Res} {w' : World} {u : Value} {γr : Nat → Option Nat} {hdr : Nat → Value} (hk : Below w.heap.size w w')
    (hold : ∀ b, b < w.heap.size → γr b = none → γ b = none) (hnew : ∀ b k, w.heap.size ≤ b → γr b = some k → b < w'.heap.size ∧ AtR r hdr b k) (hr : RepR w.heap.size w' γr hdr r u) : R γ0 w0 N (impE st d r) (a.put (some d) u) w' := by
  obtain ⟨γ1, h1, hle⟩ := h.clrLe (ownsR d r)
  replace hold : ∀ b, b < w.heap.size → γr b = none → γ1 b = none := fun b hb hg => by
    cases e : γ1 b with
    | none => rfl
    | some n =>
      have := hle b n e
      rw [hold b hb hg] at this
      cases this
  obtain ⟨η2, γ2, h2, hη, hkr⟩ := h1.imp (ownsR d r) d (fun h9 i => by omega) w' γr hdr (fun n b hb => clrL_none hb) hk hold (fun b k hb hg => ⟨(hnew b k hb hg).1, (hnew b k hb hg).2.imp id fun hA b' hb' => by
    cases r with
    | comp g ls =>
      obtain ⟨k', fl, e, s, rows, h3, h4, rfl⟩ := owns_mem hb'
      exact hA fl e s rows (by
        have : k' = k := by omega
        subst this
        exact h3)
    | tup vs =>
      obtain ⟨j, g, ls, h8, hb'⟩ := ownsT_mem hb'
      obtain ⟨k', fl, e, s, rows, h3, h4, rfl⟩ := owns_mem hb'
      exact hA fl e s rows ⟨j, k', g, ls, h8, h3, by omega⟩⟩) (fun n b hb => by
    cases r with
    | comp g ls =>
      obtain ⟨k, fl, e, s, rows, h3, h4, h5⟩ := owns_mem hb
      have : ∃ u, RepRL w.heap.size w' γr hdr (0 + k) (.own fl e s rows) u := by
        cases g with
        | true =>
          obtain ⟨us, _, h6⟩ := hr
          obtain ⟨u, _, h7⟩ := h6.2 k _ h3
          exact ⟨u, h7⟩
        | false =>
          obtain ⟨l, rfl, h6⟩ := hr
          cases k with
          | zero => simp at h3; subst h3; exact ⟨_, h6⟩
          | succ k => simp at h3
      obtain ⟨u, h6⟩ := this
      exact ⟨0 + k, fl, e, s, rows, u, h4, h5, h6⟩
    | tup vs =>
      obtain ⟨j, g, ls, h8, hb⟩ := ownsT_mem hb
      obtain ⟨k, fl, e, s, rows, h3, h4, h5⟩ := owns_mem hb
      obtain ⟨us, _, _, h9⟩ := hr
      obtain ⟨u, _, h10⟩ := h9 j g ls h8
      rw [Nat.zero_add] at h4
      have : ∃ u, RepRL w.heap.size w' γr hdr (64 * j + k) (.own fl e s rows) u := by
        cases g with
        | true =>
          obtain ⟨us, _, h6⟩ := h10
          obtain ⟨u, _, h7⟩ := h6.2 k _ h3
          exact ⟨u, h7⟩
        | false =>
          obtain ⟨l, rfl, h6⟩ := h10
          cases k with
          | zero => simp at h3; subst h3; exact ⟨_, h6⟩
          | succ k => simp at h3
      obtain ⟨u, h6⟩ := this
      exact ⟨64 * j + k, fl, e, s, rows, u, h4, h5, h6⟩)
  refine ⟨η2, γ2, h2.put d _ _ hN ?_⟩
  have leaf : ∀ (i : Nat) (l : RL) (c : Value), RepRL w.heap.size w' γr hdr i l c → (∀ fl e s rows, l = .own fl e s rows → (d + 1000 * i, Blk.arr fl e s rows) ∈ ownsR d r) → RepP (getB (withB (ownsR d r) (clrL (ownsR d r) st))) η2 γ2 w' (pvRL d i l) c := by
    intro i l c hl hm
    cases l with
    | ro l => exact toPL_sound (hl.kp hkr)
    | own fl e s rows =>
      have hm := hm _ _ _ _ rfl
      refine ⟨by rw [hη i _ hm]; exact hl.1, ?_⟩
      obtain ⟨b, hb⟩ := Option.isSome_iff_exists.1 (getB_blks_some (st := clrL (ownsR d r) st) hm)
      rcases getB_blks _ hb with h5 | ⟨h5, _⟩
      · have : ∃ fl e s rows, b = .arr fl e s rows := by
          cases r with
          | comp g ls => obtain ⟨k, fl, e, s, rows, _, _, h8⟩ := owns_mem h5; exact ⟨fl, e, s, rows, h8⟩
          | tup vs =>
            obtain ⟨j, g, ls, _, h5⟩ := ownsT_mem h5
            obtain ⟨k, fl, e, s, rows, _, _, h8⟩ := owns_mem h5
            exact ⟨fl, e, s, rows, h8⟩
        obtain ⟨fl, e, s, rows, rfl⟩ := this
        exact ⟨fl, e, s, rows, hb⟩
      · exact absurd hm (h5 _)
  have comp : ∀ (i : Nat) (g : Bool) (ls : List RL) (c : Value), RepRC w.heap.size w' γr hdr i g ls c → (∀ (k : Nat) fl e s rows, ls[k]? = some (.own fl e s rows) → (d + 1000 * (i + k), Blk.arr fl e s rows) ∈ ownsR d r) → RepC (getB (withB (ownsR d r) (clrL (ownsR d r) st))) η2 γ2 w' g (pvs d i ls) c := by
    intro i g ls c hc hm
    cases g with
    | true =>
      obtain ⟨us, rfl, h3, h4⟩ := hc
      refine ⟨us, rfl, by rw [h3, pvs_len], fun k p hp => ?_⟩
      obtain ⟨l, h5, rfl⟩ := pvs_get hp
      obtain ⟨u, h6, h7⟩ := h4 k l h5
      exact ⟨u, h6, leaf (i + k) l u h7 (fun fl e s rows e' => hm k fl e s rows (e' ▸ h5))⟩
    | false =>
      obtain ⟨l, rfl, h3⟩ := hc
      exact ⟨pvRL d i l, rfl, leaf i l c h3 (fun fl e s rows e' => hm 0 fl e s rows (by rw [e']; rfl))⟩
  cases r with
  | comp g ls => exact comp 0 g ls u hr (fun k fl e s rows hk => owns_of hk)
  | tup vs =>
    obtain ⟨us, rfl, h3, h4⟩ := hr
    refine ⟨us, rfl, by rw [h3, pvT_len], fun j g ps hp => ?_⟩
    obtain ⟨ls, h5, rfl⟩ := pvT_get hp
    obtain ⟨u, h6, h7⟩ := h4 j g ls h5
    refine ⟨u, h6, ?_⟩
    rw [Nat.zero_add]
    exact comp (64 * j) g ls u h7 (fun k fl e s rows hk => ownsT_of h5 (by rw [Nat.zero_add]; exact owns_of hk))
end
abbrev SoundCuF (P : Program) (f : FuncId) {A B : Type} (ok : A → Prop) (enc : A → List Arg) (rel : A → B → Prop) (res : A → B → Res) : Prop :=
  SoundCF P f (α := Cu × A) (β := Cu × B) (fun x => CuOk x.1 ∧ ok x.2) (fun x => cuL x.1) (fun x => enc x.2) (fun x y => CuTo x.1 y.1 ∧ rel x.2 y.2) (fun _ y => cuL y.1) (fun x y => res x.2 y.2)
def PCuF (F : Nat → Prop) (w : World) (b : Nat) (k : Cu) {A B : Type} (rel : A → B → Prop) (res : A → B → Res) (a : A) : Ending → World → Prop := fun e w' => ∃ (y : Cu × B) (t' : TypeId), (CuTo k y.1 ∧ rel a y.2) ∧ PostG F b (putO w b (.cells ((cuL y.1).map exV).toArray t' (0, 0))) (res a y.2) e w'
theorem SoundCuF.of {P : Program} {N : Nat} {f : FuncId} {fn : Func} {c : Code} {A B : Type} {ok : A → Prop} {enc : A → List Arg} {rel : A → B → Prop} {res : A → B → Res}
    (hf : P.funcs[f]? = some fn) (hb : fn.body = some c) (hN : fn.ntmps = N)
    (h : ∀ (F : Nat → Prop) (k : Cu) (a : A) b w, CuOk k → ok a → b < w.heap.size → ¬ F b → (enc a).length + 1 ≤ N ∧
      W P (ownF F b) w N (frE F w :: initC (cuL k) (enc a)) c (bodyPost P fn (PCuF F w b k rel res a))) : SoundCuF P f ok enc rel res :=
  SoundCF.of hf hb hN (fun x y _ hr => cuL_kept hr.1) fun F x b w hok hB hFb => h F x.1 x.2 b w hok.1 hok.2 hB hFb
end Go.Proofs.YtfgkfcfplodaoaaGreatDoor

end
section
namespace Go.Proofs.YtfgkfcfplodaoaaGreatDoor
open Go Go.RowKit
set_option maxHeartbeats 4000000
theorem pow_le9 {k : Nat} (h : k ≤ 9) : 10 ^ k ≤ 1000000000 := Nat.pow_le_pow_right (n := 10) (by omega) h
noncomputable def mRead := mdl (fun s : ByteArray => s.size ≤ 9223372036854775807) (fun s => [aS s]) (fun s => .tup [rSc (.int .i64 (readZ s).1), rSc (.bool (readZ s).2)])
theorem mRead_eq (s : ByteArray) (h : s.size ≤ 9223372036854775807) : mRead [aS s] = some (.tup [rSc (.int .i64 (readZ s).1), rSc (.bool (readZ s).2)]) := mdl_eq (by intro a b h; simpa using h) s h
theorem sgn_nil {s : ByteArray} (h : s.size = 0) : sgn (bl s) = false := by
  have : bl s = [] := List.length_eq_zero_iff.1 (by rw [bl_len, h])
  rw [this]
  rfl
theorem sgn_at {s : ByteArray} (h : 0 < (bl s).length) : sgn (bl s) = decide ((bl s)[0] = 45) := by
  unfold sgn
  rw [List.head?_eq_getElem?, List.getElem?_eq_getElem h]
  simp
theorem wrap_sub {d : Nat} (h : 48 ≤ d) (h2 : d < 256) : IntKind.u8.wrap ((d : Int) - 48) = ((d - 48 : Nat) : Int) := by
  rw [show (d : Int) - 48 = ((d - 48 : Nat) : Int) by omega]
  exact wrap_u8n (by omega)
theorem rdI_no {s : ByteArray} (h : ∀ n, okDecZ n → (∀ d ∈ dgs (bl s), isDg d) → (dgs (bl s)).length ≤ 9 → 0 < (dgs (bl s)).length → n = (if sgn (bl s) then -((valD 0 (dgs (bl s)) : Nat) : Int) else ((valD 0 (dgs (bl s)) : Nat) : Int)) → bsS (decZ n) = s → False) : readZ s = (0, false) := by
  refine readZ_no fun n h1 h2 h3 => ?_
  obtain ⟨p1, p2, p3, p4⟩ := decZ_sval h1
  rw [← h2] at p1 p2 p3 p4
  exact h n h1 p1 p2 p3 p4.symm h3
theorem dgs_pos {s : ByteArray} (h : sgn (bl s) = false) : dgs (bl s) = bl s := by unfold dgs; rw [h]; rfl
theorem dgs_neg {s : ByteArray} (h : sgn (bl s) = true) : dgs (bl s) = (bl s).tail := by unfold dgs; rw [h]; rfl
theorem readI_s : Sound Tryz.prog 99 mRead := by
  refine Sound.mdl Tryz.func99 rfl Tryz.ntmps99 ?_
  rintro s w hs
  refine ⟨by simp, ?_⟩
  replace hs : s.size ≤ 9223372036854775807 := hs
  have hΓ : GSound Tryz.prog (look [(101, mDecZ), (139, mWithin)]) := env_cons (has_of Tryz.func101 rfl rfl) decZI_s (env_cons (has_of Tryz.func139 rfl rfl) within_s env_nil)
  have hl := bl_len s
  have hno := rdI_no (s := s)
  have hyes : ∀ n, okDecZ n → bsS (decZ n) = s → readZ s = (n, true) := fun n => readZ_yes
  by_cases hs0 : 0 < s.size
  · obtain ⟨b, hb1, hb2⟩ := bl_at (s := s) (i := 0) (by omega)
    have hsg := sgn_at (s := s) (by omega)
    rw [← hb2] at hsg
    clear hb2
    generalize hd0 : b.toNat = d0 at *
    by_cases h45 : d0 = 45
    · rw [decide_eq_true h45] at hsg
      have hdg := dgs_neg hsg
      have hDl : (dgs (bl s)).length = s.size - 1 := by rw [hdg, List.length_tail]; omega
      have hDx : ∀ j, (hj : j < (dgs (bl s)).length) → ∃ b : UInt8, s.data.toList[j + 1]? = some b ∧ b.toNat = (dgs (bl s))[j] := fun j hj => by
        obtain ⟨b, h1, h2⟩ := bl_at (s := s) (i := j + 1) (by omega)
        refine ⟨b, h1, h2.trans ?_⟩
        simp only [hdg, List.getElem_tail]
      rw [hsg] at hno
      by_cases hlen : 1 ≤ s.size - 1 ∧ s.size - 1 ≤ 9
      · have c := mWithin_eq ((s.size : Int) - 1) 1 9
        rw [decide_eq_true (by omega)] at c
        clear hdg
        generalize dgs (bl s) = D at *
        simp only [initS, argPV, List.map_cons, List.map_nil, toPL, Nat.zero_add]
        refine zR ?_
        refine W.loopA (fun x : Nat × Nat => valD 0 (D.take x.1) = x.2 ∧ x.1 ≤ D.length ∧ ∀ d ∈ D.take x.1, isDg d) (fun x => [.slot 0 (vS s), .slot 4 (vI 1), .slot 5 (vI (x.2 : Int)), .slot 6 (vI ((x.1 + 1 : Nat) : Int))]) (fun x => D.length - x.1) (0, 0) ⟨rfl, Nat.zero_le _, fun d hd => by simp at hd⟩ (h := ?_)
        rintro ⟨j, a⟩ ⟨hv, hj, hdg⟩
        dsimp only at hv hj hdg ⊢
        have ha := valD_lt (D.take j) 0 hdg
        rw [hv, List.length_take] at ha
        have ha9 : a ≤ 999999999 := by have := pow_le9 (k := min j D.length) (by omega); omega
        clear ha
        by_cases hjl : j < D.length
        · obtain ⟨b, hb1, hb2⟩ := hDx j hjl
          have hb256 : b.toNat < 256 := b.toNat_lt
          have hsn := valD_snoc 0 (D.take j) D[j]
          rw [hv, ← List.take_succ_eq_append_getElem hjl] at hsn
          have hnx : isDg D[j] → ∀ d ∈ D.take (j + 1), isDg d := fun h d hd => by
            rw [List.take_succ_eq_append_getElem hjl] at hd
            rcases List.mem_append.1 hd with hd | hd
            · exact hdg d hd
            · rw [List.mem_singleton.1 hd]; exact h
          have hbad : ¬ isDg D[j] → readZ s = (0, false) := fun h => hno fun n _ h1 _ _ _ _ => h (h1 _ (List.getElem_mem hjl))
          rw [← hb2] at hsn hnx hbad
          clear hno hyes hv hdg hb2 hDx
          generalize hd : b.toNat = d at *
          by_cases h1 : 48 ≤ d
          · by_cases h2 : d ≤ 57
            · have hw := wrap_sub h1 hb256
              have e : 10 * (a : Int) + ((d - 48 : Nat) : Int) = ((a * 10 + (d - 48) : Nat) : Int) := by omega
              have hnx := hnx ⟨h1, h2⟩
              clear hbad
              refine zR ?_
              exact At.roundA (j + 1, a * 10 + (d - 48)) ⟨hsn, by dsimp only; omega, hnx⟩ (by dsimp only; omega)
            · have hres := hbad (fun h => h2 h.2)
              clear hbad hnx
              refine zR ?_
              refine At.retA (by rw [Tryz.results99]) (he := ?_)
              rw [hres]
          · have hres := hbad (fun h => h1 h.1)
            clear hbad hnx
            refine zR ?_
            refine At.retA (by rw [Tryz.results99]) (he := ?_)
            rw [hres]
        · have hjl2 : D.length ≤ j := by omega
          rw [List.take_of_length_le hjl2] at hv
          have hneg : (0 : Int) - (a : Int) = -(a : Int) := by omega
          have c2 := mDecZ_eq (-((a : Nat) : Int)) ⟨by omega, by omega⟩
          by_cases he : bsS (decZ (-((a : Nat) : Int))) = s
          · have hres := hyes (-((a : Nat) : Int)) ⟨by omega, by omega⟩ he
            clear hno hyes hDx hv hdg
            refine zR ?_
            refine At.retA (by rw [Tryz.results99]) (he := ?_)
            rw [hres]
          · have hres := hno fun n _ _ _ _ hn h => he (by rw [hn, hv] at h; simpa using h)
            clear hno hyes hDx hv hdg
            refine zR ?_
            refine At.retA (by rw [Tryz.results99]) (he := ?_)
            rw [hres]
      · have c := mWithin_eq ((s.size : Int) - 1) 1 9
        rw [decide_eq_false (by omega)] at c
        have hres := hno fun n _ _ h1 h2 _ _ => hlen (by omega)
        clear hno hyes hDx hdg
        simp only [initS, argPV, List.map_cons, List.map_nil, toPL, Nat.zero_add]
        refine zR ?_
        refine At.retA (by rw [Tryz.results99]) (he := ?_)
        rw [hres]
    · rw [decide_eq_false h45] at hsg
      have h45i : ¬ (d0 : Int) = 45 := by omega
      have hdg := dgs_pos hsg
      have hDl : (dgs (bl s)).length = s.size - 0 := by rw [hdg]; omega
      have hDx : ∀ j, (hj : j < (dgs (bl s)).length) → ∃ b : UInt8, s.data.toList[j]? = some b ∧ b.toNat = (dgs (bl s))[j] := fun j hj => by
        obtain ⟨b, h1, h2⟩ := bl_at (s := s) (i := j) (by omega)
        refine ⟨b, h1, h2.trans ?_⟩
        simp only [hdg]
      rw [hsg] at hno
      by_cases hlen : 1 ≤ s.size - 0 ∧ s.size - 0 ≤ 9
      · have c := mWithin_eq ((s.size : Int) - 0) 1 9
        rw [decide_eq_true (by omega)] at c
        clear hdg
        generalize dgs (bl s) = D at *
        simp only [initS, argPV, List.map_cons, List.map_nil, toPL, Nat.zero_add]
        refine zR ?_
        refine W.loopA (fun x : Nat × Nat => valD 0 (D.take x.1) = x.2 ∧ x.1 ≤ D.length ∧ ∀ d ∈ D.take x.1, isDg d) (fun x => [.slot 0 (vS s), .slot 4 (vI 0), .slot 5 (vI (x.2 : Int)), .slot 6 (vI ((x.1 : Nat) : Int))]) (fun x => D.length - x.1) (0, 0) ⟨rfl, Nat.zero_le _, fun d hd => by simp at hd⟩ (h := ?_)
        rintro ⟨j, a⟩ ⟨hv, hj, hdg⟩
        dsimp only at hv hj hdg ⊢
        have ha := valD_lt (D.take j) 0 hdg
        rw [hv, List.length_take] at ha
        have ha9 : a ≤ 999999999 := by have := pow_le9 (k := min j D.length) (by omega); omega
        clear ha
        by_cases hjl : j < D.length
        · obtain ⟨b, hb1, hb2⟩ := hDx j hjl
          have hb256 : b.toNat < 256 := b.toNat_lt
          have hsn := valD_snoc 0 (D.take j) D[j]
          rw [hv, ← List.take_succ_eq_append_getElem hjl] at hsn
          have hnx : isDg D[j] → ∀ d ∈ D.take (j + 1), isDg d := fun h d hd => by
            rw [List.take_succ_eq_append_getElem hjl] at hd
            rcases List.mem_append.1 hd with hd | hd
            · exact hdg d hd
            · rw [List.mem_singleton.1 hd]; exact h
          have hbad : ¬ isDg D[j] → readZ s = (0, false) := fun h => hno fun n _ h1 _ _ _ _ => h (h1 _ (List.getElem_mem hjl))
          rw [← hb2] at hsn hnx hbad
          clear hno hyes hv hdg hb2 hDx
          generalize hd : b.toNat = d at *
          by_cases h1 : 48 ≤ d
          · by_cases h2 : d ≤ 57
            · have hw := wrap_sub h1 hb256
              have e : 10 * (a : Int) + ((d - 48 : Nat) : Int) = ((a * 10 + (d - 48) : Nat) : Int) := by omega
              have hnx := hnx ⟨h1, h2⟩
              clear hbad
              refine zR ?_
              exact At.roundA (j + 1, a * 10 + (d - 48)) ⟨hsn, by dsimp only; omega, hnx⟩ (by dsimp only; omega)
            · have hres := hbad (fun h => h2 h.2)
              clear hbad hnx
              refine zR ?_
              refine At.retA (by rw [Tryz.results99]) (he := ?_)
              rw [hres]
          · have hres := hbad (fun h => h1 h.1)
            clear hbad hnx
            refine zR ?_
            refine At.retA (by rw [Tryz.results99]) (he := ?_)
            rw [hres]
        · have hjl2 : D.length ≤ j := by omega
          rw [List.take_of_length_le hjl2] at hv
          have hneg : (0 : Int) - (a : Int) = -(a : Int) := by omega
          have c2 := mDecZ_eq (((a : Nat) : Int)) ⟨by omega, by omega⟩
          by_cases he : bsS (decZ (((a : Nat) : Int))) = s
          · have hres := hyes (((a : Nat) : Int)) ⟨by omega, by omega⟩ he
            clear hno hyes hDx hv hdg
            refine zR ?_
            refine At.retA (by rw [Tryz.results99]) (he := ?_)
            rw [hres]
          · have hres := hno fun n _ _ _ _ hn h => he (by rw [hn, hv] at h; simpa using h)
            clear hno hyes hDx hv hdg
            refine zR ?_
            refine At.retA (by rw [Tryz.results99]) (he := ?_)
            rw [hres]
      · have c := mWithin_eq ((s.size : Int) - 0) 1 9
        rw [decide_eq_false (by omega)] at c
        have hres := hno fun n _ _ h1 h2 _ _ => hlen (by omega)
        clear hno hyes hDx hdg
        simp only [initS, argPV, List.map_cons, List.map_nil, toPL, Nat.zero_add]
        refine zR ?_
        refine At.retA (by rw [Tryz.results99]) (he := ?_)
        rw [hres]
  · have hsg := sgn_nil (s := s) (by omega)
    have hdg := dgs_pos hsg
    have hDl : (dgs (bl s)).length = s.size := by rw [hdg]; omega
    have c := mWithin_eq ((s.size : Int) - 0) 1 9
    rw [decide_eq_false (by omega)] at c
    have hres := hno fun n _ _ _ h2 _ _ => by omega
    clear hno hyes hdg
    simp only [initS, argPV, List.map_cons, List.map_nil, toPL, Nat.zero_add]
    refine zR ?_
    refine At.retA (by rw [Tryz.results99]) (he := ?_)
    rw [hres]
end Go.Proofs.YtfgkfcfplodaoaaGreatDoor

end
