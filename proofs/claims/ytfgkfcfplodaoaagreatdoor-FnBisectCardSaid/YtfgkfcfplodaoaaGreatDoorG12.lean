/-
  Put together: PEvNc PEvNr.
-/
import Derived.Test.YtfgkfcfplodaoaaGreatDoorHPEvCu
import Derived.Test.YtfgkfcfplodaoaaGreatDoorG11
section
/-!
  Functions that move a cursor and whose results may speak of any memory but the cursor's: contracts, entering, leaving, calling.
-/
namespace Go.Proofs.YtfgkfcfplodaoaaGreatDoor
set_option maxRecDepth 100000
set_option linter.unusedVariables false
set_option linter.unusedSimpArgs false
open Go Go.RowKit
set_option linter.unusedVariables false

/-- what a function leaves whose results do not speak of the block c -/
def PostF (c : Nat) (w : World) (r : Res) (e : Ending) (w' : World) : Prop :=
  ∃ u γ hdr, e = .returned u ∧ Below w.heap.size w w' ∧ γ c ≠ none ∧ (∀ b k, b ≠ c → γ b = some k → w.heap.size ≤ b ∧ b < w'.heap.size ∧ AtR r hdr b k) ∧ RepR w.heap.size w' γ hdr r u
def SoundCN (P : Program) (f : FuncId) {α β : Type} (ok : α → Prop) (us : α → List PL) (enc : α → List Arg) (rel : α → β → Prop) (us' : α → β → List PL) (res : α → β → Res) : Prop :=
  (∀ x y, ok x → rel x y → Kept (us x) (us' x y)) ∧
  ∀ x b t vs w, ok x → GlobOk (own1 b) w → (∀ l ∈ us x, ExOk w (own1 b) l) → w.heap[b]? = some (.cells ((us x).map exV).toArray t (0, 0)) → RepDs w (own1 b) (enc x) vs →
    Calls P f (Value.pointer (some ⟨b, 0, none⟩) :: vs).toArray w fun e w' => ∃ y t', rel x y ∧ PostF b (putO w b (.cells ((us' x y).map exV).toArray t' (0, 0))) (res x y) e w'
section
variable {P : Program} {Γ : Models} {γ0 : Nat → Option Nat} {w0 : World} {N : Nat} {st st1 : St} {a : Act} {w : World} {η : Nat → Value} {γ : Nat → Option Nat} {Q : Exit → Act → World → Prop}
theorem SoundCN.of {f : FuncId} {fn : Func} {c : Code} {α β : Type} {ok : α → Prop} {us : α → List PL} {enc : α → List Arg} {rel : α → β → Prop} {us' : α → β → List PL} {res : α → β → Res}
    (hf : P.funcs[f]? = some fn) (hb : fn.body = some c) (hN : fn.ntmps = N)
    (hkept : ∀ x y, ok x → rel x y → Kept (us x) (us' x y))
    (h : ∀ x b w, ok x → b < w.heap.size → (enc x).length + 1 ≤ N ∧
      W P (own1 b) w N (initC (us x) (enc x)) c (bodyPost P fn fun e w' => ∃ y t', rel x y ∧ PostF b (putO w b (.cells ((us' x y).map exV).toArray t' (0, 0))) (res x y) e w')) : SoundCN P f ok us enc rel us' res := by
  refine ⟨hkept, ?_⟩
  intro x b t vs w hok hgl h1 hh hargs
  obtain ⟨hl, hW⟩ := h x b w hok (heap_lt hh)
  refine calls_of_wp hf hb (hW _ _ ⟨fun _ => .pointer (some ⟨b, 0, none⟩), own1 b, ?_⟩)
  have hsz : vs.length = (enc x).length := hargs.1
  refine { slots := fun k => ?_, blks := fun n b' hb' => ?_, live := fun k n hk => ?_, low := fun k _ hk => ⟨hk, rfl⟩, os := rfl, tape := rfl, output := rfl, size := Nat.le_refl _, defers := rfl, width := ?_, glob := hgl, pin := fun _ k ls hk _ => hk, pinA := PinA.no fun _ fl e s rows hb => (by simp [getB] at hb) }
  · show RepV _ _ _ _ (if 0 = k then one (.ptr 999 0) else getS (initS 1 (enc x)) k) _
    by_cases e : 0 = k
    · subst e
      rw [if_pos rfl]
      refine RepV.one_iff.2 ⟨us x, b, by simp [getB], rfl, ?_⟩
      show ((Value.pointer (some ⟨b, 0, none⟩) :: vs).toArray ++ Array.replicate (fn.ntmps - (Value.pointer (some ⟨b, 0, none⟩) :: vs).toArray.size) undef).getD 0 undef = _
      rw [Array.getD_eq_getD_getElem?, Array.getElem?_append_left (by simp)]
      simp
    · rw [if_neg e]
      refine initS_data (enc x) 1 (fun t => ((Value.pointer (some ⟨b, 0, none⟩) :: vs).toArray ++ Array.replicate (fn.ntmps - (Value.pointer (some ⟨b, 0, none⟩) :: vs).toArray.size) undef).getD t undef) (fun j y hj => ?_) k
      obtain ⟨v, k1, k2⟩ := hargs.2 j y hj
      have hlt : j < vs.length := (List.getElem?_eq_some_iff.1 k1).1
      have : ((Value.pointer (some ⟨b, 0, none⟩) :: vs).toArray ++ Array.replicate (fn.ntmps - (Value.pointer (some ⟨b, 0, none⟩) :: vs).toArray.size) undef).getD (1 + j) undef = v := by
        rw [Array.getD_eq_getD_getElem?, Array.getElem?_append_left (by simp; omega)]
        simp [Nat.add_comm 1 j, k1]
      rw [this]
      exact k2
  · simp only [getB] at hb'
    split at hb'
    · rename_i e
      cases hb'
      subst e
      exact ⟨b, ((us x).map exV).toArray, t, rfl, own1_same b, hh, by simpa using RepPs.ofExs h1⟩
    · rw [initS_blk] at hb'
      cases hb'
  · have hkb := own1_some hk
    subst hkb
    rw [own1_same] at hk
    cases hk
    exact ⟨heap_lt hh, .inl rfl, by simp [getB]⟩
  · simp
    omega

end
abbrev SoundCuN (P : Program) (f : FuncId) {A B : Type} (ok : A → Prop) (enc : A → List Arg) (rel : A → B → Prop) (res : A → B → Res) : Prop :=
  SoundCN P f (α := Cu × A) (β := Cu × B) (fun x => CuOk x.1 ∧ ok x.2) (fun x => cuL x.1) (fun x => enc x.2) (fun x y => CuTo x.1 y.1 ∧ rel x.2 y.2) (fun _ y => cuL y.1) (fun x y => res x.2 y.2)
def PCuN (w : World) (b : Nat) (k : Cu) {A B : Type} (rel : A → B → Prop) (res : A → B → Res) (a : A) : Ending → World → Prop := fun e w' => ∃ (y : Cu × B) (t' : TypeId), (CuTo k y.1 ∧ rel a y.2) ∧ PostF b (putO w b (.cells ((cuL y.1).map exV).toArray t' (0, 0))) (res a y.2) e w'
theorem SoundCuN.of {P : Program} {N : Nat} {f : FuncId} {fn : Func} {c : Code} {A B : Type} {ok : A → Prop} {enc : A → List Arg} {rel : A → B → Prop} {res : A → B → Res}
    (hf : P.funcs[f]? = some fn) (hb : fn.body = some c) (hN : fn.ntmps = N)
    (h : ∀ (k : Cu) (a : A) b w, CuOk k → ok a → b < w.heap.size → (enc a).length + 1 ≤ N ∧
      W P (own1 b) w N (initC (cuL k) (enc a)) c (bodyPost P fn (PCuN w b k rel res a))) : SoundCuN P f ok enc rel res :=
  SoundCN.of hf hb hN (fun x y _ hr => cuL_kept hr.1) fun x b w hok hB => h x.1 x.2 b w hok.1 hok.2 hB
/-! kinds of rows -/
section
variable {γ0 : Nat → Option Nat} {w0 : World} {N : Nat} {st : St} {Q : Exit → Act → World → Prop} {c : Code} {x : Exit}
theorem R.toNd {a : Act} {w : World} (h : R γ0 w0 N st a w) {n e s : Nat} {rows : List (List Leaf)} (hb : getB st n = some (.arr .ft e s rows)) : R γ0 w0 N (.blk n (.arr .nd e s rows) :: st) a w := by
  obtain ⟨η, γ, hI⟩ := h
  exact ⟨η, γ, hI.toNd hb⟩
theorem W.toNd (n : Nat) {e s : Nat} {rows : List (List Leaf)} (hb : getB st n = some (.arr .ft e s rows) := by exact evsP) (h : W Tryz.prog γ0 w0 N (.blk n (.arr .nd e s rows) :: st) c Q) : W Tryz.prog γ0 w0 N st c Q := fun a w hR => h a w (hR.toNd hb)
theorem At.toNd (n : Nat) {e s : Nat} {rows : List (List Leaf)} (hb : getB st n = some (.arr .ft e s rows) := by exact evsP) (h : At γ0 w0 N (.blk n (.arr .nd e s rows) :: st) x Q) : At γ0 w0 N st x Q := fun a w hR => h a w (hR.toNd hb)
end
end Go.Proofs.YtfgkfcfplodaoaaGreatDoor

end
section
/-!
  Functions whose results may speak of their arguments' memory, with some answer.
-/
namespace Go.Proofs.YtfgkfcfplodaoaaGreatDoor
set_option maxRecDepth 100000
set_option linter.unusedVariables false
set_option linter.unusedSimpArgs false
open Go Go.RowKit
set_option linter.unusedVariables false

def SoundNR (P : Program) (f : FuncId) {α β : Type} (ok : α → Prop) (enc : α → List Arg) (rel : α → β → Prop) (res : α → β → Res) : Prop :=
  ∀ x vs w, ok x → GlobOk none0 w → RepAs w (enc x) vs → Calls P f vs.toArray w fun e w' => ∃ y, rel x y ∧ PostN w (res x y) e w'
def PRlN (w : World) {α β : Type} (rel : α → β → Prop) (res : α → β → Res) (x : α) : Ending → World → Prop := fun e w' => ∃ y, rel x y ∧ PostN w (res x y) e w'
section
variable {P : Program} {Γ : Models} {γ0 : Nat → Option Nat} {w0 : World} {N : Nat} {st : St} {a : Act} {w : World} {η : Nat → Value} {γ : Nat → Option Nat} {Q : Exit → Act → World → Prop}
theorem SoundNR.ofX {f : FuncId} {fn : Func} {c : Code} {α β : Type} {ok : α → Prop} {rows : α → List (List Leaf)} {rel : α → β → Prop} {res : α → β → Res}
    (hf : P.funcs[f]? = some fn) (hb : fn.body = some c) (hN : fn.ntmps = N) (h1 : 1 ≤ N)
    (h : ∀ x v w, ok x → W P none0 w N (initX 0 [.xl v (rows x)]) c (bodyPost P fn fun e w' => ∃ y, rel x y ∧ PostN w (res x y) e w')) : SoundNR P f ok (fun x => [.val false [.sl (rows x)]]) rel res := by
  intro x vs w hok hgl hargs
  obtain ⟨h2, h3⟩ := hargs
  obtain ⟨v, h4, l, h5, h6⟩ := h3 0 _ rfl
  cases h5
  have hvs : vs = [exV (.xl v (rows x))] := by
    cases vs with
    | nil => simp at h2
    | cons u r =>
      cases r with
      | cons _ _ => simp at h2
      | nil =>
        simp only [List.getElem?_cons_zero, Option.some.injEq] at h4
        rw [h4]
        rfl
  rw [hvs]
  exact enterX (ls := [.xl v (rows x)]) hf hb hN h1 (fun l hl => by
    rw [List.mem_singleton.1 hl]
    exact h6) hgl (h x v w hok)
theorem WL.opNR {ops : Array Oper} {r : List Oper} {d f : Nat} {xs : List Operand} {ts : Array TypeId} {ty : TypeId} {pos : String} {after : Array Edge} {α β : Type} {ok : α → Prop} {enc : α → List Arg} {rel : α → β → Prop} {res : α → β → Res}
    (hf : Has P f) (hs : SoundNR P f ok enc rel res) (x : α) (hok : ok x) (hN : d < N) (hno : noB st = true) (ha : argsO st xs = some (enc x)) (h : ∀ y, rel x y → WL P γ0 w0 N ops r (impE st d (res x y)) Q) :
    WL P γ0 w0 N ops (⟨some d, .call ⟨.value (.func f), xs.toArray, ts⟩, ty, pos, after, none⟩ :: r) st Q := fun a w hR => by
  refine wpList_plain rfl fun K hK => ?_
  obtain ⟨η, γ, hI⟩ := hR
  have hcall := hs x _ w hok hI.globw (argsO_sound hI ha)
  have hrun := enter_of (P := P) hf (a := a) (w := w) (args := xs) (ts := ts) (dst := some d) (ty := ty) (pos := pos) (after := after) (g := none)
  unfold Oper.wp
  rw [hrun]
  show Calls P f (xs.map a.eval).toArray w _
  refine hcall.mono fun e w' ⟨y, hrel, u, γr, hdr, he, hk, hnew, hr⟩ => ?_
  subst he
  exact hK _ _ (h y hrel _ _ (impE_soundG hI hN hk (fun γ1 h1 b _ _ => by
    cases hg : γ1 b with
    | none => rfl
    | some n =>
      have := (h1 b n hg).2
      rw [clrL_noB (noB_of hno)] at this
      cases this) (fun b k _ hb => (hnew b k hb).2) hr))
theorem At.retNR {fn : Func} {α β : Type} {rel : α → β → Prop} {res : α → β → Res} {x : α} (y : β) (hrel : rel x y) (hr : resN P st fn.results.toList = some (res x y)) (hL : apart (ownC P st 0 fn.results.toList) = true) :
    At none0 w0 N st .ret (bodyPost P fn fun e w' => ∃ y, rel x y ∧ PostN w0 (res x y) e w') := by
  intro a w hR
  obtain ⟨h1, u, h2, h3⟩ := At.retN (P := P) (fn := fn) hr hL a w hR
  exact ⟨h1, u, h2, y, hrel, h3⟩
end
theorem SoundNR.ofXA {P : Program} {N : Nat} {f : FuncId} {fn : Func} {c : Code} {α β : Type} {ok : α → Prop} {rows : α → List (List Leaf)} {rel : α → β → Prop} {res : α → β → Res}
    (hf : P.funcs[f]? = some fn) (hb : fn.body = some c) (hN : fn.ntmps = N) (h1 : 1 ≤ N)
    (h : ∀ x v w, ok x → W P none0 w N (initX 0 [.xl v (rows x)]) c (bodyPost P fn (PRlN w rel res x))) : SoundNR P f ok (fun x => [.val false [.sl (rows x)]]) rel res := SoundNR.ofX hf hb hN h1 h
section
variable {γ0 : Nat → Option Nat} {w0 : World} {N : Nat} {st : St} {Q : Exit → Act → World → Prop}
theorem At.retNRA {fn : Func} {α β : Type} {rel : α → β → Prop} {res : α → β → Res} {x : α} {l : List ResultVar} {r' : Res} (hl : fn.results.toList = l) (y : β) (hrel : rel x y)
    (hr : resN Tryz.prog st l = some r' := by simp only [resN, compsN, compN, rlsN, rlN, resV]; exact evsP) (hL : apart (ownC Tryz.prog st 0 l) = true := by simp only [ownC, resV]; exact evsP) (he : r' = res x y) :
    At none0 w0 N st .ret (bodyPost Tryz.prog fn (PRlN w0 rel res x)) := by
  subst hl
  exact At.retNR y hrel (he ▸ hr) hL
theorem WL.opNRA {ops : Array Oper} {r : List Oper} {d f : Nat} {xs : List Operand} {ts : Array TypeId} {ty : TypeId} {pos : String} {after : Array Edge}
    {α β : Type} {ok : α → Prop} {enc : α → List Arg} {rel : α → β → Prop} {res : α → β → Res} {st1 : β → St}
    (hf : Has Tryz.prog f) (hs : SoundNR Tryz.prog f ok enc rel res) (x : α) (hok : ok x) (hN : d < N := by decide) (hno : noB st = true := by rfl) (ha : argsO st xs = some (enc x) := by exact evsP)
    (hst : ∀ y, impE st d (res x y) = st1 y := by intro y; exact evsP)
    (h : ∀ y, rel x y → WL Tryz.prog γ0 w0 N ops r (st1 y) Q) :
    WL Tryz.prog γ0 w0 N ops (⟨some d, .call ⟨.value (.func f), xs.toArray, ts⟩, ty, pos, after, none⟩ :: r) st Q :=
  WL.opNR hf hs x hok hN hno ha fun y hy => by
    rw [hst y]
    exact h y hy
end
end Go.Proofs.YtfgkfcfplodaoaaGreatDoor

end
