/-
  Put together: PEvDrV PEvNc.
-/
import Derived.Test.YtfgkfcfplodaoaaGreatDoorG20
set_option linter.unusedSimpArgs false
set_option linter.unusedVariables false
set_option maxRecDepth 100000
section
namespace Go.Proofs.YtfgkfcfplodaoaaGreatDoor
open Go Go.RowKit
set_option maxHeartbeats 4000000
theorem cVal_app (l : List TVal) (a b : Int) : rowsF cVal l ++ [[.sc (.int .i64 a), .sc (.int .i64 b)]] = rowsF cVal (l ++ [(a, b)]) := by rw [← rowsF_app]; rfl
theorem cInt_app (l : List Int) (a : Int) : rowsF cInt l ++ [[.sc (.int .i64 a)]] = rowsF cInt (l ++ [a]) := by rw [← rowsF_app]; rfl
end Go.Proofs.YtfgkfcfplodaoaaGreatDoor

end
section
namespace Go.Proofs.YtfgkfcfplodaoaaGreatDoor
open Go Go.RowKit
def PostF (c : Nat) (w : World) (r : Res) (e : Ending) (w' : World) : Prop :=
  ∃ u γ hdr, e = .returned u ∧ Below w.heap.size w w' ∧ γ c ≠ none ∧ (∀ b k, b ≠ c → γ b = some k → w.heap.size ≤ b ∧ b < w'.heap.size ∧ AtR r hdr b k) ∧ RepR w.heap.size w' γ hdr r u
def SoundCN (P : Program) (f : FuncId) {α β : Type} (ok : α → Prop) (us : α → List PL) (enc : α → List Arg) (rel : α → β → Prop) (us' : α → β → List PL) (res : α → β → Res) : Prop :=
  (∀ x y, ok x → rel x y → Kept (us x) (us' x y)) ∧
  ∀ x b t vs w, ok x → GlobOk (own1 b) w → (∀ l ∈ us x, ExOk w (own1 b) l) → w.heap[b]? = some (.cells ((us x).map exV).toArray t (0, 0)) → RepDs w (own1 b) (enc x) vs →
    Calls P f (Value.pointer (some ⟨b, 0, none⟩) :: vs).toArray w fun e w' => ∃ y t', rel x y ∧ PostF b (putO w b (.cells ((us' x y).map exV).toArray t' (0, 0))) (res x y) e w'
def onlyB (n : Nat) : St → Bool
  | [] => true
  | .blk m _ :: r => m == n && onlyB n r
  | _ :: r => onlyB n r
theorem onlyB_of {n : Nat} : ∀ {st : St} (_ : onlyB n st = true) {m : Nat} {b : Blk} (_ : getB st m = some b), m = n
  | [], _, m, b, h => by cases h
  | .slot _ _ :: r, h, m, b, hb => onlyB_of (st := r) h hb
  | .blk k b0 :: r, h, m, b, hb => by
    simp only [onlyB, Bool.and_eq_true, beq_iff_eq] at h
    simp only [getB] at hb
    split at hb
    · rename_i e
      exact e.symm.trans h.1
    · exact onlyB_of (st := r) h.2 hb
  | .kill k :: r, h, m, b, hb => by
    simp only [getB] at hb
    split at hb
    · cases hb
    · obtain ⟨b0, h1, _⟩ := Option.map_eq_some_iff.1 hb
      exact onlyB_of (st := r) h h1
section
variable {P : Program} {Γ : Models} {γ0 : Nat → Option Nat} {w0 : World} {N : Nat} {st st1 : St} {a : Act} {w : World} {η : Nat → Value} {γ : Nat → Option Nat} {Q : Exit → Act → World → Prop}
theorem SoundCN.of {f : FuncId} {fn : Func} {c : Code} {α β : Type} {ok : α → Prop} {us : α → List PL} {enc : α → List Arg} {rel : α → β → Prop} {us' : α → β → List PL} {res : α → β → Res}
    (hf : P.funcs[f]? = some fn) (hb : fn.body = some c) (hN : fn.ntmps = N)
    (hkept : ∀ x y, ok x → rel x y → Kept (us x) (us' x y))
    (h : ∀ x b w, ok x → b < w.heap.size → (enc x).length + 1 ≤ N ∧
      W P (own1 b) w N (initC (us x) (enc x)) c (bodyPost P fn fun e w' => ∃ y t', rel x y ∧ PostF b (putO w b (.cells ((us' x y).map exV).toArray t' (0, 0))) (res x y) e w')) : SoundCN P f ok us enc rel us' res := by
  refine ⟨hkept, ?_⟩
  intro x b t vs w hok hgl h1 hh hargs
  obtain ⟨hl, hW⟩ := h x b w hok (heap_lt hh)
  refine calls_of_wp hf hb (hW _ _ ⟨fun _ => .pointer (some ⟨b, 0, none⟩), own1 b, ?_⟩)
  have hsz : vs.length = (enc x).length := hargs.1
  refine { slots := fun k => ?_, blks := fun n b' hb' => ?_, live := fun k n hk => ?_, low := fun k _ hk => ⟨hk, rfl⟩, os := rfl, tape := rfl, output := rfl, size := Nat.le_refl _, defers := rfl, width := ?_, glob := hgl, pin := fun _ k ls hk _ => hk, pinA := PinA.no fun _ fl e s rows hb => (by simp [getB] at hb) }
  · show RepV _ _ _ _ (if 0 = k then one (.ptr 999 0) else getS (initS 1 (enc x)) k) _
    by_cases e : 0 = k
    · subst e
      rw [if_pos rfl]
      refine RepV.one_iff.2 ⟨us x, b, by simp [getB], rfl, ?_⟩
      show ((Value.pointer (some ⟨b, 0, none⟩) :: vs).toArray ++ Array.replicate (fn.ntmps - (Value.pointer (some ⟨b, 0, none⟩) :: vs).toArray.size) undef).getD 0 undef = _
      rw [Array.getD_eq_getD_getElem?, Array.getElem?_append_left (by simp)]
      simp
    · rw [if_neg e]
      refine initS_data (enc x) 1 (fun t => ((Value.pointer (some ⟨b, 0, none⟩) :: vs).toArray ++ Array.replicate (fn.ntmps - (Value.pointer (some ⟨b, 0, none⟩) :: vs).toArray.size) undef).getD t undef) (fun j y hj => ?_) k
      obtain ⟨v, k1, k2⟩ := hargs.2 j y hj
      have hlt : j < vs.length := (List.getElem?_eq_some_iff.1 k1).1
      have : ((Value.pointer (some ⟨b, 0, none⟩) :: vs).toArray ++ Array.replicate (fn.ntmps - (Value.pointer (some ⟨b, 0, none⟩) :: vs).toArray.size) undef).getD (1 + j) undef = v := by
        rw [Array.getD_eq_getD_getElem?, Array.getElem?_append_left (by simp; omega)]
        simp [Nat.add_comm 1 j, k1]
      rw [this]
      exact k2
  · simp only [getB] at hb'
    split at hb'
    · rename_i e
      cases hb'
      subst e
      exact ⟨b, ((us x).map exV).toArray, t, rfl, own1_same b, hh, by simpa using RepPs.ofExs h1⟩
    · rw [initS_blk] at hb'
      cases hb'
  · have hkb := own1_some hk
    subst hkb
    rw [own1_same] at hk
    cases hk
    exact ⟨heap_lt hh, .inl rfl, by simp [getB]⟩
  · simp
    omega
end
abbrev SoundCuN (P : Program) (f : FuncId) {A B : Type} (ok : A → Prop) (enc : A → List Arg) (rel : A → B → Prop) (res : A → B → Res) : Prop :=
  SoundCN P f (α := Cu × A) (β := Cu × B) (fun x => CuOk x.1 ∧ ok x.2) (fun x => cuL x.1) (fun x => enc x.2) (fun x y => CuTo x.1 y.1 ∧ rel x.2 y.2) (fun _ y => cuL y.1) (fun x y => res x.2 y.2)
def PCuN (w : World) (b : Nat) (k : Cu) {A B : Type} (rel : A → B → Prop) (res : A → B → Res) (a : A) : Ending → World → Prop := fun e w' => ∃ (y : Cu × B) (t' : TypeId), (CuTo k y.1 ∧ rel a y.2) ∧ PostF b (putO w b (.cells ((cuL y.1).map exV).toArray t' (0, 0))) (res a y.2) e w'
theorem SoundCuN.of {P : Program} {N : Nat} {f : FuncId} {fn : Func} {c : Code} {A B : Type} {ok : A → Prop} {enc : A → List Arg} {rel : A → B → Prop} {res : A → B → Res}
    (hf : P.funcs[f]? = some fn) (hb : fn.body = some c) (hN : fn.ntmps = N)
    (h : ∀ (k : Cu) (a : A) b w, CuOk k → ok a → b < w.heap.size → (enc a).length + 1 ≤ N ∧
      W P (own1 b) w N (initC (cuL k) (enc a)) c (bodyPost P fn (PCuN w b k rel res a))) : SoundCuN P f ok enc rel res :=
  SoundCN.of hf hb hN (fun x y _ hr => cuL_kept hr.1) fun x b w hok hB => h x.1 x.2 b w hok.1 hok.2 hB
section
variable {γ0 : Nat → Option Nat} {w0 : World} {N : Nat} {st : St} {Q : Exit → Act → World → Prop} {c : Code} {x : Exit}
theorem R.toNd {a : Act} {w : World} (h : R γ0 w0 N st a w) {n e s : Nat} {rows : List (List Leaf)} (hb : getB st n = some (.arr .ft e s rows)) : R γ0 w0 N (.blk n (.arr .nd e s rows) :: st) a w := by
  obtain ⟨η, γ, hI⟩ := h
  exact ⟨η, γ, hI.toNd hb⟩
theorem W.toNd (n : Nat) {e s : Nat} {rows : List (List Leaf)} (hb : getB st n = some (.arr .ft e s rows) := by exact evsP) (h : W Tryz.prog γ0 w0 N (.blk n (.arr .nd e s rows) :: st) c Q) : W Tryz.prog γ0 w0 N st c Q := fun a w hR => h a w (hR.toNd hb)
theorem At.toNd (n : Nat) {e s : Nat} {rows : List (List Leaf)} (hb : getB st n = some (.arr .ft e s rows) := by exact evsP) (h : At γ0 w0 N (.blk n (.arr .nd e s rows) :: st) x Q) : At γ0 w0 N st x Q := fun a w hR => h a w (hR.toNd hb)
end
end Go.Proofs.YtfgkfcfplodaoaaGreatDoor

end
