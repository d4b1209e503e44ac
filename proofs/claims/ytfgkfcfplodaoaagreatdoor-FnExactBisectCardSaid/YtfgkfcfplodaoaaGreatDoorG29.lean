/-
  Put together: PEvCu PEvNest PEvNc PEvBkS.
-/
import Derived.Test.YtfgkfcfplodaoaaGreatDoorG20
import Derived.Test.YtfgkfcfplodaoaaGreatDoorG9
import Derived.Test.YtfgkfcfplodaoaaGreatDoorG11
import Derived.Test.YtfgkfcfplodaoaaGreatDoorG26
import Derived.Test.YtfgkfcfplodaoaaGreatDoorHPEvBkL
section
/-!
  The cursor of the draws: what the functions that move it may answer.
-/
namespace Go.Proofs.YtfgkfcfplodaoaaGreatDoor
set_option maxRecDepth 100000
set_option linter.unusedVariables false
set_option linter.unusedSimpArgs false
open Go Go.RowKit
set_option maxHeartbeats 4000000

/-- a cursor: the code it stands on (as a value, and its bytes), where it stands, and its number -/
structure Cu where
  v : Value
  bs : List Nat
  i : Int
  h : Int
def cuL (c : Cu) : List PL := [.xl c.v (rowsF cU8 c.bs), .sc (.int .i64 c.i), .sc (.int .i64 c.h)]
def CuOk (c : Cu) : Prop := (∀ n ∈ c.bs, n < 256) ∧ 0 ≤ c.i ∧ c.i ≤ c.bs.length ∧ inI64 c.h ∧ c.bs.length ≤ 140737488355328
def CuTo (c c' : Cu) : Prop := c'.v = c.v ∧ c'.bs = c.bs ∧ CuOk c'
theorem cuL_ex (c : Cu) : (cuL c).all exB = true := rfl
theorem cuL_kept {c c' : Cu} (h : CuTo c c') : Kept (cuL c) (cuL c') := by
  obtain ⟨h1, h2, _⟩ := h
  intro l hl
  unfold cuL at hl ⊢
  rw [h1, h2] at hl
  simp only [List.mem_cons, List.not_mem_nil, or_false] at hl ⊢
  rcases hl with rfl | rfl | rfl
  · exact .inl (.inl rfl)
  · exact .inr ⟨_, rfl, rfl⟩
  · exact .inr ⟨_, rfl, rfl⟩
theorem CuTo.ok {c c' : Cu} (h : CuTo c c') : CuOk c' := h.2.2
theorem CuTo.refl {c : Cu} (h : CuOk c) : CuTo c c := ⟨rfl, rfl, h⟩
theorem CuTo.trans {c c' c'' : Cu} (h : CuTo c c') (h' : CuTo c' c'') : CuTo c c'' := ⟨h'.1.trans h.1, h'.2.1.trans h.2.1, h'.2.2⟩

/-- f moves the cursor at which its first argument points, and answers res a b to enc a, b so that rel a b -/
abbrev SoundCu (P : Program) (f : FuncId) {A B : Type} (ok : A → Prop) (enc : A → List Arg) (rel : A → B → Prop) (res : A → B → Res) : Prop :=
  SoundC P f (α := Cu × A) (β := Cu × B) (fun x => CuOk x.1 ∧ ok x.2) (fun x => cuL x.1) (fun x => enc x.2) (fun x y => CuTo x.1 y.1 ∧ rel x.2 y.2) (fun _ y => cuL y.1) (fun x y => res x.2 y.2)
/-- what such a function leaves -/
def PCu (w : World) (b : Nat) (k : Cu) {A B : Type} (rel : A → B → Prop) (res : A → B → Res) (a : A) : Ending → World → Prop := fun e w' => ∃ (y : Cu × B) (t' : TypeId), (CuTo k y.1 ∧ rel a y.2) ∧ Post (putO w b (.cells ((cuL y.1).map exV).toArray t' (0, 0))) (res a y.2) e w'
theorem SoundCu.of {P : Program} {N : Nat} {f : FuncId} {fn : Func} {c : Code} {A B : Type} {ok : A → Prop} {enc : A → List Arg} {rel : A → B → Prop} {res : A → B → Res}
    (hf : P.funcs[f]? = some fn) (hb : fn.body = some c) (hN : fn.ntmps = N)
    (h : ∀ (k : Cu) (a : A) b w, CuOk k → ok a → b < w.heap.size → (enc a).length + 1 ≤ N ∧
      W P (own1 b) w N (initC (cuL k) (enc a)) c (bodyPost P fn (PCu w b k rel res a))) : SoundCu P f ok enc rel res :=
  SoundC.of hf hb hN (fun x y _ hr => cuL_kept hr.1) fun x b w hok hB => h x.1 x.2 b w hok.1 hok.2 hB


/-! what the walks need -/
end Go.Proofs.YtfgkfcfplodaoaaGreatDoor

end
section
/-!
  Results whose data are not flat: they may speak of the arguments' memory; the caller owns nothing then.
-/
namespace Go.Proofs.YtfgkfcfplodaoaaGreatDoor
set_option maxRecDepth 100000
set_option linter.unusedVariables false
set_option linter.unusedSimpArgs false
open Go Go.RowKit
set_option linter.unusedVariables false

section
variable {P : Program} {Γ : Models} {γ0 : Nat → Option Nat} {w0 : World} {N : Nat} {st st' : St} {a : Act} {w : World} {η : Nat → Value} {γ γ' : Nat → Option Nat} {Q : Exit → Act → World → Prop}
def PostN (w : World) (r : Res) (e : Ending) (w' : World) : Prop :=
  ∃ u γ hdr, e = .returned u ∧ Below w.heap.size w w' ∧ (∀ b k, γ b = some k → w.heap.size ≤ b ∧ b < w'.heap.size ∧ AtR r hdr b k) ∧ RepR w.heap.size w' γ hdr r u
def SoundN (P : Program) (f : FuncId) (m : List Arg → Option Res) : Prop :=
  ∀ args r vs w, GlobOk none0 w → m args = some r → RepAs w args vs → Calls P f vs.toArray w (PostN w r)
theorem SoundN.of {f : FuncId} {fn : Func} {c : Code} {m : List Arg → Option Res} (hf : P.funcs[f]? = some fn) (hb : fn.body = some c) (hN : fn.ntmps = N)
    (h : ∀ args r w, m args = some r → args.length ≤ N ∧ W P none0 w N (initS 0 args) c (bodyPost P fn (PostN w r))) : SoundN P f m :=
  fun args r vs w hgl hm hargs => enter hf hb hN (h args r w hm).1 hargs hgl (h args r w hm).2
theorem SoundN.mdl {f : FuncId} {fn : Func} {c : Code} {α : Type} {ok : α → Prop} {enc : α → List Arg} {g : α → Res} (hf : P.funcs[f]? = some fn) (hb : fn.body = some c) (hN : fn.ntmps = N)
    (h : ∀ x w, ok x → (enc x).length ≤ N ∧ W P none0 w N (initS 0 (enc x)) c (bodyPost P fn (PostN w (g x)))) : SoundN P f (Go.Proofs.YtfgkfcfplodaoaaGreatDoor.mdl ok enc g) := by
  refine SoundN.of hf hb hN fun args r w hm => ?_
  unfold Go.Proofs.YtfgkfcfplodaoaaGreatDoor.mdl at hm
  split at hm
  · rename_i he
    cases hm
    obtain ⟨h1, h2⟩ := he.choose_spec
    have := h _ w h1
    rw [h2] at this
    exact this
  · cases hm
end
end Go.Proofs.YtfgkfcfplodaoaaGreatDoor

end
section
/-!
  Functions that move a cursor and whose results may speak of any memory but the cursor's: contracts, entering, leaving, calling.
-/
namespace Go.Proofs.YtfgkfcfplodaoaaGreatDoor
set_option maxRecDepth 100000
set_option linter.unusedVariables false
set_option linter.unusedSimpArgs false
open Go Go.RowKit
set_option linter.unusedVariables false

/-- what a function leaves whose results do not speak of the block c -/
def PostF (c : Nat) (w : World) (r : Res) (e : Ending) (w' : World) : Prop :=
  ∃ u γ hdr, e = .returned u ∧ Below w.heap.size w w' ∧ γ c ≠ none ∧ (∀ b k, b ≠ c → γ b = some k → w.heap.size ≤ b ∧ b < w'.heap.size ∧ AtR r hdr b k) ∧ RepR w.heap.size w' γ hdr r u
def SoundCN (P : Program) (f : FuncId) {α β : Type} (ok : α → Prop) (us : α → List PL) (enc : α → List Arg) (rel : α → β → Prop) (us' : α → β → List PL) (res : α → β → Res) : Prop :=
  (∀ x y, ok x → rel x y → Kept (us x) (us' x y)) ∧
  ∀ x b t vs w, ok x → GlobOk (own1 b) w → (∀ l ∈ us x, ExOk w (own1 b) l) → w.heap[b]? = some (.cells ((us x).map exV).toArray t (0, 0)) → RepDs w (own1 b) (enc x) vs →
    Calls P f (Value.pointer (some ⟨b, 0, none⟩) :: vs).toArray w fun e w' => ∃ y t', rel x y ∧ PostF b (putO w b (.cells ((us' x y).map exV).toArray t' (0, 0))) (res x y) e w'
section
variable {P : Program} {Γ : Models} {γ0 : Nat → Option Nat} {w0 : World} {N : Nat} {st st1 : St} {a : Act} {w : World} {η : Nat → Value} {γ : Nat → Option Nat} {Q : Exit → Act → World → Prop}
theorem SoundCN.of {f : FuncId} {fn : Func} {c : Code} {α β : Type} {ok : α → Prop} {us : α → List PL} {enc : α → List Arg} {rel : α → β → Prop} {us' : α → β → List PL} {res : α → β → Res}
    (hf : P.funcs[f]? = some fn) (hb : fn.body = some c) (hN : fn.ntmps = N)
    (hkept : ∀ x y, ok x → rel x y → Kept (us x) (us' x y))
    (h : ∀ x b w, ok x → b < w.heap.size → (enc x).length + 1 ≤ N ∧
      W P (own1 b) w N (initC (us x) (enc x)) c (bodyPost P fn fun e w' => ∃ y t', rel x y ∧ PostF b (putO w b (.cells ((us' x y).map exV).toArray t' (0, 0))) (res x y) e w')) : SoundCN P f ok us enc rel us' res := by
  refine ⟨hkept, ?_⟩
  intro x b t vs w hok hgl h1 hh hargs
  obtain ⟨hl, hW⟩ := h x b w hok (heap_lt hh)
  refine calls_of_wp hf hb (hW _ _ ⟨fun _ => .pointer (some ⟨b, 0, none⟩), own1 b, ?_⟩)
  have hsz : vs.length = (enc x).length := hargs.1
  refine { slots := fun k => ?_, blks := fun n b' hb' => ?_, live := fun k n hk => ?_, low := fun k _ hk => ⟨hk, rfl⟩, os := rfl, tape := rfl, output := rfl, size := Nat.le_refl _, defers := rfl, width := ?_, glob := hgl, pin := fun _ k ls hk _ => hk, pinA := PinA.no fun _ fl e s rows hb => (by simp [getB] at hb) }
  · show RepV _ _ _ _ (if 0 = k then one (.ptr 999 0) else getS (initS 1 (enc x)) k) _
    by_cases e : 0 = k
    · subst e
      rw [if_pos rfl]
      refine RepV.one_iff.2 ⟨us x, b, by simp [getB], rfl, ?_⟩
      show ((Value.pointer (some ⟨b, 0, none⟩) :: vs).toArray ++ Array.replicate (fn.ntmps - (Value.pointer (some ⟨b, 0, none⟩) :: vs).toArray.size) undef).getD 0 undef = _
      rw [Array.getD_eq_getD_getElem?, Array.getElem?_append_left (by simp)]
      simp
    · rw [if_neg e]
      refine initS_data (enc x) 1 (fun t => ((Value.pointer (some ⟨b, 0, none⟩) :: vs).toArray ++ Array.replicate (fn.ntmps - (Value.pointer (some ⟨b, 0, none⟩) :: vs).toArray.size) undef).getD t undef) (fun j y hj => ?_) k
      obtain ⟨v, k1, k2⟩ := hargs.2 j y hj
      have hlt : j < vs.length := (List.getElem?_eq_some_iff.1 k1).1
      have : ((Value.pointer (some ⟨b, 0, none⟩) :: vs).toArray ++ Array.replicate (fn.ntmps - (Value.pointer (some ⟨b, 0, none⟩) :: vs).toArray.size) undef).getD (1 + j) undef = v := by
        rw [Array.getD_eq_getD_getElem?, Array.getElem?_append_left (by simp; omega)]
        simp [Nat.add_comm 1 j, k1]
      rw [this]
      exact k2
  · simp only [getB] at hb'
    split at hb'
    · rename_i e
      cases hb'
      subst e
      exact ⟨b, ((us x).map exV).toArray, t, rfl, own1_same b, hh, by simpa using RepPs.ofExs h1⟩
    · rw [initS_blk] at hb'
      cases hb'
  · have hkb := own1_some hk
    subst hkb
    rw [own1_same] at hk
    cases hk
    exact ⟨heap_lt hh, .inl rfl, by simp [getB]⟩
  · simp
    omega

end
abbrev SoundCuN (P : Program) (f : FuncId) {A B : Type} (ok : A → Prop) (enc : A → List Arg) (rel : A → B → Prop) (res : A → B → Res) : Prop :=
  SoundCN P f (α := Cu × A) (β := Cu × B) (fun x => CuOk x.1 ∧ ok x.2) (fun x => cuL x.1) (fun x => enc x.2) (fun x y => CuTo x.1 y.1 ∧ rel x.2 y.2) (fun _ y => cuL y.1) (fun x y => res x.2 y.2)
def PCuN (w : World) (b : Nat) (k : Cu) {A B : Type} (rel : A → B → Prop) (res : A → B → Res) (a : A) : Ending → World → Prop := fun e w' => ∃ (y : Cu × B) (t' : TypeId), (CuTo k y.1 ∧ rel a y.2) ∧ PostF b (putO w b (.cells ((cuL y.1).map exV).toArray t' (0, 0))) (res a y.2) e w'
theorem SoundCuN.of {P : Program} {N : Nat} {f : FuncId} {fn : Func} {c : Code} {A B : Type} {ok : A → Prop} {enc : A → List Arg} {rel : A → B → Prop} {res : A → B → Res}
    (hf : P.funcs[f]? = some fn) (hb : fn.body = some c) (hN : fn.ntmps = N)
    (h : ∀ (k : Cu) (a : A) b w, CuOk k → ok a → b < w.heap.size → (enc a).length + 1 ≤ N ∧
      W P (own1 b) w N (initC (cuL k) (enc a)) c (bodyPost P fn (PCuN w b k rel res a))) : SoundCuN P f ok enc rel res :=
  SoundCN.of hf hb hN (fun x y _ hr => cuL_kept hr.1) fun x b w hok hB => h x.1 x.2 b w hok.1 hok.2 hB
/-! kinds of rows -/
section
variable {γ0 : Nat → Option Nat} {w0 : World} {N : Nat} {st : St} {Q : Exit → Act → World → Prop} {c : Code} {x : Exit}
theorem R.toNd {a : Act} {w : World} (h : R γ0 w0 N st a w) {n e s : Nat} {rows : List (List Leaf)} (hb : getB st n = some (.arr .ft e s rows)) : R γ0 w0 N (.blk n (.arr .nd e s rows) :: st) a w := by
  obtain ⟨η, γ, hI⟩ := h
  exact ⟨η, γ, hI.toNd hb⟩
theorem W.toNd (n : Nat) {e s : Nat} {rows : List (List Leaf)} (hb : getB st n = some (.arr .ft e s rows) := by exact evsP) (h : W Tryz.prog γ0 w0 N (.blk n (.arr .nd e s rows) :: st) c Q) : W Tryz.prog γ0 w0 N st c Q := fun a w hR => h a w (hR.toNd hb)
theorem At.toNd (n : Nat) {e s : Nat} {rows : List (List Leaf)} (hb : getB st n = some (.arr .ft e s rows) := by exact evsP) (h : At γ0 w0 N (.blk n (.arr .nd e s rows) :: st) x Q) : At γ0 w0 N st x Q := fun a w hR => h a w (hR.toNd hb)
end
end Go.Proofs.YtfgkfcfplodaoaaGreatDoor

end
section
/-!
  Rows of blocks in the law's own functions: measured, copied, compared.
-/
namespace Go.Proofs.YtfgkfcfplodaoaaGreatDoor
set_option maxRecDepth 100000
set_option linter.unusedVariables false
set_option linter.unusedSimpArgs false
open Go Go.RowKit
set_option maxHeartbeats 8000000
set_option linter.unusedVariables false
set_option linter.unusedSimpArgs false

abbrev bkZ : TBlock := ((0, 0, ByteArray.empty, ByteArray.empty, ByteArray.empty, ByteArray.empty), [], [], (0, 0, ByteArray.empty, []))
def bkSum (l : List TBlock) : Nat → Nat
  | 0 => 0
  | k + 1 => bkSum l k + totBk (l.getD k bkZ)
theorem bkSum_succ {l : List TBlock} {k : Nat} (h : k < l.length) : bkSum l (k + 1) = bkSum l k + totBk l[k] := by
  show bkSum l k + totBk (l.getD k bkZ) = _
  rw [List.getD_eq_getElem?_getD, List.getElem?_eq_getElem h, Option.getD_some]
theorem bkSum_mono (l : List TBlock) {i j : Nat} (h : i ≤ j) : bkSum l i ≤ bkSum l j := by
  induction h with
  | refl => exact Nat.le_refl _
  | @step m _ ih => exact Nat.le_trans ih (Nat.le_add_right _ _)
def totBS (l : List TBlock) : Nat := l.length + bkSum l l.length
abbrev okBSz (l : List TBlock) : Prop := l.length ≤ 9223372036854775807 ∧ ∀ b ∈ l, okBkZ b
theorem totBS_in {l : List TBlock} {b : TBlock} (h : b ∈ l) : totBk b ≤ totBS l := by
  obtain ⟨i, hi, rfl⟩ := List.getElem_of_mem h
  have h1 := bkSum_succ hi
  have h2 : bkSum l (i + 1) ≤ bkSum l l.length := bkSum_mono l (Nat.succ_le_of_lt hi)
  unfold totBS
  omega
abbrev aBSI (x : List TBlock × Int) : List Arg := [aBS x.1, aI x.2]
theorem aBSI_inj : ∀ x y, aBSI x = aBSI y → x = y := by
  rintro ⟨a, b⟩ ⟨d, e⟩ h
  simp only [aBSI, List.cons.injEq, and_true] at h
  have e1 := aBS_inj a d (by rw [h.1])
  have e2 : b = e := by simpa using h.2
  rw [e1, e2]
noncomputable def mSzBS := mdl (fun x : List TBlock × Int => okBSz x.1 ∧ leftE x.2) aBSI (fun x => rI (szE (totBS x.1) x.2))
theorem mSzBS_eq (l : List TBlock) (n : Int) (h1 : okBSz l) (h2 : leftE n) : mSzBS [aBS l, aI n] = some (rI (szE (totBS l) n)) := mdl_eq aBSI_inj (l, n) ⟨h1, h2⟩
theorem szBS_s : Sound Tryz.prog 27 mSzBS := by
  refine Sound.mdl Tryz.func27 rfl Tryz.ntmps27 ?_
  rintro ⟨l, n⟩ w ⟨⟨hl, hx⟩, n1, n2⟩
  refine ⟨by simp, ?_⟩
  dsimp only at hl hx n1 n2
  have hΓ : GSound Tryz.prog (look [(82, mSzBk)]) := env_cons (has_of Tryz.func82 rfl rfl) szBk_s env_nil
  have hlen := bkRows_len l
  have hx := Lib.hid hx
  simp only [initS, argPV, List.map_cons, List.map_nil, toPL, Nat.zero_add]
  by_cases b1 : (l.length : Int) ≤ n
  · repeat (first | refine zN ?_ | (refine zO ?_; (repeat (first | refine za hΓ ?_ | refine zb hΓ ?_ | refine zc ?_ | refine zd ?_)); refine zE ?_) | refine zT ?_ | refine zF ?_ | with_reducible apply At.blkX rfl)
    refine W.loopA (fun x : Nat × Int => x.1 ≤ l.length ∧ 0 ≤ x.2 ∧ x.2 = n - (l.length : Int) - ((bkSum l x.1 : Nat) : Int)) (fun x => [.slot 0 (one (.sl (bkRows l))), .slot 1 (vI x.2), .slot 5 (vI x.1)]) (fun x => l.length - x.1) (0, n - (l.length : Int)) ⟨Nat.zero_le _, by dsimp only; omega, by simp [bkSum]⟩ (h := ?_)
    rintro ⟨k, m⟩ ⟨hk, hm0, hI⟩
    dsimp only at hk hm0 hI ⊢
    by_cases hlt : k < l.length
    · have hrow := bkRows_get hlt
      have hsz := hx.out l[k] (List.getElem_mem hlt)
      have hs := bkSum_succ hlt
      have hm := bkSum_mono l (Nat.succ_le_of_lt hlt)
      have c1 := mSzBk_eq l[k] m hsz ⟨by omega, by omega⟩
      by_cases b2 : (totBk l[k] : Int) ≤ m
      · have hr : szE (totBk l[k]) m = m - totBk l[k] := if_pos b2
        rw [hr] at c1
        have hng : ¬ m - (totBk l[k] : Int) < 0 := by omega
        have hI2 : m - (totBk l[k] : Int) = n - (l.length : Int) - ((bkSum l (k + 1) : Nat) : Int) := by omega
        have hI2 := Lib.hid hI2
        clear hr hsz hs hm hI
        generalize totBk l[k] = T at *
        generalize l[k] = x at *
        obtain ⟨⟨h, t, la, va, ne, da⟩, x1, x2, ⟨ch, cr, ci, cs⟩⟩ := x
        dsimp only [aBk, bkRow] at c1 hrow
        repeat (first | refine zN ?_ | (refine zO ?_; (repeat (first | refine za hΓ ?_ | refine zb hΓ ?_ | refine zc ?_ | refine zd ?_)); refine zE ?_) | refine zT ?_ | refine zF ?_ | with_reducible apply At.blkX rfl)
        exact At.roundA (k + 1, m - (T : Int)) ⟨by dsimp only; omega, by dsimp only; omega, hI2.out⟩ (by dsimp only; omega)
      · have hr : szE (totBk l[k]) m = -1 := if_neg b2
        rw [hr] at c1
        have hr2 : szE (totBS l) n = -1 := if_neg (by unfold totBS; have hm : bkSum l (k + 1) ≤ bkSum l l.length := hm; omega)
        clear hr b2 hsz hs hm hI
        generalize l[k] = x at *
        obtain ⟨⟨h, t, la, va, ne, da⟩, x1, x2, ⟨ch, cr, ci, cs⟩⟩ := x
        dsimp only [aBk, bkRow] at c1 hrow
        repeat (first | refine zN ?_ | (refine zO ?_; (repeat (first | refine za hΓ ?_ | refine zb hΓ ?_ | refine zc ?_ | refine zd ?_)); refine zE ?_) | refine zT ?_ | refine zF ?_ | with_reducible apply At.blkX rfl)
        refine At.retA (by rw [Tryz.results27]) (he := ?_)
        rw [hr2]
    · have hke : k = l.length := by omega
      subst hke
      have hr2 : szE (totBS l) n = m := by unfold szE totBS; rw [if_pos (by omega)]; omega
      clear hI
      repeat (first | refine zN ?_ | (refine zO ?_; (repeat (first | refine za hΓ ?_ | refine zb hΓ ?_ | refine zc ?_ | refine zd ?_)); refine zE ?_) | refine zT ?_ | refine zF ?_ | with_reducible apply At.blkX rfl)
      refine At.retA (by rw [Tryz.results27]) (he := ?_)
      rw [hr2]
  · have hr : szE (totBS l) n = -1 := if_neg (by unfold totBS; omega)
    repeat (first | refine zN ?_ | (refine zO ?_; (repeat (first | refine za hΓ ?_ | refine zb hΓ ?_ | refine zc ?_ | refine zd ?_)); refine zE ?_) | refine zT ?_ | refine zF ?_ | with_reducible apply At.blkX rfl)
    refine At.retA (by rw [Tryz.results27]) (he := ?_)
    rw [hr]
abbrev okBl (l : List TBlock) : Prop := l.length ≤ 1048576 ∧ ∀ b ∈ l, okBkS b
abbrev zBkL : List Leaf := [.sc (.int .i64 0), .sc (.int .i64 0), .sc (.string ByteArray.empty), .sc (.string ByteArray.empty), .sc (.string ByteArray.empty), .sc (.string ByteArray.empty), .sc (.slice none 0 0), .sc (.slice none 0 0), .sc (.int .i64 0), .sc (.int .i64 0), .sc (.string ByteArray.empty), .sc (.slice none 0 0)]
abbrev rBN (l : List TBlock) : Res := .comp false [.own .nd 36 12 (bkRows l)]
noncomputable def mToBS := mdl okBl (fun l => [aBS l]) rBN
theorem mToBS_eq (l : List TBlock) (h : okBl l) : mToBS [aBS l] = some (rBN l) := mdl_eq aBS_inj l h
theorem toBS_s : Sound Tryz.prog 30 mToBS := by
  refine Sound.mdl Tryz.func30 rfl Tryz.ntmps30 ?_
  rintro l w ⟨hl, hel⟩
  refine ⟨by simp, ?_⟩
  have hΓ : GSound Tryz.prog (look [(85, mToBk)]) := env_cons (has_of Tryz.func85 rfl rfl) toBk_s env_nil
  have hlen := bkRows_len l
  have hz : List.replicate l.length zBkL = padE zBkL bkRow l 0 := (padE_zero _ _ _).symm
  simp only [initS, argPV, List.map_cons, List.map_nil, toPL, Nat.zero_add]
  repeat (first | refine zN ?_ | (refine zO ?_; (repeat (first | refine za hΓ ?_ | refine zb hΓ ?_ | refine zc ?_ | refine zd ?_)); refine zE ?_) | refine zT ?_ | refine zF ?_ | with_reducible apply At.blkX rfl)
  refine W.toNd 7 (h := ?_)
  refine W.loopA (fun k => k ≤ l.length) (fun k : Nat => [.slot 4 (vI k), .slot 0 (one (.sl (bkRows l))), .slot 3 (one (.all 7)), .blk 7 (.arr .nd 36 12 (padE zBkL bkRow l k))]) (fun k => l.length - k) 0 (Nat.zero_le _) (h := ?_)
  rintro k hk
  clear hz
  have hpl := padE_len zBkL bkRow l hk
  by_cases hlt : k < l.length
  · have hrow := bkRows_get hlt
    have hset : (padE zBkL bkRow l k).set k (bkRow l[k]) = padE zBkL bkRow l (k + 1) := padE_set _ _ l hlt
    have hold : (padE zBkL bkRow l k)[k]? = some zBkL := padE_get zBkL bkRow l hlt
    have c := mToBk_eq l[k] (hel _ (List.getElem_mem hlt))
    generalize l[k] = x at *
    obtain ⟨⟨h, t, la, va, ne, da⟩, x1, x2, ⟨ch, cr, ci, cs⟩⟩ := x
    dsimp only [aBk, rowsBk, bkRow, zBkL] at c hrow hset hold
    repeat (first | refine zN ?_ | (refine zO ?_; (repeat (first | refine za hΓ ?_ | refine zb hΓ ?_ | refine zc ?_ | refine zd ?_)); refine zE ?_) | refine zT ?_ | refine zF ?_ | with_reducible apply At.blkX rfl)
    exact At.roundA (k + 1) (by omega) (by omega)
  · have hke : k = l.length := by omega
    subst hke
    have hall := padE_all zBkL bkRow l
    repeat (first | refine zN ?_ | (refine zO ?_; (repeat (first | refine za hΓ ?_ | refine zb hΓ ?_ | refine zc ?_ | refine zd ?_)); refine zE ?_) | refine zT ?_ | refine zF ?_ | with_reducible apply At.blkX rfl)
    refine At.retA (by rw [Tryz.results30]) (he := ?_)
    first | rfl | (rw [hall]; rfl)
abbrev okBSc (l : List TBlock) : Prop := l.length ≤ 8796093022207 ∧ ∀ b ∈ l, okBk b
noncomputable def mEqBS := mdl (fun x : List TBlock × List TBlock => okBSc x.1 ∧ okBSc x.2) (fun x => [aBS x.1, aBS x.2]) (fun x => rB (decide (x.1 = x.2)))
theorem mEqBS_eq (a b : List TBlock) (h1 : okBSc a) (h2 : okBSc b) : mEqBS [aBS a, aBS b] = some (rB (decide (a = b))) := mdl_eq (by
  rintro ⟨a, b⟩ ⟨d, e⟩ h
  simp only [List.cons.injEq, and_true] at h
  have e1 := aBS_inj a d (by rw [h.1])
  have e2 := aBS_inj b e (by rw [h.2])
  rw [e1, e2]) (a, b) ⟨h1, h2⟩
theorem eqBS_s : Sound Tryz.prog 33 mEqBS := by
  refine Sound.mdl Tryz.func33 rfl Tryz.ntmps33 ?_
  rintro ⟨a, b⟩ w ⟨⟨ha, hae⟩, ⟨hb, hbe⟩⟩
  refine ⟨by simp, ?_⟩
  dsimp only at ha hb hae hbe
  have hΓ : GSound Tryz.prog (look [(88, mEqBk)]) := env_cons (has_of Tryz.func88 rfl rfl) eqBk_s env_nil
  have hla := bkRows_len a
  have hlb0 := bkRows_len b
  simp only [initS, argPV, List.map_cons, List.map_nil, toPL, Nat.zero_add]
  by_cases hl : a.length = b.length
  · have hli : ((a.length : Nat) : Int) = ((b.length : Nat) : Int) := by omega
    repeat (first | refine zN ?_ | (refine zO ?_; (repeat (first | refine za hΓ ?_ | refine zb hΓ ?_ | refine zc ?_ | refine zd ?_)); refine zE ?_) | refine zT ?_ | refine zF ?_ | with_reducible apply At.blkX rfl)
    refine W.loopA (fun k => k ≤ a.length ∧ SameK a b k) (fun k : Nat => [.slot 5 (vI k), .slot 0 (one (.sl (bkRows a))), .slot 1 (one (.sl (bkRows b)))]) (fun k => a.length - k) 0 ⟨Nat.zero_le _, fun j hj => by omega⟩ (h := ?_)
    rintro k ⟨hk, hS⟩
    have hS := Lib.hid hS
    by_cases hlt : k < a.length
    · have hlb : k < b.length := by omega
      have hra := bkRows_get hlt
      have hrb := bkRows_get hlb
      have c := mEqBk_eq a[k] b[k] (hae _ (List.getElem_mem hlt)) (hbe _ (List.getElem_mem hlb))
      by_cases he : a[k] = b[k]
      · have hn := hS.out.next hlt hlb he
        have hn := Lib.hid hn
        rw [decide_eq_true he] at c
        clear he hS hl
        generalize a[k] = x at *
        generalize b[k] = y at *
        obtain ⟨⟨h, t, la, va, ne, da⟩, x1, x2, ⟨ch, cr, ci, cs⟩⟩ := x
        obtain ⟨⟨h', t', la', va', ne', da'⟩, y1, y2, ⟨ch', cr', ci', cs'⟩⟩ := y
        dsimp only [aBk, bkRow] at c hra hrb
        repeat (first | refine zN ?_ | (refine zO ?_; (repeat (first | refine za hΓ ?_ | refine zb hΓ ?_ | refine zc ?_ | refine zd ?_)); refine zE ?_) | refine zT ?_ | refine zF ?_ | with_reducible apply At.blkX rfl)
        refine W.drawB hΓ 10 [[], [], [0, 1], [0, 1, 2], [], [], [4, 5], [4, 5, 6], [0, 1, 2, 3, 4, 5, 6, 7], [0, 1, 2, 3, 4, 5, 6, 7, 8]] (Es := ?Es21) (rest := ?rest21) (st1 := ?st121) ?_
        (repeat (first | refine za hΓ ?_ | refine zb hΓ ?_ | refine zc ?_ | refine zd ?_))
        refine zE ?_
        repeat (first | refine zN ?_ | (refine zO ?_; (repeat (first | refine za hΓ ?_ | refine zb hΓ ?_ | refine zc ?_ | refine zd ?_)); refine zE ?_) | refine zT ?_ | refine zF ?_ | with_reducible apply At.blkX rfl)
        exact At.roundA (k + 1) ⟨by omega, hn.out⟩ (by omega)
      · have hne := decide_eq_false (ne_at hlt hlb he)
        rw [decide_eq_false he] at c
        clear he hS hl
        generalize a[k] = x at *
        generalize b[k] = y at *
        obtain ⟨⟨h, t, la, va, ne, da⟩, x1, x2, ⟨ch, cr, ci, cs⟩⟩ := x
        obtain ⟨⟨h', t', la', va', ne', da'⟩, y1, y2, ⟨ch', cr', ci', cs'⟩⟩ := y
        dsimp only [aBk, bkRow] at c hra hrb
        repeat (first | refine zN ?_ | (refine zO ?_; (repeat (first | refine za hΓ ?_ | refine zb hΓ ?_ | refine zc ?_ | refine zd ?_)); refine zE ?_) | refine zT ?_ | refine zF ?_ | with_reducible apply At.blkX rfl)
        refine W.drawB hΓ 10 [[], [], [0, 1], [0, 1, 2], [], [], [4, 5], [4, 5, 6], [0, 1, 2, 3, 4, 5, 6, 7], [0, 1, 2, 3, 4, 5, 6, 7, 8]] (Es := ?Es24) (rest := ?rest24) (st1 := ?st124) ?_
        (repeat (first | refine za hΓ ?_ | refine zb hΓ ?_ | refine zc ?_ | refine zd ?_))
        refine zE ?_
        repeat (first | refine zN ?_ | (refine zO ?_; (repeat (first | refine za hΓ ?_ | refine zb hΓ ?_ | refine zc ?_ | refine zd ?_)); refine zE ?_) | refine zT ?_ | refine zF ?_ | with_reducible apply At.blkX rfl)
        refine At.retA (by rw [Tryz.results33]) (he := ?_)
        simp only [hne]
    · have hke : k = a.length := by omega
      have hE : a = b := by rw [hke] at hS; exact hS.out.all hl
      have hE := Lib.hid (decide_eq_true hE)
      clear hl hli
      repeat (first | refine zN ?_ | (refine zO ?_; (repeat (first | refine za hΓ ?_ | refine zb hΓ ?_ | refine zc ?_ | refine zd ?_)); refine zE ?_) | refine zT ?_ | refine zF ?_ | with_reducible apply At.blkX rfl)
      refine At.retA (by rw [Tryz.results33]) (he := ?_)
      rw [hE.out]
  · have hli : ¬ ((a.length : Nat) : Int) = ((b.length : Nat) : Int) := by omega
    have hne : decide (a = b) = false := decide_eq_false fun h => hl (by rw [h])
    clear hl
    repeat (first | refine zN ?_ | (refine zO ?_; (repeat (first | refine za hΓ ?_ | refine zb hΓ ?_ | refine zc ?_ | refine zd ?_)); refine zE ?_) | refine zT ?_ | refine zF ?_ | with_reducible apply At.blkX rfl)
    refine At.retA (by rw [Tryz.results33]) (he := ?_)
    simp only [hne]
end Go.Proofs.YtfgkfcfplodaoaaGreatDoor

end
