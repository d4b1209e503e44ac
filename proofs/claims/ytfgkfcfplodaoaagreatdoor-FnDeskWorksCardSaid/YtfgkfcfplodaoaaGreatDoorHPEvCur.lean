
import Derived.Test.YtfgkfcfplodaoaaGreatDoorHPEvLate
set_option linter.unusedSimpArgs false
set_option linter.unusedVariables false
set_option maxRecDepth 100000
namespace Go.Proofs.YtfgkfcfplodaoaaGreatDoor
open Go Go.RowKit
def own1 (b : Nat) : Nat → Option Nat := fun k => if k = b then some 999 else none
theorem own1_same (b : Nat) : own1 b b = some 999 := if_pos rfl
theorem own1_other {b k : Nat} (h : k ≠ b) : own1 b k = none := if_neg h
theorem own1_none {b k : Nat} (h : own1 b k = none) : k ≠ b := fun e => by rw [e, own1_same] at h; cases h
theorem own1_some {b k n : Nat} (h : own1 b k = some n) : k = b := by
  by_cases e : k = b
  · exact e
  · rw [own1_other e] at h; cases h
def putO (w : World) (g : Nat) (o : Obj) : World := { w with heap := w.heap.setIfInBounds g o }
theorem putO_size (w : World) (g : Nat) (o : Obj) : (putO w g o).heap.size = w.heap.size := by simp [putO]
theorem putO_same {w : World} {g : Nat} (o : Obj) (h : g < w.heap.size) : (putO w g o).heap[g]? = some o := by simp [putO, h]
theorem putO_other {w : World} {g k : Nat} (o : Obj) (h : k ≠ g) : (putO w g o).heap[k]? = w.heap[k]? := by
  simp only [putO]
  rw [Array.getElem?_setIfInBounds_ne (fun e => h e.symm)]
def RepD (w : World) (γ : Nat → Option Nat) : Arg → Value → Prop
  | .val true ls, u => ∃ us : List Value, u = .agg us.toArray ∧ RepLs w γ ls us
  | .val false ls, u => ∃ l, ls = [l] ∧ RepL w γ l u
  | _, _ => False
def RepDs (w : World) (γ : Nat → Option Nat) (args : List Arg) (vs : List Value) : Prop := vs.length = args.length ∧ ∀ (j : Nat) (x : Arg), args[j]? = some x → ∃ v, vs[j]? = some v ∧ RepD w γ x v
def exB : PL → Bool
  | .sc _ => true
  | .xl _ _ => true
  | _ => false
def exV : PL → Value
  | .sc v => v
  | .xl v _ => v
  | _ => undef
def ExOk (w : World) (γ : Nat → Option Nat) : PL → Prop
  | .sc v => v.oneCell' = true
  | .xl v rows => RepL w γ (.sl rows) v
  | _ => False
theorem rep_ex {hb : Nat → Option Blk} {η : Nat → Value} {γ : Nat → Option Nat} {w : World} {l : PL} {u : Value} (hl : exB l = true) (h : RepP hb η γ w l u) : u = exV l ∧ ExOk w γ l := by
  cases l with
  | sc v => exact h
  | xl v rows => exact ⟨h.1, h.1 ▸ h.2⟩
  | _ => cases hl
theorem ex_rep {hb : Nat → Option Blk} {η : Nat → Value} {γ : Nat → Option Nat} {w : World} {l : PL} (h : ExOk w γ l) : RepP hb η γ w l (exV l) := by
  cases l with
  | sc v => exact ⟨rfl, h⟩
  | xl v rows => exact ⟨rfl, h⟩
  | _ => exact h.elim
theorem ExOk.kp {w w' : World} {γ γ' : Nat → Option Nat} (hk : Kp w w' γ γ') {l : PL} (h : ExOk w γ l) : ExOk w' γ' l := by
  cases l with
  | sc v => exact h
  | xl v rows => exact RepL.kp hk h
  | _ => exact h.elim
def Kept (ls ls' : List PL) : Prop := ∀ l ∈ ls', l ∈ ls ∨ ∃ v : Value, l = .sc v ∧ v.oneCell' = true
theorem Kept.ok {w : World} {γ : Nat → Option Nat} {ls ls' : List PL} (h : Kept ls ls') (h1 : ∀ l ∈ ls, ExOk w γ l) : ∀ l ∈ ls', ExOk w γ l := fun l hl => by
  rcases h l hl with h | ⟨v, rfl, hv⟩
  · exact h1 l h
  · exact hv
def SoundC (P : Program) (f : FuncId) {α β : Type} (ok : α → Prop) (us : α → List PL) (enc : α → List Arg) (rel : α → β → Prop) (us' : α → β → List PL) (res : α → β → Res) : Prop :=
  (∀ x y, ok x → rel x y → Kept (us x) (us' x y)) ∧
  ∀ x b t vs w, ok x → GlobOk (own1 b) w → (∀ l ∈ us x, ExOk w (own1 b) l) → w.heap[b]? = some (.cells ((us x).map exV).toArray t (0, 0)) → RepDs w (own1 b) (enc x) vs →
    Calls P f (Value.pointer (some ⟨b, 0, none⟩) :: vs).toArray w fun e w' => ∃ y t', rel x y ∧ Post (putO w b (.cells ((us' x y).map exV).toArray t' (0, 0))) (res x y) e w'
def SoundR (P : Program) (f : FuncId) {α β : Type} (ok : α → Prop) (enc : α → List Arg) (rel : α → β → Prop) (res : α → β → Res) : Prop :=
  ∀ x vs w, ok x → GlobOk none0 w → RepAs w (enc x) vs → Calls P f vs.toArray w fun e w' => ∃ y, rel x y ∧ Post w (res x y) e w'
def SoundB (P : Program) (f : FuncId) {α β : Type} (ok : α → Prop) (ins : α → List PL) (rel : α → β → Prop) (us' : α → β → List PL) : Prop :=
  (∀ x y, ok x → rel x y → Kept (ins x) (us' x y)) ∧
  ∀ x w, ok x → GlobOk none0 w → (∀ l ∈ ins x, ExOk w none0 l) →
    Calls P f ((ins x).map exV).toArray w fun e w' => ∃ y b t, rel x y ∧ e = .returned (.pointer (some ⟨b, 0, none⟩)) ∧ Below w.heap.size w w' ∧ w.heap.size ≤ b ∧ w'.heap[b]? = some (.cells ((us' x y).map exV).toArray t (0, 0))
section
variable {P : Program} {Γ : Models} {γ0 : Nat → Option Nat} {w0 : World} {N : Nat} {st st1 : St} {a : Act} {w : World} {η : Nat → Value} {γ : Nat → Option Nat} {Q : Exit → Act → World → Prop}
theorem Inv.turnO (h : Inv γ0 w0 N st a w η γ) (n : Nat) (ls0 ls1 : List PL) (hb0 : getB st n = some (.box ls0)) (g : Nat) (hg : γ g = some n) (o : Obj)
    (hB : Nm (getB st) (getB (.blk n (.box ls1) :: st)) η η (fun _ => True) → Kp w (putO w g o) γ γ → RepB (getB (.blk n (.box ls1) :: st)) η γ (putO w g o) n (.box ls1)) :
    Inv γ0 w0 N (.blk n (.box ls1) :: st) a (putO w g o) η γ := by
  have hold : ∀ k, k ≠ g → (putO w g o).heap[k]? = w.heap[k]? := fun k hk => putO_other o hk
  have hk : Kp w (putO w g o) γ γ := ⟨by rw [putO_size]; exact Nat.le_refl _, fun k hk hgk => ⟨hgk, hold k (fun e => by rw [e, hg] at hgk; cases hgk)⟩⟩
  have hget : ∀ m, m ≠ n → getB (.blk n (.box ls1) :: st) m = getB st m := fun m hm => if_neg (fun e => hm e.symm)
  have hn : Nm (getB st) (getB (.blk n (.box ls1) :: st)) η η (fun _ => True) := by
    intro m b' _ hb
    refine ⟨rfl, ?_⟩
    by_cases hm : m = n
    · subst hm
      rw [hb0] at hb
      cases hb
      exact ⟨ls1, if_pos rfl⟩
    · cases b' with
      | arr fl e s rows => exact ⟨fl, rows, by rw [hget m hm]; exact hb, rfl⟩
      | box ls => exact ⟨ls, by rw [hget m hm]; exact hb⟩
  have hB := hB hn hk
  have hgm : ∀ m b0, m ≠ n → γ b0 = some m → γ b0 = some m ∧ (putO w g o).heap[b0]? = w.heap[b0]? := fun m b0 hm hb0 => ⟨hb0, hold b0 (fun e => by rw [e, hg] at hb0; cases hb0; exact hm rfl)⟩
  refine { h with slots := fun t => (h.slots t).kp hn hk, blks := fun m b' hb => ?_, live := fun b0 m hb => ?_, low := fun b0 hb hg0 => ?_, size := by have := h.size; rw [putO_size]; omega, os := h.os, tape := h.tape, output := h.output, pin := fun h9 b2 ls hb hbx => ?_, pinA := h.pinA.to fun h9 fl e s rows hbx => ⟨rfl, fl, rows, ?_, rfl⟩ }
  · by_cases hm : m = n
    · subst hm
      rw [getB_hit] at hb
      cases hb
      exact hB
    · rw [hget m hm] at hb
      have h1 := h.blks m b' hb
      cases b' with
      | box ls => exact RepB.kp_box hn hk h1 rfl (hgm m · hm)
      | arr fl e s rows => exact RepB.kp_arr hk h1 rfl (hgm m · hm)
  · obtain ⟨h1, h2, h3⟩ := h.live b0 m hb
    refine ⟨by rw [putO_size]; omega, h2.imp id fun h2 => ?_, ?_⟩
    · by_cases hm : m = n
      · subst hm
        rw [hb0] at h2
        cases h2
      · rw [hget m hm]; exact h2
    · by_cases hm : m = n
      · subst hm; simp [getB]
      · rw [hget m hm]; exact h3
  · obtain ⟨h1, h2⟩ := h.low b0 hb hg0
    exact ⟨h1, by rw [hold b0 (fun e => by rw [e, hg] at h1; cases h1)]; exact h2⟩
  · by_cases hm : (999 : Nat) = n
    · subst hm
      exact h.pin h9 b2 ls0 hb hb0
    · rw [hget 999 hm] at hbx
      exact h.pin h9 b2 ls hb hbx
  · by_cases hm : (999 : Nat) = n
    · subst hm
      rw [getB_hit] at hbx
      cases hbx
    · rw [hget 999 hm] at hbx
      exact hbx
def dataO (st : St) (n : Nat) : PV → Option Arg
  | .comp g ls => if g = true ∨ ls.length = 1 then (if ls.all (fun l => !l.names n) = true then (leafsO st ls).map (.val g) else none) else none
  | _ => none
def datasO (st : St) (n : Nat) : List Operand → Option (List Arg)
  | [] => some []
  | x :: r => match dataO st n (ev st x), datasO st n r with
    | some a, some b => some (a :: b)
    | _, _ => none
theorem dataO_sound (h : Inv γ0 w0 N st a w η γ) {n b : Nat} (hb : γ b = some n) {x : PV} {u : Value} {r : Arg} (hx : RepV (getB st) η γ w x u) (hr : dataO st n x = some r) : RepD w (own1 b) r u := by
  have hk : ∀ k, γ k = none → own1 b k = none := fun k hk => own1_other (fun e => by rw [e, hb] at hk; cases hk)
  have hg : ∀ (ls : List PL), ls.all (fun l => !l.names n) = true → ∀ k m, γ k = some m → (∃ l ∈ ls, l = .all m ∨ ∃ o q, l = .ref m o q) → own1 b k = none := by
    intro ls hall k m hm ⟨l, hl, he⟩
    have h1 := List.all_eq_true.1 hall l hl
    refine own1_other (fun e => ?_)
    rw [e, hb] at hm
    cases hm
    rcases he with rfl | ⟨o, q, rfl⟩ <;> simp [PL.names] at h1
  unfold dataO at hr
  split at hr
  · rename_i g ls
    split at hr
    · rename_i hc
      split at hr
      · rename_i hall
        obtain ⟨xs, h1, rfl⟩ := Option.map_eq_some_iff.1 hr
        cases g with
        | true =>
          obtain ⟨us, rfl, h2⟩ := hx
          exact ⟨us, rfl, leafsO_sound h hk (hg ls hall) h2 h1⟩
        | false =>
          obtain ⟨l, rfl, h2⟩ := hx
          unfold leafsO at h1
          split at h1
          · rename_i x y e1 e2
            cases h1
            simp only [leafsO, Option.some.injEq] at e2
            subst e2
            exact ⟨x, rfl, leafO_sound h hk (fun k m hm he => hg [l] hall k m hm ⟨l, List.mem_cons_self, he⟩) h2 e1⟩
          · cases h1
      · cases hr
    · cases hr
  · cases hr
theorem datasO_sound (h : Inv γ0 w0 N st a w η γ) {n b : Nat} (hb : γ b = some n) : ∀ {xs : List Operand} {rs : List Arg} (_ : datasO st n xs = some rs), RepDs w (own1 b) rs (xs.map a.eval)
  | [], rs, hr => by
    simp only [datasO, Option.some.injEq] at hr
    subst hr
    exact ⟨rfl, fun j x hj => by simp at hj⟩
  | x :: r, rs, hr => by
    unfold datasO at hr
    split at hr
    · rename_i y z h1 h2
      cases hr
      obtain ⟨h3, h4⟩ := datasO_sound h hb h2
      refine ⟨by simpa using h3, fun j k hj => ?_⟩
      cases j with
      | zero =>
        simp only [List.getElem?_cons_zero, Option.some.injEq] at hj
        subst hj
        exact ⟨_, rfl, dataO_sound h hb (ev_sound h x) h1⟩
      | succ j =>
        obtain ⟨v, h5, h6⟩ := h4 j k (by simpa using hj)
        exact ⟨v, by simpa using h5, h6⟩
    · cases hr
theorem RepPs.exs {hb : Nat → Option Blk} {us : List PL} {vs : List Value} (he : us.all exB = true) (h : RepPs hb η γ w us vs) : vs = us.map exV ∧ ∀ l ∈ us, ExOk w γ l := by
  obtain ⟨h1, h2⟩ := h
  have key : ∀ j (l : PL), us[j]? = some l → vs[j]? = some (exV l) ∧ ExOk w γ l := fun j l hj => by
    obtain ⟨u, h3, h4⟩ := h2 j l hj
    obtain ⟨h5, h6⟩ := rep_ex (List.all_eq_true.1 he l (List.mem_of_getElem? hj)) h4
    exact ⟨by rw [h3, h5], h6⟩
  refine ⟨List.ext_getElem? fun j => ?_, fun v hv => ?_⟩
  · rw [List.getElem?_map]
    cases hj : us[j]? with
    | some l => exact (key j l hj).1
    | none =>
      rw [List.getElem?_eq_none_iff] at hj
      rw [Option.map_none, List.getElem?_eq_none_iff]
      omega
  · obtain ⟨j, hj⟩ := List.mem_iff_getElem?.1 hv
    exact (key j v hj).2
theorem RepPs.ofExs {hb : Nat → Option Blk} {us : List PL} (h : ∀ l ∈ us, ExOk w γ l) : RepPs hb η γ w us (us.map exV) := by
  refine ⟨by simp, fun j l hj => ?_⟩
  exact ⟨exV l, by rw [List.getElem?_map, hj]; rfl, ex_rep (h l (List.mem_of_getElem? hj))⟩
theorem enter_of {P : Program} {f : FuncId} (hf : Has P f) {a : Act} {w : World} {args : List Operand} {ts : Array TypeId} {dst : Option Tmp} {ty : TypeId} {pos : String} {after : Array Edge} {g : Option (Nat × Bool)} :
    (execOp a.eval ⟨dst, .call ⟨.value (.func f), args.toArray, ts⟩, ty, pos, after, g⟩).run P w = .ok (.enter f (args.map a.eval).toArray) w := by
  obtain ⟨fn, hf1, hf2, hf3⟩ := hf
  unfold execOp
  have hf2' : ¬ fn.name = "runtime.NumGoroutine" := by simpa using hf2
  have hf3' : ¬ fn.body = none := fun e => by rw [e] at hf3; cases hf3
  simp [resolve, Act.eval, Deferred.ofValue, invoke, callFunc, hf1, hf2', hf3', program, Sem.run]
def exactO (st : St) : List Operand → Option (List PL)
  | [] => some []
  | x :: r => match ev st x, exactO st r with
    | .comp false [l], some b => if exB l = true then some (l :: b) else none
    | _, _ => none
theorem argPV_data {x : Arg} {u : Value} {hb : Nat → Option Blk} (h : RepD w γ x u) : RepV hb η γ w (argPV x) u := by
  cases x with
  | val g ls =>
    cases g with
    | true =>
      obtain ⟨us, rfl, h1⟩ := h
      exact ⟨us, rfl, toPLs_sound h1⟩
    | false =>
      obtain ⟨l, rfl, h1⟩ := h
      exact ⟨toPL l, rfl, toPL_sound h1⟩
  | row cells off => exact h.elim
  | clo f boxes => exact h.elim
theorem initS_data {hb : Nat → Option Blk} : ∀ (args : List Arg) (i : Nat) (f : Nat → Value) (_ : ∀ (j : Nat) (x : Arg), args[j]? = some x → RepD w γ x (f (i + j))) (t : Nat), RepV hb η γ w (getS (initS i args) t) (f t)
  | [], i, f, h, t => RepV.one_iff.2 trivial
  | x :: r, i, f, h, t => by
    show RepV hb η γ w (if i = t then argPV x else getS (initS (i + 1) r) t) (f t)
    by_cases e : i = t
    · subst e
      rw [if_pos rfl]
      exact argPV_data (h 0 x rfl)
    · rw [if_neg e]
      exact initS_data r (i + 1) f (fun j y hj => by
        have := h (j + 1) y (by simpa using hj)
        rw [show i + 1 + j = i + (j + 1) by omega]
        exact this) t
abbrev initC (us : List PL) (args : List Arg) : St := .slot 0 (one (.ptr 999 0)) :: .blk 999 (.box us) :: initS 1 args
theorem SoundC.of {f : FuncId} {fn : Func} {c : Code} {α β : Type} {ok : α → Prop} {us : α → List PL} {enc : α → List Arg} {rel : α → β → Prop} {us' : α → β → List PL} {res : α → β → Res}
    (hf : P.funcs[f]? = some fn) (hb : fn.body = some c) (hN : fn.ntmps = N)
    (hkept : ∀ x y, ok x → rel x y → Kept (us x) (us' x y))
    (h : ∀ x b w, ok x → b < w.heap.size → (enc x).length + 1 ≤ N ∧
      W P (own1 b) w N (initC (us x) (enc x)) c (bodyPost P fn fun e w' => ∃ y t', rel x y ∧ Post (putO w b (.cells ((us' x y).map exV).toArray t' (0, 0))) (res x y) e w')) : SoundC P f ok us enc rel us' res := by
  refine ⟨hkept, ?_⟩
  intro x b t vs w hok hgl h1 hh hargs
  obtain ⟨hl, hW⟩ := h x b w hok (heap_lt hh)
  refine calls_of_wp hf hb (hW _ _ ⟨fun _ => .pointer (some ⟨b, 0, none⟩), own1 b, ?_⟩)
  have hsz : vs.length = (enc x).length := hargs.1
  refine { slots := fun k => ?_, blks := fun n b' hb' => ?_, live := fun k n hk => ?_, low := fun k _ hk => ⟨hk, rfl⟩, os := rfl, tape := rfl, output := rfl, size := Nat.le_refl _, defers := rfl, width := ?_, glob := hgl, pin := fun _ k ls hk _ => hk, pinA := PinA.no fun _ fl e s rows hb => (by simp [getB] at hb) }
  · show RepV _ _ _ _ (if 0 = k then one (.ptr 999 0) else getS (initS 1 (enc x)) k) _
    by_cases e : 0 = k
    · subst e
      rw [if_pos rfl]
      refine RepV.one_iff.2 ⟨us x, b, by simp [getB], rfl, ?_⟩
      show ((Value.pointer (some ⟨b, 0, none⟩) :: vs).toArray ++ Array.replicate (fn.ntmps - (Value.pointer (some ⟨b, 0, none⟩) :: vs).toArray.size) undef).getD 0 undef = _
      rw [Array.getD_eq_getD_getElem?, Array.getElem?_append_left (by simp)]
      simp
    · rw [if_neg e]
      refine initS_data (enc x) 1 (fun t => ((Value.pointer (some ⟨b, 0, none⟩) :: vs).toArray ++ Array.replicate (fn.ntmps - (Value.pointer (some ⟨b, 0, none⟩) :: vs).toArray.size) undef).getD t undef) (fun j y hj => ?_) k
      obtain ⟨v, k1, k2⟩ := hargs.2 j y hj
      have hlt : j < vs.length := (List.getElem?_eq_some_iff.1 k1).1
      have : ((Value.pointer (some ⟨b, 0, none⟩) :: vs).toArray ++ Array.replicate (fn.ntmps - (Value.pointer (some ⟨b, 0, none⟩) :: vs).toArray.size) undef).getD (1 + j) undef = v := by
        rw [Array.getD_eq_getD_getElem?, Array.getElem?_append_left (by simp; omega)]
        simp [Nat.add_comm 1 j, k1]
      rw [this]
      exact k2
  · simp only [getB] at hb'
    split at hb'
    · rename_i e
      cases hb'
      subst e
      exact ⟨b, ((us x).map exV).toArray, t, rfl, own1_same b, hh, by simpa using RepPs.ofExs h1⟩
    · rw [initS_blk] at hb'
      cases hb'
  · have hkb := own1_some hk
    subst hkb
    rw [own1_same] at hk
    cases hk
    exact ⟨heap_lt hh, .inl rfl, by simp [getB]⟩
  · simp
    omega
theorem SoundR.of {f : FuncId} {fn : Func} {c : Code} {α β : Type} {ok : α → Prop} {enc : α → List Arg} {rel : α → β → Prop} {res : α → β → Res}
    (hf : P.funcs[f]? = some fn) (hb : fn.body = some c) (hN : fn.ntmps = N)
    (h : ∀ x w, ok x → (enc x).length ≤ N ∧ W P none0 w N (initS 0 (enc x)) c (bodyPost P fn fun e w' => ∃ y, rel x y ∧ Post w (res x y) e w')) : SoundR P f ok enc rel res :=
  fun x vs w hok hgl hargs => enter hf hb hN (h x w hok).1 hargs hgl (h x w hok).2
def initX : Nat → List PL → St
  | _, [] => []
  | i, l :: r => .slot i (one l) :: initX (i + 1) r
theorem initX_blk : ∀ (ls : List PL) (i n : Nat), getB (initX i ls) n = none
  | [], i, n => rfl
  | x :: r, i, n => initX_blk r (i + 1) n
theorem initX_get {hb : Nat → Option Blk} : ∀ (ls : List PL) (i : Nat) (f : Nat → Value) (_ : ∀ (j : Nat) (l : PL), ls[j]? = some l → f (i + j) = exV l ∧ ExOk w γ l) (t : Nat), RepV hb η γ w (getS (initX i ls) t) (f t)
  | [], i, f, h, t => RepV.one_iff.2 trivial
  | x :: r, i, f, h, t => by
    show RepV hb η γ w (if i = t then one x else getS (initX (i + 1) r) t) (f t)
    by_cases e : i = t
    · subst e
      rw [if_pos rfl]
      obtain ⟨h1, h2⟩ := h 0 x rfl
      rw [Nat.add_zero] at h1
      rw [h1]
      exact RepV.one_iff.2 (ex_rep h2)
    · rw [if_neg e]
      exact initX_get r (i + 1) f (fun j y hj => by
        have := h (j + 1) y (by simpa using hj)
        rw [show i + 1 + j = i + (j + 1) by omega]
        exact this) t
theorem enterX {f : FuncId} {fn : Func} {c : Code} {ls : List PL} {R' : Ending → World → Prop} (hf : P.funcs[f]? = some fn) (hb : fn.body = some c) (hN : fn.ntmps = N) (hl : ls.length ≤ N) (hargs : ∀ l ∈ ls, ExOk w none0 l) (hgl : GlobOk none0 w)
    (h : W P none0 w N (initX 0 ls) c (bodyPost P fn R')) : Calls P f (ls.map exV).toArray w R' := by
  refine calls_of_wp hf hb (h _ _ ⟨fun _ => undef, none0, ?_⟩)
  refine { slots := fun t => ?_, blks := fun n b hb => (by rw [initX_blk] at hb; cases hb), live := fun b n hb => (by cases hb), low := fun b _ _ => ⟨rfl, rfl⟩, os := rfl, tape := rfl, output := rfl, size := Nat.le_refl _, defers := rfl, width := ?_, glob := hgl, pin := fun _ b ls hb _ => (by cases hb), pinA := PinA.no fun _ fl e s rows hb => (by rw [initX_blk] at hb; cases hb) }
  · refine initX_get ls 0 (fun t => ((ls.map exV).toArray ++ Array.replicate (fn.ntmps - (ls.map exV).toArray.size) undef).getD t undef) (fun j x hj => ⟨?_, hargs x (List.mem_of_getElem? hj)⟩) t
    have hlt : j < ls.length := (List.getElem?_eq_some_iff.1 hj).1
    show ((ls.map exV).toArray ++ Array.replicate (fn.ntmps - (ls.map exV).toArray.size) undef).getD (0 + j) undef = _
    rw [Nat.zero_add, Array.getD_eq_getD_getElem?, Array.getElem?_append_left (by simpa using hlt)]
    simp [hj]
  · simp
    omega
theorem SoundB.of {f : FuncId} {fn : Func} {c : Code} {α β : Type} {ok : α → Prop} {ins : α → List PL} {rel : α → β → Prop} {us' : α → β → List PL}
    (hf : P.funcs[f]? = some fn) (hb : fn.body = some c) (hN : fn.ntmps = N) (hkept : ∀ x y, ok x → rel x y → Kept (ins x) (us' x y))
    (h : ∀ x w, ok x → (ins x).length ≤ N ∧ W P none0 w N (initX 0 (ins x)) c (bodyPost P fn fun e w' => ∃ y b t, rel x y ∧ e = .returned (.pointer (some ⟨b, 0, none⟩)) ∧ Below w.heap.size w w' ∧ w.heap.size ≤ b ∧ w'.heap[b]? = some (.cells ((us' x y).map exV).toArray t (0, 0)))) : SoundB P f ok ins rel us' :=
  ⟨hkept, fun x w hok hgl hx => enterX hf hb hN (h x w hok).1 hx hgl (h x w hok).2⟩
end
theorem evcP {α : Type} {a b : α} (h : a = b := by simp (config := { maxSteps := 1000000 }) (disch := first | assumption | omega) only [TY, datasO, dataO, exactO, exB, ar_u64, binE, eqCells, eqVal, eqOp, step_mk, makeE, List.toList_toArray, Value.oneCell', step_fnv, step_makeFunc, ev_func, callV, cells_agg, cells_int, cells_bool, cells_str, cells_sl, List.size_toArray, flatB_nil, flatB_cons, wid_nil, wid_cons, rowsF_len, rowsF_flat, rowsF_app, step_build, buildE, fillE, indexSlE, indexArrE, shiftE, indexArrV, indexStE, step_move, step_assign, step_pick, step_load, step_nilCheck, step_binOp, step_unOp, step_convert, step_slice, step_fieldAddr, step_field, step_indexAddr, step_index, step_extract, step_len, step_min, step_max, step_alloc, step_box, step_lit, step_app, step_fn, step_store, putV_some, getS_hit, getS_miss, getS_blk, getS_kill, getS_nil, getB_nil, getB_slot, getB_hit, getB_miss, getB_kill0, getB_kill1, ev_tmp, ev_int, ev_bool, ev_str, ev_nil, ev_agg, cl_int, cl_bool, cl_str, cl_nil, loadE, loadV, fieldAddrE, fieldE, partV, indexAddrE, lenE, lenO, strIdx, indexE, boundE, subE, sliceE, convE, minE, scal, nilE, tupE, capsE, optE, pickE, pbin, pint, pstr, pun, ar_in, ar_u32, ar_u8, allocE, boxE, litE, rowsO, leafO, leafsO, frz, clr, rowsOf, flB, Fl.and, Fl.nst, Fl.ok, Fl.isFl, noRef, nstOk, flatAt, hasAll, absL, appN, Fl.isNd, asN, storeN, Nat.reduceBNe, destOf, appE, storeE, argO, argsO, boxesO, callG, callE, impE, pvR, pvs, pvRL, pvT, owns, ownsT, ownsR, clrL, withB, PV.kill, PL.kill, PL.names, Blk.kill, PL.live, toPL, resV, resO, compsO, compO, rlsO, rlO, toRes, Leaf.isSc, List.map_cons, List.map_nil, List.all_cons, List.all_nil, List.length_cons, List.length_nil, List.drop_zero, List.drop_succ_cons, List.take_succ_cons, List.take_zero, List.drop_nil, List.take_nil, List.getElem?_cons_zero, List.getElem?_cons_succ, List.getElem?_nil, Option.map_some, Option.map_none, Option.bind_some, Option.isSome_some, Option.isSome_none, List.cons_append, List.nil_append, List.append_nil, if_true, if_false, reduceIte, Nat.reduceLT, Nat.reduceBEq, Nat.reduceLeDiff, Nat.reduceEqDiff, Nat.reduceAdd, Nat.reduceMul, Nat.zero_add, Nat.add_zero, Nat.mul_one, Int.reduceToNat, Bool.and_true, Bool.true_and, Bool.false_and, Bool.and_false, Bool.not_true, Bool.not_false, Bool.false_eq_true, decide_true, decide_false, and_self, and_true, true_and, or_true, true_or, or_false, false_or, if_pos, if_neg, Int.toNat_natCast, decide_eq_true, decide_eq_false, look_hit, look_miss, Int.ofNat_eq_natCast, Bool.or_false, Bool.or_true, Bool.true_or, Bool.false_or, Bool.not_eq_true, beq_self_eq_true, ne_eq, not_false_eq_true, not_true_eq_false, eq_self, *] <;> rfl) : a = b := h
end Go.Proofs.YtfgkfcfplodaoaaGreatDoor
