/-
  Functions that write the variable at which their first argument points, data in it: contracts, entering, leaving, calling.
-/
import Derived.Test.YtfgkfcfplodaoaaGreatDoorG12
namespace Go.Proofs.YtfgkfcfplodaoaaGreatDoor
set_option maxRecDepth 100000
set_option linter.unusedVariables false
set_option linter.unusedSimpArgs false
open Go Go.RowKit
set_option linter.unusedVariables false

/-- what such a function leaves: the block b holds the data cs, v is returned -/
def PostDk (b : Nat) (w : World) (cs : List Leaf) (v : Value) (e : Ending) (w' : World) : Prop :=
  ∃ us t, e = .returned v ∧ v.oneCell' = true ∧ Below w.heap.size (putO w b (.cells us t (0, 0))) w' ∧ w'.heap[b]? = some (.cells us t (0, 0)) ∧ RepLs w' (own1 b) cs us.toList
def SoundDk (P : Program) (f : FuncId) {α : Type} (ok : α → Prop) (cs : α → List Leaf) (enc : α → List Arg) (cs' : α → List Leaf) (out : α → Value) : Prop :=
  ∀ x b t us vs w, ok x → GlobOk (own1 b) w → RepLs w (own1 b) (cs x) us.toList → w.heap[b]? = some (.cells us t (0, 0)) → RepDs w (own1 b) (enc x) vs →
    Calls P f (Value.pointer (some ⟨b, 0, none⟩) :: vs).toArray w (PostDk b w (cs' x) (out x))
section
variable {P : Program} {Γ : Models} {γ0 : Nat → Option Nat} {w0 : World} {N : Nat} {st st1 : St} {a : Act} {w : World} {η : Nat → Value} {γ : Nat → Option Nat} {Q : Exit → Act → World → Prop}
/-- the content of a variable of one's own turns, and new blocks are laid -/
theorem Inv.turnD (h : Inv γ0 w0 N st a w η γ) (n : Nat) (ls0 ls1 : List PL) (hb0 : getB st n = some (.box ls0)) (g : Nat) (hg : γ g = some n) (w' : World)
    (hos : w'.os = w.os) (htape : w'.tape = w.tape) (hout : w'.output = w.output) (hsize : w.heap.size ≤ w'.heap.size) (hold : ∀ k, k < w.heap.size → k ≠ g → w'.heap[k]? = w.heap[k]?)
    (hB : RepB (getB (.blk n (.box ls1) :: st)) η γ w' n (.box ls1)) :
    Inv γ0 w0 N (.blk n (.box ls1) :: st) a w' η γ := by
  have hlive : ∀ k m, γ k = some m → k < w.heap.size := fun k m hk => (h.live k m hk).1
  have hk : Kp w w' γ γ := ⟨hsize, fun k hk hgk => ⟨hgk, hold k hk (fun e => by rw [e, hg] at hgk; cases hgk)⟩⟩
  have hget : ∀ m, m ≠ n → getB (.blk n (.box ls1) :: st) m = getB st m := fun m hm => if_neg (fun e => hm e.symm)
  have hn : Nm (getB st) (getB (.blk n (.box ls1) :: st)) η η (fun _ => True) := by
    intro m b' _ hb
    refine ⟨rfl, ?_⟩
    by_cases hm : m = n
    · subst hm
      rw [hb0] at hb
      cases hb
      exact ⟨ls1, if_pos rfl⟩
    · cases b' with
      | arr fl e s rows => exact ⟨fl, rows, by rw [hget m hm]; exact hb, rfl⟩
      | box ls => exact ⟨ls, by rw [hget m hm]; exact hb⟩
  have hgm : ∀ m b0, m ≠ n → γ b0 = some m → γ b0 = some m ∧ w'.heap[b0]? = w.heap[b0]? := fun m b0 hm hb0 => ⟨hb0, hold b0 (hlive b0 m hb0) (fun e => by rw [e, hg] at hb0; cases hb0; exact hm rfl)⟩
  refine { h with slots := fun t => (h.slots t).kp hn hk, blks := fun m b' hb => ?_, live := fun b0 m hb => ?_, low := fun b0 hb hg0 => ?_, size := Nat.le_trans h.size hsize, os := hos.trans h.os, tape := htape.trans h.tape, output := hout.trans h.output, pin := fun h9 b2 ls hb hbx => ?_, pinA := h.pinA.to fun h9 fl e s rows hbx => ⟨rfl, fl, rows, ?_, rfl⟩ }
  · by_cases hm : m = n
    · subst hm
      rw [getB_hit] at hb
      cases hb
      exact hB
    · rw [hget m hm] at hb
      have h1 := h.blks m b' hb
      cases b' with
      | box ls => exact RepB.kp_box hn hk h1 rfl (hgm m · hm)
      | arr fl e s rows => exact RepB.kp_arr hk h1 rfl (hgm m · hm)
  · obtain ⟨h1, h2, h3⟩ := h.live b0 m hb
    refine ⟨Nat.lt_of_lt_of_le h1 hsize, h2.imp id fun h2 => ?_, ?_⟩
    · by_cases hm : m = n
      · subst hm
        rw [hb0] at h2
        cases h2
      · rw [hget m hm]; exact h2
    · by_cases hm : m = n
      · subst hm; simp [getB]
      · rw [hget m hm]; exact h3
  · obtain ⟨h1, h2⟩ := h.low b0 hb hg0
    exact ⟨h1, by rw [hold b0 (Nat.lt_of_lt_of_le hb h.size) (fun e => by rw [e, hg] at h1; cases h1)]; exact h2⟩
  · by_cases hm : (999 : Nat) = n
    · subst hm
      exact h.pin h9 b2 ls0 hb hb0
    · rw [hget 999 hm] at hbx
      exact h.pin h9 b2 ls hb hbx
  · by_cases hm : (999 : Nat) = n
    · subst hm
      rw [getB_hit] at hbx
      cases hbx
    · rw [hget 999 hm] at hbx
      exact hbx
theorem frz_box {n : Nat} {bs : List PL} : ∀ {ls : List PL} (_ : ∀ l ∈ ls, ∀ m, (l = .all m ∨ ∃ o k, l = .ref m o k) → m ≠ n) (_ : getB st n = some (.box bs)), ∃ bs', getB (Go.Proofs.YtfgkfcfplodaoaaGreatDoor.frz ls st) n = some (.box bs')
  | [], _, h => ⟨bs, h⟩
  | l :: r, hne, h => by
    obtain ⟨bs', h1⟩ := frz_box (ls := r) (fun x hx => hne x (List.mem_cons_of_mem _ hx)) h
    cases l with
    | all m =>
      refine ⟨bs'.map (PL.kill m), ?_⟩
      show (if m = n then none else (getB (frz r st) n).map (Blk.kill m)) = _
      rw [if_neg (hne _ List.mem_cons_self m (.inl rfl)), h1]
      rfl
    | ref m o k =>
      refine ⟨bs'.map (PL.kill m), ?_⟩
      show (if m = n then none else (getB (frz r st) n).map (Blk.kill m)) = _
      rw [if_neg (hne _ List.mem_cons_self m (.inr ⟨o, k, rfl⟩)), h1]
      rfl
    | _ => exact ⟨bs', h1⟩
/-- rows of one's own that a variable speaks of become data -/
theorem R.frzB (h : R γ0 w0 N st a w) {n : Nat} {ls : List PL} {xs : List Leaf} (hb : getB st n = some (.box ls)) (hx : leafsO st ls = some xs) : R γ0 w0 N (.blk n (.box (xs.map toPL)) :: Go.Proofs.YtfgkfcfplodaoaaGreatDoor.frz ls st) a w := by
  obtain ⟨η, γ, hI⟩ := h
  obtain ⟨b, us, t, g1, g2, g3, g4⟩ := hI.blks n _ hb
  obtain ⟨γ', hI', hsub⟩ := hI.frz ls
  have hne : ∀ l ∈ ls, ∀ m, (l = .all m ∨ ∃ o k, l = .ref m o k) → m ≠ n := fun l hl m he e => by
    subst e
    obtain ⟨j, hj⟩ := List.mem_iff_getElem?.1 hl
    obtain ⟨u0, _, k2⟩ := g4.2 j l hj
    rcases he with rfl | ⟨o, q, rfl⟩
    · obtain ⟨_, fl, e, s, rows, k3⟩ := k2
      rw [hb] at k3
      cases k3
    · obtain ⟨fl, e, s, rows, k3, _⟩ := k2
      rw [hb] at k3
      cases k3
  obtain ⟨bs', hb'⟩ := frz_box hne hb
  obtain ⟨b2, us2, t2, g5, g6, g7, g8⟩ := hI'.blks n _ hb'
  rw [g1] at g5
  cases g5
  rw [g3] at g7
  cases g7
  have hk : ∀ k, γ k = none → γ' k = none := fun k hk => by
    cases hg : γ' k with
    | none => rfl
    | some m => rw [(hsub k m hg).1] at hk; cases hk
  have hrep : RepLs w γ' xs us.toList := leafsO_sound hI hk (fun k m hkm ⟨l, hl, he⟩ => by
    cases hg : γ' k with
    | none => rfl
    | some m' =>
      obtain ⟨h1, h2⟩ := hsub k m' hg
      rw [hkm] at h1
      cases h1
      obtain ⟨h3, h4⟩ := h2 l hl
      rcases he with he | ⟨o, q, he⟩
      · exact absurd rfl (h3 m he)
      · exact absurd rfl (h4 m o q he)) g4 hx
  exact ⟨η, γ', hI'.turnD n _ (xs.map toPL) hb' b g6 w rfl rfl rfl (Nat.le_refl _) (fun _ _ _ => rfl) ⟨b, us, t, g1, g6, g3, toPLs_sound hrep⟩⟩
/-- cells that hold data alone -/
def dtL : PL → Option Leaf
  | .sc v => some (.sc v)
  | .nil => some (.sl [])
  | .sl rows => some (.sl rows)
  | _ => none
def dtLs : List PL → Option (List Leaf)
  | [] => some []
  | l :: r => match dtL l, dtLs r with
    | some x, some y => some (x :: y)
    | _, _ => none
theorem dtL_sound {hb : Nat → Option Blk} {l : PL} {x : Leaf} {u : Value} (h : RepP hb η γ w l u) (hx : dtL l = some x) : RepL w γ x u := by
  cases l with
  | sc v =>
    simp only [dtL, Option.some.injEq] at hx
    subst hx
    obtain ⟨rfl, h2⟩ := h
    exact .sc h2
  | nil =>
    simp only [dtL, Option.some.injEq] at hx
    subst hx
    have h : u = .slice none 0 0 := h
    subst h
    exact .emp (Nat.zero_le _)
  | sl rows =>
    simp only [dtL, Option.some.injEq] at hx
    subst hx
    exact h
  | _ => simp [dtL] at hx
theorem dtLs_sound {hb : Nat → Option Blk} : ∀ {ls : List PL} {xs : List Leaf} {us : List Value} (_ : RepPs hb η γ w ls us) (_ : dtLs ls = some xs), RepLs w γ xs us
  | [], xs, us, h, hx => by
    simp only [dtLs, Option.some.injEq] at hx
    subst hx
    exact ⟨h.1, fun j l hj => by simp at hj⟩
  | l :: r, xs, us, h, hx => by
    unfold dtLs at hx
    split at hx
    · rename_i x y h1 h2
      cases hx
      obtain ⟨u0, g1, g2⟩ := h.2 0 l rfl
      cases us with
      | nil => cases g1
      | cons u1 ur =>
        have g1 : u1 = u0 := by simpa using g1
        subst g1
        have hr : RepPs hb η γ w r ur := ⟨by simpa using h.1, fun j l' hj => by
          obtain ⟨u2, k1, k2⟩ := h.2 (j + 1) l' (by simpa using hj)
          exact ⟨u2, by simpa using k1, k2⟩⟩
        obtain ⟨m1, m2⟩ := dtLs_sound hr h2
        refine ⟨by simpa using m1, fun j l' hj => ?_⟩
        cases j with
        | zero =>
          simp only [List.getElem?_cons_zero, Option.some.injEq] at hj
          subst hj
          exact ⟨u1, rfl, dtL_sound g2 h1⟩
        | succ j =>
          obtain ⟨u2, k1, k2⟩ := m2 j l' (by simpa using hj)
          exact ⟨u2, by simpa using k1, k2⟩
    · cases hx
theorem SoundDk.of {f : FuncId} {fn : Func} {c : Code} {α : Type} {ok : α → Prop} {cs : α → List Leaf} {enc : α → List Arg} {cs' : α → List Leaf} {out : α → Value}
    (hf : P.funcs[f]? = some fn) (hb : fn.body = some c) (hN : fn.ntmps = N)
    (h : ∀ x b w, ok x → b < w.heap.size → (enc x).length + 1 ≤ N ∧
      W P (own1 b) w N (initC ((cs x).map toPL) (enc x)) c (bodyPost P fn (PostDk b w (cs' x) (out x)))) : SoundDk P f ok cs enc cs' out := by
  intro x b t us vs w hok hgl h1 hh hargs
  obtain ⟨hl, hW⟩ := h x b w hok (heap_lt hh)
  refine calls_of_wp hf hb (hW _ _ ⟨fun _ => .pointer (some ⟨b, 0, none⟩), own1 b, ?_⟩)
  have hsz : vs.length = (enc x).length := hargs.1
  refine { slots := fun k => ?_, blks := fun n b' hb' => ?_, live := fun k n hk => ?_, low := fun k _ hk => ⟨hk, rfl⟩, os := rfl, tape := rfl, output := rfl, size := Nat.le_refl _, defers := rfl, width := ?_, glob := hgl, pin := fun _ k ls hk _ => hk, pinA := PinA.no fun _ fl e s rows hb => (by simp [getB] at hb) }
  · show RepV _ _ _ _ (if 0 = k then one (.ptr 999 0) else getS (initS 1 (enc x)) k) _
    by_cases e : 0 = k
    · subst e
      rw [if_pos rfl]
      refine RepV.one_iff.2 ⟨(cs x).map toPL, b, by simp [getB], rfl, ?_⟩
      show ((Value.pointer (some ⟨b, 0, none⟩) :: vs).toArray ++ Array.replicate (fn.ntmps - (Value.pointer (some ⟨b, 0, none⟩) :: vs).toArray.size) undef).getD 0 undef = _
      rw [Array.getD_eq_getD_getElem?, Array.getElem?_append_left (by simp)]
      simp
    · rw [if_neg e]
      refine initS_data (enc x) 1 (fun t => ((Value.pointer (some ⟨b, 0, none⟩) :: vs).toArray ++ Array.replicate (fn.ntmps - (Value.pointer (some ⟨b, 0, none⟩) :: vs).toArray.size) undef).getD t undef) (fun j y hj => ?_) k
      obtain ⟨v, k1, k2⟩ := hargs.2 j y hj
      have hlt : j < vs.length := (List.getElem?_eq_some_iff.1 k1).1
      have : ((Value.pointer (some ⟨b, 0, none⟩) :: vs).toArray ++ Array.replicate (fn.ntmps - (Value.pointer (some ⟨b, 0, none⟩) :: vs).toArray.size) undef).getD (1 + j) undef = v := by
        rw [Array.getD_eq_getD_getElem?, Array.getElem?_append_left (by simp; omega)]
        simp [Nat.add_comm 1 j, k1]
      rw [this]
      exact k2
  · simp only [getB] at hb'
    split at hb'
    · rename_i e
      cases hb'
      subst e
      exact ⟨b, us, t, rfl, own1_same b, hh, toPLs_sound h1⟩
    · rw [initS_blk] at hb'
      cases hb'
  · have := own1_some hk
    subst this
    have e : n = 999 := by rw [own1_same] at hk; cases hk; rfl
    subst e
    exact ⟨heap_lt hh, .inl (by simp [hdrBlock]), by simp [getB]⟩
  · simp
    omega
end
section
variable {γ0 : Nat → Option Nat} {w0 : World} {N : Nat} {st : St} {Q : Exit → Act → World → Prop}
theorem W.frzB {c : Code} (n : Nat) {ls : List PL} {xs : List Leaf} {st1 : St} (hb : getB st n = some (.box ls) := by exact evsP) (hx : leafsO st ls = some xs := by exact evsP) (hst : Entry.blk n (.box (xs.map toPL)) :: Go.Proofs.YtfgkfcfplodaoaaGreatDoor.frz ls st = st1 := by exact evsP)
    (h : W Tryz.prog γ0 w0 N st1 c Q) : W Tryz.prog γ0 w0 N st c Q := fun a w hR => h a w (hst ▸ R.frzB hR hb hx)
end
end Go.Proofs.YtfgkfcfplodaoaaGreatDoor
