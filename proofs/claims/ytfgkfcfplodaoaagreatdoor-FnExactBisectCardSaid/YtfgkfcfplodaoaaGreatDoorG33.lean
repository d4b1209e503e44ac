/-
  Put together: PEvMark PEvEra PEvEraB.
-/
import Derived.Test.YtfgkfcfplodaoaaGreatDoorG20
import Derived.Test.YtfgkfcfplodaoaaGreatDoorG8
import Derived.Test.YtfgkfcfplodaoaaGreatDoorG32
import Derived.Test.YtfgkfcfplodaoaaGreatDoorG29
import Derived.Test.YtfgkfcfplodaoaaGreatDoorG27
import Derived.Test.YtfgkfcfplodaoaaGreatDoorG9
import Derived.Test.YtfgkfcfplodaoaaGreatDoorG11
import Derived.Test.YtfgkfcfplodaoaaGreatDoorG16
section
/-!
  A row of one's own is marked by a function, and is data from then on.
-/
namespace Go.Proofs.YtfgkfcfplodaoaaGreatDoor
set_option maxRecDepth 100000
set_option linter.unusedVariables false
set_option linter.unusedSimpArgs false
open Go Go.RowKit
set_option linter.unusedVariables false
set_option linter.unusedSimpArgs false

def PL.dat (n : Nat) (rows : List (List Leaf)) (l : PL) : PL := match l with
  | .all m => if m = n then .sl rows else .all m
  | .ref m o k => if m = n then .dead else .ref m o k
  | .ptr m o => if m = n then .dead else .ptr m o
  | .pel m i o => if m = n then .dead else .pel m i o
  | .fn f cap => if cap.contains n then .dead else .fn f cap
  | .sc v => .sc v
  | .nil => .nil
  | .sl rows => .sl rows
  | .prow cells off => .prow cells off
  | .lit m => if m = n then .dead else .lit m
  | .clo f boxes => .clo f boxes
  | .xl v rows => .xl v rows
  | .dead => .dead
  | .udf => .udf
def datL (n : Nat) (rows : List (List Leaf)) : List PL → List PL
  | [] => []
  | l :: r => l.dat n rows :: datL n rows r
def datT (n : Nat) (rows : List (List Leaf)) : List (Bool × List PL) → List (Bool × List PL)
  | [] => []
  | v :: r => (v.1, datL n rows v.2) :: datT n rows r
def PV.dat (n : Nat) (rows : List (List Leaf)) : PV → PV
  | .comp g ls => .comp g (datL n rows ls)
  | .tup vs => .tup (datT n rows vs)
def Blk.dat (n : Nat) (rows : List (List Leaf)) : Blk → Blk
  | .box ls => .box (datL n rows ls)
  | .arr fl e s rs => .arr fl e s rs
/-- the row n of one's own has become data: rows -/
def datS (n : Nat) (rows : List (List Leaf)) : St → St
  | [] => []
  | .slot t v :: r => .slot t (v.dat n rows) :: datS n rows r
  | .blk m b :: r => if m = n then datS n rows r else .blk m (b.dat n rows) :: datS n rows r
  | .kill m :: r => if m = n then .kill m :: r else .kill m :: datS n rows r
section
variable {n : Nat} {rows : List (List Leaf)}
theorem datL_map : ∀ ls : List PL, datL n rows ls = ls.map (PL.dat n rows)
  | [] => rfl
  | l :: r => by rw [datL, datL_map r]; rfl
theorem datT_map : ∀ vs : List (Bool × List PL), datT n rows vs = vs.map fun v => (v.1, v.2.map (PL.dat n rows))
  | [] => rfl
  | v :: r => by rw [datT, datT_map r, datL_map]; rfl
theorem PL.dat_same {l : PL} (h : l.names n = false) : l.dat n rows = l := by
  cases l with
  | all m => have : ¬ m = n := by simpa [PL.names] using h
             simp [PL.dat, this]
  | lit m => have : ¬ m = n := by simpa [PL.names] using h
             simp [PL.dat, this]
  | ref m o k => have : ¬ m = n := by simpa [PL.names] using h
                 simp [PL.dat, this]
  | ptr m o => have : ¬ m = n := by simpa [PL.names] using h
               simp [PL.dat, this]
  | pel m i o => have : ¬ m = n := by simpa [PL.names] using h
                 simp [PL.dat, this]
  | fn f cap => have : cap.contains n = false := h
                simp only [PL.dat, this]
                rfl
  | _ => rfl
theorem PL.dat_kill_same (l : PL) : (l.kill n).dat n rows = l.kill n := by
  apply PL.dat_same
  unfold PL.kill
  cases h : l.names n with
  | true => rfl
  | false => simpa using h
theorem PL.dat_kill {m : Nat} (hm : ¬ m = n) (l : PL) : (l.kill m).dat n rows = (l.dat n rows).kill m := by
  unfold PL.kill
  cases l with
  | all k =>
    by_cases h1 : k = m
    · subst h1
      simp [PL.names, PL.dat, hm]
    · by_cases h2 : k = n
      · subst h2; simp [PL.names, PL.dat, h1]
      · simp [PL.names, PL.dat, h1, h2]
  | lit k =>
    by_cases h1 : k = m
    · subst h1
      simp [PL.names, PL.dat, hm]
    · by_cases h2 : k = n
      · subst h2; simp [PL.names, PL.dat, h1]
      · simp [PL.names, PL.dat, h1, h2]
  | ref k o c =>
    by_cases h1 : k = m
    · subst h1
      simp [PL.names, PL.dat, hm]
    · by_cases h2 : k = n
      · subst h2; simp [PL.names, PL.dat, h1]
      · simp [PL.names, PL.dat, h1, h2]
  | ptr k o =>
    by_cases h1 : k = m
    · subst h1
      simp [PL.names, PL.dat, hm]
    · by_cases h2 : k = n
      · subst h2; simp [PL.names, PL.dat, h1]
      · simp [PL.names, PL.dat, h1, h2]
  | pel k i o =>
    by_cases h1 : k = m
    · subst h1
      simp [PL.names, PL.dat, hm]
    · by_cases h2 : k = n
      · subst h2; simp [PL.names, PL.dat, h1]
      · simp [PL.names, PL.dat, h1, h2]
  | fn f cap =>
    have e1 : (PL.fn f cap).names m = cap.contains m := rfl
    have e2 : (PL.fn f cap).dat n rows = if cap.contains n = true then .dead else .fn f cap := rfl
    have e3 : PL.dead.dat n rows = .dead := rfl
    have e4 : PL.dead.names m = false := rfl
    rw [e1, e2]
    cases h1 : cap.contains m with
    | true =>
      rw [if_pos rfl, e3]
      cases h2 : cap.contains n with
      | true => rw [if_pos rfl, e4]; rfl
      | false =>
        have e5 : (if false = true then PL.dead else PL.fn f cap) = .fn f cap := rfl
        rw [e5, e1, h1, if_pos rfl]
    | false =>
      rw [if_neg (by simp), e2]
      cases h2 : cap.contains n with
      | true => rw [if_pos rfl, e4]; rfl
      | false =>
        have e5 : (if false = true then PL.dead else PL.fn f cap) = .fn f cap := rfl
        rw [e5, e1, h1, if_neg (by simp)]
  | _ => simp [PL.names, PL.dat]
theorem datL_kill_same (ls : List PL) : datL n rows (ls.map (PL.kill n)) = ls.map (PL.kill n) := by
  induction ls with
  | nil => rfl
  | cons l r ih => simp only [List.map_cons, datL, ih, PL.dat_kill_same]
theorem datL_kill {m : Nat} (hm : ¬ m = n) (ls : List PL) : datL n rows (ls.map (PL.kill m)) = (datL n rows ls).map (PL.kill m) := by
  induction ls with
  | nil => rfl
  | cons l r ih => simp only [List.map_cons, datL, ih, PL.dat_kill hm]
theorem PV.dat_kill_same (v : PV) : (v.kill n).dat n rows = v.kill n := by
  cases v with
  | comp g ls => simp only [PV.kill, PV.dat, datL_kill_same]
  | tup vs =>
    simp only [PV.kill, PV.dat]
    congr 1
    induction vs with
    | nil => rfl
    | cons v r ih => simp only [List.map_cons, datT, ih, datL_kill_same]
theorem PV.dat_kill {m : Nat} (hm : ¬ m = n) (v : PV) : (v.kill m).dat n rows = (v.dat n rows).kill m := by
  cases v with
  | comp g ls => simp only [PV.kill, PV.dat, datL_kill hm]
  | tup vs =>
    simp only [PV.kill, PV.dat]
    congr 1
    induction vs with
    | nil => rfl
    | cons v r ih => simp only [List.map_cons, datT, ih, datL_kill hm]
theorem getS_dat (st : St) (t : Nat) : getS (datS n rows st) t = (getS st t).dat n rows := by
  induction st with
  | nil => rfl
  | cons e r ih =>
    cases e with
    | slot s v =>
      simp only [datS, getS]
      split
      · rfl
      · exact ih
    | blk m b =>
      simp only [datS]
      split
      · exact ih
      · exact ih
    | kill m =>
      simp only [datS]
      by_cases h : m = n
      · subst h
        rw [if_pos rfl]
        show (getS r t).kill m = ((getS r t).kill m).dat m rows
        rw [PV.dat_kill_same]
      · rw [if_neg h]
        show (getS (datS n rows r) t).kill m = ((getS r t).kill m).dat n rows
        rw [ih, PV.dat_kill h]
theorem getB_dat_none (st : St) : getB (datS n rows st) n = none := by
  induction st with
  | nil => rfl
  | cons e r ih =>
    cases e with
    | slot s v => exact ih
    | blk m b =>
      simp only [datS]
      by_cases h : m = n
      · rw [if_pos h]; exact ih
      · rw [if_neg h]
        simp only [getB, if_neg h]
        exact ih
    | kill m =>
      simp only [datS]
      by_cases h : m = n
      · rw [if_pos h]
        simp only [getB, if_pos h]
      · rw [if_neg h]
        simp only [getB, if_neg h, ih, Option.map_none]
theorem getB_dat (st : St) {k : Nat} (hk : ¬ k = n) : getB (datS n rows st) k = (getB st k).map (Blk.dat n rows) := by
  have hk' : ¬ n = k := fun e => hk e.symm
  induction st with
  | nil => rfl
  | cons e r ih =>
    cases e with
    | slot s v => exact ih
    | blk m b =>
      simp only [datS]
      by_cases h : m = n
      · subst h
        rw [if_pos rfl]
        simp only [getB, if_neg hk']
        exact ih
      · rw [if_neg h]
        simp only [getB]
        by_cases h2 : m = k
        · rw [if_pos h2, if_pos h2]; rfl
        · rw [if_neg h2, if_neg h2]; exact ih
    | kill m =>
      simp only [datS]
      by_cases h : m = n
      · subst h
        rw [if_pos rfl]
        simp only [getB, if_neg hk']
        rw [Option.map_map]
        congr 1
        funext b
        cases b with
        | box ls => simp only [Function.comp, Blk.kill, Blk.dat, datL_kill_same]
        | arr fl e s rs => rfl
      · rw [if_neg h]
        simp only [getB]
        by_cases h2 : m = k
        · rw [if_pos h2, if_pos h2]; rfl
        · rw [if_neg h2, if_neg h2, ih, Option.map_map, Option.map_map]
          congr 1
          funext b
          cases b with
          | box ls => simp only [Function.comp, Blk.kill, Blk.dat, datL_kill h]
          | arr fl e s rs => rfl
end
section
variable {hb hb' : Nat → Option Blk} {η : Nat → Value} {γ γ' : Nat → Option Nat} {w w' : World} {n : Nat} {rows : List (List Leaf)}
theorem RepP.dat (hn : Nm hb hb' η η (· ≠ n)) (hk : Kp w w' γ γ') (hrep : RepL w' γ' (.sl rows) (η n)) {l : PL} {u : Value} (h : RepP hb η γ w l u) : RepP hb' η γ' w' (l.dat n rows) u := by
  cases hl : l.names n with
  | false =>
    rw [PL.dat_same hl]
    exact h.kp hn hk (fun m hm e => by rw [e, hl] at hm; cases hm)
  | true =>
    cases l with
    | all m =>
      have e : m = n := by simpa [PL.names] using hl
      subst e
      simp only [PL.dat, if_true]
      obtain ⟨rfl, _⟩ := h
      exact hrep
    | lit m =>
      have e : m = n := by simpa [PL.names] using hl
      simp only [PL.dat, if_pos e]
      trivial
    | ref m o k =>
      have e : m = n := by simpa [PL.names] using hl
      simp only [PL.dat, if_pos e]
      trivial
    | ptr m o =>
      have e : m = n := by simpa [PL.names] using hl
      simp only [PL.dat, if_pos e]
      trivial
    | pel m i o =>
      have e : m = n := by simpa [PL.names] using hl
      simp only [PL.dat, if_pos e]
      trivial
    | fn f cap =>
      have e : cap.contains n = true := hl
      simp only [PL.dat, if_pos e]
      trivial
    | _ => cases hl
theorem RepPs.dat (hn : Nm hb hb' η η (· ≠ n)) (hk : Kp w w' γ γ') (hrep : RepL w' γ' (.sl rows) (η n)) {ls : List PL} {us : List Value} (h : RepPs hb η γ w ls us) : RepPs hb' η γ' w' (datL n rows ls) us := by
  rw [datL_map]
  refine ⟨by rw [List.length_map]; exact h.1, fun j l hj => ?_⟩
  rw [List.getElem?_map] at hj
  obtain ⟨l0, h1, rfl⟩ := Option.map_eq_some_iff.1 hj
  obtain ⟨u, h2, h3⟩ := h.2 j l0 h1
  exact ⟨u, h2, h3.dat hn hk hrep⟩
theorem RepC.dat (hn : Nm hb hb' η η (· ≠ n)) (hk : Kp w w' γ γ') (hrep : RepL w' γ' (.sl rows) (η n)) {g : Bool} {ls : List PL} {u : Value} (h : RepC hb η γ w g ls u) : RepC hb' η γ' w' g (datL n rows ls) u := by
  cases g with
  | true =>
    obtain ⟨us, h1, h2⟩ := h
    exact ⟨us, h1, h2.dat hn hk hrep⟩
  | false =>
    obtain ⟨l, rfl, h2⟩ := h
    exact ⟨l.dat n rows, rfl, h2.dat hn hk hrep⟩
theorem RepV.dat (hn : Nm hb hb' η η (· ≠ n)) (hk : Kp w w' γ γ') (hrep : RepL w' γ' (.sl rows) (η n)) {v : PV} {u : Value} (h : RepV hb η γ w v u) : RepV hb' η γ' w' (v.dat n rows) u := by
  cases v with
  | comp g ls => exact RepC.dat hn hk hrep h
  | tup vs =>
    obtain ⟨us, h1, h2, h3⟩ := h
    refine ⟨us, h1, by rw [datT_map, List.length_map]; exact h2, fun j g ls hj => ?_⟩
    rw [datT_map, List.getElem?_map] at hj
    obtain ⟨⟨g0, l0⟩, h4, h5⟩ := Option.map_eq_some_iff.1 hj
    simp only [Prod.mk.injEq] at h5
    obtain ⟨rfl, rfl⟩ := h5
    obtain ⟨u, h6, h7⟩ := h3 j _ _ h4
    refine ⟨u, h6, ?_⟩
    rw [← datL_map]
    exact h7.dat hn hk hrep
end
section
variable {P : Program} {γ0 : Nat → Option Nat} {w0 : World} {N : Nat} {st : St} {a : Act} {w : World} {η : Nat → Value} {γ : Nat → Option Nat} {Q : Exit → Act → World → Prop}
/-- a row of one's own becomes data; its own block alone may have other cells -/
theorem Inv.toDat (h : Inv γ0 w0 N st a w η γ) (n : Nat) {rows : List (List Leaf)} (w' : World)
    (hos : w'.os = w.os) (htape : w'.tape = w.tape) (hout : w'.output = w.output) (hsize : w.heap.size ≤ w'.heap.size) (hold : ∀ k, k < w.heap.size → γ k ≠ some n → w'.heap[k]? = w.heap[k]?)
    (hrep : RepL w' (fun b => if γ b = some n then none else γ b) (.sl rows) (η n)) : Inv γ0 w0 N (datS n rows st) a w' η (fun b => if γ b = some n then none else γ b) := by
  have hk : Kp w w' γ (fun b => if γ b = some n then none else γ b) := ⟨hsize, fun b hb hg => ⟨by simp [hg], hold b hb (by rw [hg]; simp)⟩⟩
  have hn : Nm (getB st) (getB (datS n rows st)) η η (· ≠ n) := by
    intro m b hm hb
    refine ⟨rfl, ?_⟩
    have hm' : ¬ m = n := hm
    cases b with
    | arr fl e s rs => exact ⟨fl, rs, by rw [getB_dat st hm', hb]; rfl, rfl⟩
    | box ls => exact ⟨_, by rw [getB_dat st hm', hb]; rfl⟩
  refine { h with slots := fun t => ?_, blks := fun m b hb => ?_, live := fun b m hb => ?_, low := fun b hb hg => ?_, os := hos.trans h.os, tape := htape.trans h.tape, output := hout.trans h.output, size := Nat.le_trans h.size hsize, pin := fun h9 b ls hb hbx => ?_, pinA := h.pinA.to fun h9 fl e s rs hbx => ⟨rfl, ?_⟩ }
  · rw [getS_dat]
    exact (h.slots t).dat hn hk hrep
  · by_cases hne : m = n
    · subst hne
      rw [getB_dat_none] at hb
      cases hb
    · rw [getB_dat st hne] at hb
      obtain ⟨b0, hb0, rfl⟩ := Option.map_eq_some_iff.1 hb
      have h1 := h.blks m b0 hb0
      cases b0 with
      | box ls =>
        obtain ⟨b, us, t, h2, h3, h4, h5⟩ := h1
        have hgb : γ b ≠ some n := by rw [h3]; intro e; injection e with e; exact hne e
        exact ⟨b, us, t, h2, by simp [h3, hne], (hold b (h.live b m h3).1 hgb).trans h4, h5.dat hn hk hrep⟩
      | arr fl e s rs =>
        obtain ⟨xs, h2, h3, h4, h5, h6⟩ := h1
        have hgs : ∀ b, γ b = some m → (if γ b = some n then none else γ b) = some m := fun b hb => by simp [hb, hne]
        refine ⟨xs, owns_same h2 (fun b hb => ?_), h3.kp (hk.vw fun b hb => ⟨hgs b hb, hold b (h.live b m hb).1 (by rw [hb]; intro e; injection e with e; exact hne e)⟩), h4, fun b hb => by simp [h5 b hb, hne], h6.kpW hgs fun b hb _ => hold b (h.live b m hb).1 (by rw [hb]; intro e; injection e with e; exact hne e)⟩
        have h7 := h5 b hb
        exact hold b (h.live b m h7).1 (by rw [h7]; intro e; injection e with e; exact hne e)
  · by_cases hg : γ b = some n
    · simp [hg] at hb
    · simp only [hg, if_false] at hb
      obtain ⟨h1, h2, h3⟩ := h.live b m hb
      have hne : ¬ m = n := fun e => hg (e ▸ hb)
      refine ⟨Nat.lt_of_lt_of_le h1 hsize, h2.imp id fun h2 => ?_, ?_⟩
      · rw [getB_dat st hne]
        cases hgb : getB st m with
        | none => rw [hgb] at h3; cases h3
        | some b =>
          rw [hgb] at h2
          cases b with
          | box ls => cases h2
          | arr fl e s rs => exact h2
      · rw [getB_dat st hne]
        cases hgb : getB st m with
        | none => rw [hgb] at h3; cases h3
        | some b => rfl
  · obtain ⟨h1, h2⟩ := h.low b hb hg
    exact ⟨by simp [h1], by rw [hold b (Nat.lt_of_lt_of_le hb h.size) (by rw [h1]; simp)]; exact h2⟩
  · by_cases hg : γ b = some n
    · simp [hg] at hb
    · simp only [hg, if_false] at hb
      have hne : ¬ (999 : Nat) = n := fun e => hg (e ▸ hb)
      rw [getB_dat st hne] at hbx
      obtain ⟨b0, hb0, hk0⟩ := Option.map_eq_some_iff.1 hbx
      cases b0 with
      | box ls0 => exact h.pin h9 b ls0 hb hb0
      | arr fl e s rs => cases hk0
  · by_cases hne : (999 : Nat) = n
    · subst hne
      rw [getB_dat_none] at hbx
      cases hbx
    · rw [getB_dat st hne] at hbx
      obtain ⟨b0, hb0, hk0⟩ := Option.map_eq_some_iff.1 hbx
      cases b0 with
      | box ls0 => cases hk0
      | arr fl0 e0 s0 rs0 =>
        cases hk0
        exact ⟨_, _, hb0, rfl⟩
/-- what stands for one row of one's own among plain cells -/
def plV (v : Value) : PL → Value
  | .sc x => x
  | .all _ => v
  | _ => undef
def plOk (n : Nat) : PL → Bool
  | .sc _ => true
  | .all m => m == n
  | _ => false
theorem plV_rep {hb : Nat → Option Blk} {n : Nat} {l : PL} {u : Value} (ho : plOk n l = true) (h : RepP hb η γ w l u) : u = plV (η n) l := by
  cases l with
  | sc x => exact h.1
  | all m =>
    have e : m = n := by simpa [plOk] using ho
    subst e
    exact h.1
  | _ => cases ho
theorem plVs_rep {hb : Nat → Option Blk} {n : Nat} {ls : List PL} {us : List Value} (ho : ls.all (plOk n) = true) (h : RepPs hb η γ w ls us) : us = ls.map (plV (η n)) := by
  refine List.ext_getElem? fun j => ?_
  rw [List.getElem?_map]
  cases hj : ls[j]? with
  | none =>
    have := List.getElem?_eq_none_iff.1 hj
    exact List.getElem?_eq_none (by rw [h.1]; exact this)
  | some l =>
    obtain ⟨u, h1, h2⟩ := h.2 j l hj
    rw [h1, Option.map_some, plV_rep (List.all_eq_true.1 ho l (List.mem_of_getElem? hj)) h2]
theorem own_blk {α : Type} {f : α → List Value} {s n e : Nat} {fl : Fl} {l : List α} (hf : ∀ x, (f x).length = s) (hI : Inv γ0 w0 N st a w η γ) (hb : getB st n = some (.arr fl e s (rowsF f l))) : OwnS w 0 s f (η n) l := by
  obtain ⟨xs, ⟨hxl, ho⟩, hr, hw, hg, _⟩ := hI.blks n _ hb
  rw [rowsF_len] at ho hxl
  rcases ho with ⟨he, hz⟩ | ⟨g, cap, cur, he, _, hh, hnc, hcm, hcs, ht⟩
  · have : l = [] := List.length_eq_zero_iff.1 hz
    subst this
    exact ⟨none, 0, by rw [he]; rfl, Nat.le_refl _, Nat.zero_le _, fun h => absurd rfl h⟩
  · refine ⟨_, cap, he, hnc, hcm, fun hne => ⟨g, 0, rfl, Nat.zero_le _, heap_lt hh, fun o => by simp [World.frozen?, hh], fun k x hk j u hu => ?_⟩⟩
    have hrow : (rowsF f l)[k]? = some ((f x).map Leaf.sc) := by unfold rowsF; rw [List.getElem?_map, hk]; rfl
    have hjs : j < s := by rw [← hf x]; exact (List.getElem?_eq_some_iff.1 hu).1
    have h1 := flatten_row hw hrow j hjs
    rw [List.getElem?_map, hu] at h1
    obtain ⟨u', h2, h3⟩ := hr.2 _ _ h1
    cases h3
    rw [← ht, List.getElem?_take] at h2
    split at h2
    · simp only [World.cell?, hh, Nat.zero_add]
      simpa using h2
    · cases h2
/-- data out of a row in memory -/
theorem rep_of_own {α : Type} {f : α → List Value} {s : Nat} {l : List α} {v : Value} (hf : ∀ x, (f x).length = s) (h1 : ∀ x, ∀ u ∈ f x, u.oneCell' = true) (hg : ∀ b, v.ownBlock = some b → γ b = none) (h : OwnS w 0 s f v l) : RepL w γ (.sl (rowsF f l)) v := by
  obtain ⟨A, c, rfl, h2, h3, h4⟩ := h
  by_cases hne : l = []
  · subst hne
    exact .emp h3
  · obtain ⟨b, off, rfl, _, h5, _, h6⟩ := h4 hne
    have hl := rowsF_len f l
    rw [← hl]
    refine .sl (s := s) (fun i j => (((rowsF f l)[i]?.bind fun row => row[j]?).bind fun x => match x with | .sc v => some v | _ => none).getD undef) (hg b rfl) h5 (by rw [hl]; exact h2) h3 (fun row hr => ?_) (fun i row j x hi hj => ?_) (fun i row j x hi hj => ?_)
    · obtain ⟨x, _, rfl⟩ := List.mem_map.1 hr
      rw [List.length_map]
      exact hf x
    · unfold rowsF at hi
      rw [List.getElem?_map] at hi
      obtain ⟨y, hy, rfl⟩ := Option.map_eq_some_iff.1 hi
      rw [List.getElem?_map] at hj
      obtain ⟨u, hu, rfl⟩ := Option.map_eq_some_iff.1 hj
      rw [h6 i y hy j u hu]
      unfold rowsF
      simp [hy, hu]
    · unfold rowsF at hi
      rw [List.getElem?_map] at hi
      obtain ⟨y, hy, rfl⟩ := Option.map_eq_some_iff.1 hi
      rw [List.getElem?_map] at hj
      obtain ⟨u, hu, rfl⟩ := Option.map_eq_some_iff.1 hj
      have : ((((rowsF f l)[i]?.bind fun row => row[j]?).bind fun x => match x with | .sc v => some v | _ => none).getD undef) = u := by
        unfold rowsF
        simp [hy, hu]
      rw [this]
      exact .sc (h1 y u (List.mem_of_getElem? hu))
/-- what a marking function leaves -/
def MarksW {α : Type} (s : Nat) (f : α → List Value) (v : Value) (l : List α) (k' : Nat) (w : World) (e : Ending) (w' : World) : Prop :=
  e = .returned (.int .i64 (k' : Int)) ∧ OwnS w' 0 s f v l ∧ w.grownBy w' v.ownBlock
/-- f marks the row of its argument, and says k' -/
theorem WL.opMark {ops : Array Oper} {r : List Oper} {d f n k k' : Nat} {x0 x1 : Operand} {ts : Array TypeId} {ty : TypeId} {pos : String} {after : Array Edge} {α : Type} {enc : α → List Value} {s e : Nat} {fl : Fl} {l l' : List α} {arg : Value → Value}
    (hf : Has P f) (hs : ∀ v w, OwnS w 0 s enc v l → Calls P f #[arg v, .int .i64 (k : Int)] w (MarksW s enc v l' k' w)) (hlen : ∀ x, (enc x).length = s) (hone : ∀ x, ∀ u ∈ enc x, u.oneCell' = true) (hN : d < N)
    (hx : ∀ (η : Nat → Value) (γ : Nat → Option Nat) (w : World) (u : Value), RepV (getB st) η γ w (ev st x0) u → u = arg (η n)) (hk : ev st x1 = one (.sc (.int .i64 (k : Int)))) (hb : getB st n = some (.arr fl e s (rowsF enc l)))
    (h : WL P γ0 w0 N ops r (.slot d (one (.sc (.int .i64 (k' : Int)))) :: datS n (rowsF enc l') st) Q) : WL P γ0 w0 N ops (⟨some d, .call ⟨.value (.func f), #[x0, x1], ts⟩, ty, pos, after, none⟩ :: r) st Q := fun a w hR => by
  refine wpList_plain rfl fun K hK => ?_
  obtain ⟨η, γ, hI⟩ := hR
  have h0 := hx η γ w _ (ev_sound hI x0)
  have h1 := ev_sound hI x1
  rw [hk] at h1
  obtain ⟨h1, -⟩ := RepV.one_iff.1 h1
  have hrun := enter_of (P := P) hf (a := a) (w := w) (args := [x0, x1]) (ts := ts) (dst := some d) (ty := ty) (pos := pos) (after := after) (g := none)
  unfold Oper.wp
  rw [hrun]
  show Calls P f ([x0, x1].map a.eval).toArray w _
  simp only [List.map_cons, List.map_nil, h0, h1]
  have hown := own_blk hlen hI hb
  obtain ⟨xs, ho, _, _, hgo, _⟩ := hI.blks n _ hb
  refine (hs _ w hown).mono fun e' w' ⟨he, hm, hgr⟩ => ?_
  subst he
  have hown' : ∀ b, (η n).ownBlock = some b → (if γ b = some n then none else γ b) = none := fun b hb => by simp [hgo b hb]
  have hI2 := hI.toDat n (rows := rowsF enc l') w' hgr.os hgr.tape hgr.output hgr.size (fun q hq hne => hgr.block q hq (fun e => hne (hgo q (by rw [e])))) (rep_of_own hlen hone hown' hm)
  exact hK _ _ (h _ _ ⟨η, _, hI2.put d _ _ hN (RepV.one_iff.2 ⟨rfl, rfl⟩)⟩)
/-- the argument is a struct with one row of one's own -/
theorem arg_struct {n : Nat} {x0 : Operand} {ls : List PL} (hx : ev st x0 = .comp true ls) (ho : ls.all (plOk n) = true) (η : Nat → Value) (γ : Nat → Option Nat) (w : World) (u : Value) (h : RepV (getB st) η γ w (ev st x0) u) : u = .agg (ls.map (plV (η n))).toArray := by
  rw [hx] at h
  obtain ⟨us, rfl, h1⟩ := h
  rw [plVs_rep ho h1]
/-- the argument is the row -/
theorem arg_row {n : Nat} {x0 : Operand} (hx : ev st x0 = one (.all n)) (η : Nat → Value) (γ : Nat → Option Nat) (w : World) (u : Value) (h : RepV (getB st) η γ w (ev st x0) u) : u = η n := by
  rw [hx] at h
  exact (RepV.one_iff.1 h).1
end
section
variable {γ0 : Nat → Option Nat} {w0 : World} {N : Nat} {st st1 : St} {Q : Exit → Act → World → Prop}
theorem WL.opMarkS {ops : Array Oper} {r : List Oper} {d f : Nat} {x0 x1 : Operand} {ts : Array TypeId} {ty : TypeId} {pos : String} {after : Array Edge} {α : Type} {enc : α → List Value} {s e : Nat} {fl : Fl} {l : List α} {ls : List PL} (n k k' : Nat) (l' : List α)
    (hf : Has Tryz.prog f) (hs : ∀ v w, OwnS w 0 s enc v l → Calls Tryz.prog f #[.agg (ls.map (plV v)).toArray, .int .i64 (k : Int)] w (MarksW s enc v l' k' w)) (hlen : ∀ x, (enc x).length = s) (hone : ∀ x, ∀ u ∈ enc x, u.oneCell' = true) (hN : d < N := by decide)
    (hx : ev st x0 = .comp true ls := by exact evsP) (ho : ls.all (plOk n) = true := by rfl) (hk : ev st x1 = one (.sc (.int .i64 (k : Int))) := by exact evsP) (hb : getB st n = some (.arr fl e s (rowsF enc l)) := by exact evsP)
    (hst : .slot d (one (.sc (.int .i64 (k' : Int)))) :: datS n (rowsF enc l') st = st1 := by simp only [datS, PV.dat, datL, datT, PL.dat, Blk.dat, Nat.reduceEqDiff, reduceIte]; rfl)
    (h : WL Tryz.prog γ0 w0 N ops r st1 Q) : WL Tryz.prog γ0 w0 N ops (⟨some d, .call ⟨.value (.func f), #[x0, x1], ts⟩, ty, pos, after, none⟩ :: r) st Q :=
  WL.opMark hf hs hlen hone hN (arg_struct hx ho) hk hb (by rw [hst]; exact h)
theorem WL.opMarkR {ops : Array Oper} {r : List Oper} {d f : Nat} {x0 x1 : Operand} {ts : Array TypeId} {ty : TypeId} {pos : String} {after : Array Edge} {α : Type} {enc : α → List Value} {s e : Nat} {fl : Fl} {l : List α} (n k k' : Nat) (l' : List α)
    (hf : Has Tryz.prog f) (hs : ∀ v w, OwnS w 0 s enc v l → Calls Tryz.prog f #[v, .int .i64 (k : Int)] w (MarksW s enc v l' k' w)) (hlen : ∀ x, (enc x).length = s) (hone : ∀ x, ∀ u ∈ enc x, u.oneCell' = true) (hN : d < N := by decide)
    (hx : ev st x0 = one (.all n) := by exact evsP) (hk : ev st x1 = one (.sc (.int .i64 (k : Int))) := by exact evsP) (hb : getB st n = some (.arr fl e s (rowsF enc l)) := by exact evsP)
    (hst : .slot d (one (.sc (.int .i64 (k' : Int)))) :: datS n (rowsF enc l') st = st1 := by simp only [datS, PV.dat, datL, datT, PL.dat, Blk.dat, Nat.reduceEqDiff, reduceIte]; rfl)
    (h : WL Tryz.prog γ0 w0 N ops r st1 Q) : WL Tryz.prog γ0 w0 N ops (⟨some d, .call ⟨.value (.func f), #[x0, x1], ts⟩, ty, pos, after, none⟩ :: r) st Q :=
  WL.opMark (arg := id) hf hs hlen hone hN (arg_row hx) hk hb (by rw [hst]; exact h)
end
end Go.Proofs.YtfgkfcfplodaoaaGreatDoor

end
section
/-!
  Eras: validators' rows within rows; copying, comparing, measuring them.
-/
namespace Go.Proofs.YtfgkfcfplodaoaaGreatDoor
set_option maxRecDepth 100000
set_option linter.unusedVariables false
set_option linter.unusedSimpArgs false
open Go Go.RowKit
set_option maxHeartbeats 8000000
set_option linter.unusedVariables false

end Go.Proofs.YtfgkfcfplodaoaaGreatDoor

end
section
/-!
  Eras: copying, comparing, measuring rows of them.
-/
namespace Go.Proofs.YtfgkfcfplodaoaaGreatDoor
set_option maxRecDepth 100000
set_option linter.unusedVariables false
set_option linter.unusedSimpArgs false
open Go Go.RowKit
set_option maxHeartbeats 8000000
set_option linter.unusedVariables false

end Go.Proofs.YtfgkfcfplodaoaaGreatDoor

end
