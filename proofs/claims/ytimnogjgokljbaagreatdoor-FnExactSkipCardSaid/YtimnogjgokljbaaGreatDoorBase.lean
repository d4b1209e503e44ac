/-
  Base: predicates for slices that read as lists of flat elements, and how worlds keep them. No program is named here.
-/
import Derived.WalkKit
import Derived.WalkSpells
import Derived.WalkLawsBesides
import Derived.Lib.Hide
import Derived.Deep.QuietTactic
import Derived.Deep.Draws
import Derived.BigQuiet
import Derived.Outline
import Derived.Handy
import Derived.StillTailTactics
import Derived.Deep.RegionLaw
namespace Go.Proofs.YtimnogjgokljbaaGreatDoor
set_option maxRecDepth 100000
set_option linter.unusedVariables false
set_option linter.unusedSimpArgs false
open Go.RowKit

/-- The slice value v reads in w as the list l, each element as the s cells f x; all of it below block B. -/
def RdS {α : Type} (w : World) (B s : Nat) (f : α → List Value) (v : Value) (l : List α) : Prop :=
  ∃ A c, v = .slice A l.length c ∧ l.length ≤ c ∧ c ≤ maxLen ∧
    (l ≠ [] → ∃ b off, A = some ⟨b, off, none⟩ ∧ b < B ∧ ∀ i x, l[i]? = some x → ∀ j u, (f x)[j]? = some u → w.cell? ⟨b, off + i * s + j, none⟩ = some u)

section
variable {α : Type} {w w' : World} {B B' s : Nat} {f : α → List Value} {v : Value} {l : List α}

theorem RdS.keep (h : RdS w B s f v l) (hk : ∀ b o, b < B → w'.cell? ⟨b, o, none⟩ = w.cell? ⟨b, o, none⟩) : RdS w' B s f v l := by
  obtain ⟨A, c, hv, hlc, hcm, hn⟩ := h
  refine ⟨A, c, hv, hlc, hcm, fun hne => ?_⟩
  obtain ⟨b, off, hA, hb, hc⟩ := hn hne
  exact ⟨b, off, hA, hb, fun i x hx j u hu => (hk _ _ hb).trans (hc i x hx j u hu)⟩

theorem RdS.more (h : RdS w B s f v l) (hB : B ≤ B') : RdS w B' s f v l := by
  obtain ⟨A, c, hv, hlc, hcm, hn⟩ := h
  refine ⟨A, c, hv, hlc, hcm, fun hne => ?_⟩
  obtain ⟨b, off, hA, hb, hc⟩ := hn hne
  exact ⟨b, off, hA, by omega, hc⟩

theorem RdS.below (h : RdS w B s f v l) (hb : Below B w w') : RdS w' B s f v l :=
  h.keep fun b o hlt => hb.cell (p := ⟨b, o, none⟩) hlt

theorem RdS.drewN (h : RdS w B s f v l) (n : Nat) : RdS (w.drewN n) B s f v l :=
  h.keep fun b o _ => by simp

theorem RdS.drew (h : RdS w B s f v l) : RdS w.drew B s f v l :=
  h.keep fun b o _ => by simp

end

/-- one string's cell -/
def cStr (s : ByteArray) : List Value := [.string s]
/-- one number's cell -/
def cInt (n : Int) : List Value := [.int .i64 n]
/-- a number of 64 bits -/
def okInt (n : Int) : Prop := (Lit.int .i64 n).wf = true
theorem okInt_of {n : Int} (h : (Lit.int .i64 n).wf = true) : okInt n := h
def okBool (_ : Bool) : Prop := True
/-- one truth's cell -/
def cBool (b : Bool) : List Value := [.bool b]

theorem add_plain' (b o i : Nat) : (⟨b, o, none⟩ : Addr).add i = ⟨b, o + i, none⟩ := by unfold Addr.add; split <;> simp_all

theorem bcell {B : Nat} {W w1 : World} (hb : Below B W w1) :
    (∀ b o, b < B → w1.cell? ⟨b, o, none⟩ = W.cell? ⟨b, o, none⟩) ∧ (∀ b o, b < B → w1.frozen? ⟨b, o, none⟩ = W.frozen? ⟨b, o, none⟩) :=
  ⟨fun b o h => hb.cell (p := ⟨b, o, none⟩) h, fun b o h => hb.frozen (p := ⟨b, o, none⟩) h⟩

theorem below_drewN {B : Nat} {a w : World} (h : Below B a w) (n : Nat) : Below B a (w.drewN n) := ⟨h.os, h.tape, h.output, h.size, h.block⟩

theorem sum_take_succ {α : Type} (f : α → Nat) (l : List α) (k : Nat) (h : k < l.length) : ((l.take (k + 1)).map f).sum = ((l.take k).map f).sum + f l[k] := by
  rw [List.take_succ_eq_append_getElem h, List.map_append, List.sum_append]
  simp only [List.map_cons, List.map_nil, List.sum_cons, List.sum_nil, Nat.add_zero]

/-- Block g is just the cells cs of element type t, none of them frozen. -/
def Row (w : World) (g : Nat) (t : TypeId) (cs : List Value) : Prop := w.heap[g]? = some (.cells cs.toArray t (0, 0))

section
variable {w w' : World} {g : Nat} {t : TypeId} {cs : List Value}
theorem Row.lt (h : Row w g t cs) : g < w.heap.size := by
  rcases Nat.lt_or_ge g w.heap.size with hlt | hge
  · exact hlt
  · unfold Row at h; rw [Array.getElem?_eq_none hge] at h; cases h
theorem Row.cell (h : Row w g t cs) (i : Nat) : w.cell? ⟨g, i, none⟩ = cs[i]? := by
  unfold Row at h
  simp [World.cell?, h]
theorem Row.frozen (h : Row w g t cs) (i : Nat) : w.frozen? ⟨g, i, none⟩ = false := by
  unfold Row at h
  simp [World.frozen?, h]
theorem Row.set (h : Row w g t cs) (i : Nat) (u : Value) : Row (w.setCell ⟨g, i, none⟩ u) g t (cs.set i u) := by
  unfold Row at h ⊢
  simp [World.setCell, Array.getElem?_modify, h]
theorem Row.far (h : Row w g t cs) {p : Addr} (hp : g ≠ p.block) (u : Value) : Row (w.setCell p u) g t cs := (Below.heap_setCell w p u g hp).trans h
theorem Row.below {B : Nat} (h : Row w g t cs) (hb : Below B w w') (hg : g < B) : Row w' g t cs := (hb.block g hg).trans h
theorem Row.alloc (h : Row w g t cs) (o : Obj) : Row (w.alloc o) g t cs := (Below.heap_alloc w o g h.lt).trans h
theorem Row.drew (h : Row w g t cs) : Row w.drew g t cs := h
theorem Row.drewN (h : Row w g t cs) (n : Nat) : Row (w.drewN n) g t cs := h
theorem Row.new (w : World) (t : TypeId) (cs : List Value) : Row (w.alloc (.cells cs.toArray t)) w.heap.size t cs := by
  unfold Row
  show (w.heap.push _)[w.heap.size]? = _
  simp
end

/-- The slice value v reads in w as the list l, each element as the s cells f x; its cells lie in a block from B0 on, and none is frozen. -/
def OwnS {α : Type} (w : World) (B0 s : Nat) (f : α → List Value) (v : Value) (l : List α) : Prop :=
  ∃ A c, v = .slice A l.length c ∧ l.length ≤ c ∧ c ≤ maxLen ∧
    (l ≠ [] → ∃ b off, A = some ⟨b, off, none⟩ ∧ B0 ≤ b ∧ b < w.heap.size ∧ (∀ o, w.frozen? ⟨b, o, none⟩ = false) ∧
      ∀ i x, l[i]? = some x → ∀ j u, (f x)[j]? = some u → w.cell? ⟨b, off + i * s + j, none⟩ = some u)

section
variable {α : Type} {w w' : World} {B0 s : Nat} {f : α → List Value} {v : Value} {l : List α}
theorem OwnS.rd (h : OwnS w B0 s f v l) : RdS w w.heap.size s f v l := by
  obtain ⟨A, c, hv, hlc, hcm, hn⟩ := h
  refine ⟨A, c, hv, hlc, hcm, fun hne => ?_⟩
  obtain ⟨b, off, hA, _, hb, _, hc⟩ := hn hne
  exact ⟨b, off, hA, hb, hc⟩
theorem OwnS.below (h : OwnS w B0 s f v l) (hb : Below w.heap.size w w') : OwnS w' B0 s f v l := by
  obtain ⟨A, c, hv, hlc, hcm, hn⟩ := h
  refine ⟨A, c, hv, hlc, hcm, fun hne => ?_⟩
  obtain ⟨b, off, hA, hB, hlt, hf, hc⟩ := hn hne
  exact ⟨b, off, hA, hB, Nat.lt_of_lt_of_le hlt hb.size, fun o => (hb.frozen (p := ⟨b, o, none⟩) hlt).trans (hf o), fun i x hx j u hu => (hb.cell (p := ⟨b, _, none⟩) hlt).trans (hc i x hx j u hu)⟩
theorem OwnS.low (h : OwnS w B0 s f v l) {B1 : Nat} (hB : B1 ≤ B0) : OwnS w B1 s f v l := by
  obtain ⟨A, c, hv, hlc, hcm, hn⟩ := h
  refine ⟨A, c, hv, hlc, hcm, fun hne => ?_⟩
  obtain ⟨b, off, hA, h1, h2⟩ := hn hne
  exact ⟨b, off, hA, by omega, h2⟩
end

/-- What a function that builds a new slice leaves. -/
def NewS {α : Type} (W : World) (s : Nat) (f : α → List Value) (l : List α) (e : Ending) (w' : World) : Prop :=
  ∃ v, e = .returned v ∧ OwnS w' W.heap.size s f v l ∧ Below W.heap.size W w'

theorem flat_get {α : Type} {f : α → List Value} {s : Nat} (hf : ∀ x, (f x).length = s) : ∀ (l : List α) (i j : Nat) (x : α) (u : Value), l[i]? = some x → (f x)[j]? = some u → (l.flatMap f)[i * s + j]? = some u := by
  intro l
  induction l with
  | nil => intro i j x u h; simp at h
  | cons y r ih =>
    intro i j x u h hu
    have hj : j < s := by
      have := (List.getElem?_eq_some_iff.1 hu).1
      rw [hf] at this
      exact this
    rw [List.flatMap_cons]
    cases i with
    | zero =>
      simp only [List.getElem?_cons_zero, Option.some.injEq] at h
      subst h
      rw [List.getElem?_append_left (by rw [hf]; omega)]
      simpa using hu
    | succ i =>
      rw [List.getElem?_append_right (by rw [hf, Nat.succ_mul]; omega), hf]
      have : (i + 1) * s + j - s = i * s + j := by rw [Nat.succ_mul]; omega
      rw [this]
      exact ih i j x u (by simpa using h) hu

theorem flat_len {α : Type} {f : α → List Value} {s : Nat} (hf : ∀ x, (f x).length = s) (l : List α) : (l.flatMap f).length = l.length * s := by
  induction l with
  | nil => simp
  | cons x r ih => rw [List.flatMap_cons, List.length_append, hf, ih, List.length_cons, Nat.succ_mul, Nat.add_comm]

/-- a slice that the call owns (the kit's word) is a slice of its own -/
theorem OwnS.of_own {α : Type} {w : World} {base s n : Nat} {e : TypeId} {f : α → List Value} {l : List α} {v : Value} (h : w.ownsRow base e s v n (l.flatMap f)) (hn : n = l.length) (hf : ∀ x, (f x).length = s) : OwnS w base s f v l := by
  subst hn
  obtain ⟨h1, h2⟩ := h
  rcases h2 with ⟨rfl, h2⟩ | ⟨g, cap, cur, rfl, hg, hh, hnc, hcm, hcs, htk⟩
  · have hl : l = [] := List.length_eq_zero_iff.1 h2
    subst hl
    exact ⟨none, 0, rfl, Nat.le_refl _, by simp [maxLen], fun h => absurd rfl h⟩
  · refine ⟨_, cap, rfl, hnc, hcm, fun _ => ⟨g, 0, rfl, hg, ?_, fun o => by simp [World.frozen?, hh], fun i x hx j u hu => ?_⟩⟩
    · rcases Nat.lt_or_ge g w.heap.size with hlt | hge
      · exact hlt
      · rw [Array.getElem?_eq_none hge] at hh; cases hh
    · have hj : j < s := by
        have := (List.getElem?_eq_some_iff.1 hu).1
        rwa [hf] at this
      have hi : i < l.length := (List.getElem?_eq_some_iff.1 hx).1
      have hb : i * s + s ≤ l.length * s := by rw [← Nat.succ_mul]; exact Nat.mul_le_mul_right _ hi
      have key := flat_get hf l i j x u hx hu
      rw [← htk, List.getElem?_take_of_lt (by omega)] at key
      simp only [World.cell?, hh, Nat.zero_add]
      simpa using key

/-- a literal without elements is the call's own -/
theorem own_empty (w : World) (base : Nat) (e : TypeId) (s : Nat) (hB : base ≤ w.heap.size) : (w.alloc (.cells #[] e)).ownsRow base e s (.slice (some ⟨w.heap.size, 0, none⟩) 0 0) 0 [] :=
  ⟨by simp, .inr ⟨w.heap.size, 0, #[], rfl, hB, heap_alloc_new w _, Nat.le_refl _, by simp [maxLen], by simp, by simp⟩⟩

/-- A row that holds exactly the elements of l, one cell each, is a slice of its own. -/
theorem OwnS.of_row {α : Type} {w : World} {B0 g : Nat} {t : TypeId} {s : Nat} {f : α → List Value} {l : List α} (hr : Row w g t (l.flatMap f)) (hB : B0 ≤ g) (hf : ∀ x, (f x).length = s) (hm : l.length ≤ maxLen) :
    OwnS w B0 s f (.slice (some ⟨g, 0, none⟩) l.length l.length) l := by
  refine ⟨_, _, rfl, Nat.le_refl _, hm, fun _ => ⟨g, 0, rfl, hB, hr.lt, hr.frozen, fun i x hx j u hu => ?_⟩⟩
  rw [hr.cell, Nat.zero_add]
  exact flat_get hf l i j x u hx hu

/-- n elements of zero cells -/
def zeros (zs : List Value) (n : Nat) : List Value := (List.replicate n zs).flatten

theorem length_zeros (zs : List Value) (n : Nat) : (zeros zs n).length = n * zs.length := by simp [zeros]

theorem madeCells_eq (zs : List Value) (n : Nat) : madeCells zs.toArray (n * zs.length) = (zeros zs n).toArray := by
  apply Array.ext
  · simp [madeCells, length_zeros]
  · intro i h1 h2
    have hi : i < n * zs.length := by simpa [madeCells] using h1
    have hz : 0 < zs.length := by
      rcases Nat.eq_zero_or_pos zs.length with h | h
      · rw [h, Nat.mul_zero] at hi; omega
      · exact h
    simp only [madeCells, Array.getElem_map, Array.getElem_range, List.size_toArray, List.getElem_toArray]
    have key : ∀ (n i : Nat), i < n * zs.length → (zeros zs n)[i]? = zs[i % zs.length]? := by
      intro n
      induction n with
      | zero => intro i h; omega
      | succ n ih =>
        intro i h
        have e : zeros zs (n + 1) = zs ++ zeros zs n := by simp [zeros, List.replicate_succ]
        rw [e]
        by_cases hlt : i < zs.length
        · rw [List.getElem?_append_left hlt, Nat.mod_eq_of_lt hlt]
        · rw [List.getElem?_append_right (by omega), ih (i - zs.length) (by rw [Nat.succ_mul] at h; omega), Nat.mod_eq_sub_mod (a := i) (by omega)]
    have hk := key n i hi
    have hm : i % zs.length < zs.length := Nat.mod_lt _ hz
    rw [List.getElem?_eq_getElem (by simpa using h2), List.getElem?_eq_getElem hm] at hk
    injection hk with hk
    rw [hk]
    simp [hm]

theorem run_mk {P : Program} (t e : TypeId) (z : Value) (zs : List Value) (s bytes : Nat) (ht : P.underlying t = some (.slice e)) (hinfo : (P.info? e).map (fun i => (i.zero, i.size, i.bytes)) = some (some z, s, bytes))
    (hz1 : z.cells = zs.toArray) (hs : zs.length = s) (kl kc : IntKind) (n : Nat) (hbytes : bytes * n ≤ 281474976710656) (h63 : n ≤ 9223372036854775807) (w : World) :
    (Instr.makeSlice t (.int kl (n : Int)) (.int kc (n : Int))).run P w = .ok (.slice (some ⟨w.heap.size, 0, none⟩) n n) (w.alloc (.cells (zeros zs n).toArray e)) := by
  obtain ⟨i, hi, hzz⟩ := Option.map_eq_some_iff.1 hinfo
  simp only [Prod.mk.injEq] at hzz
  obtain ⟨hz, hs', hb⟩ := hzz
  have hb' : (i.bytes : Int) * (n : Int) ≤ 281474976710656 := by
    have h : ((i.bytes * n : Nat) : Int) ≤ 281474976710656 := by rw [hb]; omega
    rwa [Int.natCast_mul] at h
  have hr := run_make (P := P) t e i z ht hi hz kl kc n n (by omega) (Int.le_refl _) hb' (by omega) (w := w)
  simp only [Int.toNat_natCast, hz1, hs'] at hr
  rw [← hs, madeCells_eq] at hr
  exact hr

/-- the cells of a row of n elements after the first k of l have been stored -/
def rowOf {α : Type} (f : α → List Value) (zs : List Value) (l : List α) (k : Nat) : List Value := (l.take k).flatMap f ++ zeros zs (l.length - k)

theorem rowOf_zero {α : Type} (f : α → List Value) (zs : List Value) (l : List α) : rowOf f zs l 0 = zeros zs l.length := by simp [rowOf]
theorem rowOf_all {α : Type} (f : α → List Value) (zs : List Value) (l : List α) : rowOf f zs l l.length = l.flatMap f := by simp [rowOf, zeros]

/-- cells from i on set to us -/
def setAll : List Value → Nat → List Value → List Value
  | cs, _, [] => cs
  | cs, i, u :: us => setAll (cs.set i u) (i + 1) us

theorem setAll_eq (us : List Value) : ∀ (cs : List Value) (i : Nat), i + us.length ≤ cs.length → setAll cs i us = cs.take i ++ us ++ cs.drop (i + us.length) := by
  induction us with
  | nil => intro cs i _; simp [setAll]
  | cons u us ih =>
    intro cs i h
    simp only [List.length_cons] at h
    rw [setAll, ih _ _ (by simp; omega)]
    rw [List.take_set, List.drop_set_of_lt (by omega)]
    have e1 : (cs.take (i + 1)).set i u = cs.take i ++ [u] := by
      have hl : (cs.take i).length = i := List.length_take_of_le (by omega)
      rw [List.take_succ_eq_append_getElem (by omega), List.set_append_right _ _ (by omega), hl, Nat.sub_self, List.set_cons_zero]
    rw [e1]
    simp [Nat.add_assoc, Nat.add_comm 1]

theorem length_flatMap_of {α : Type} {f : α → List Value} {s : Nat} (hf : ∀ x, (f x).length = s) (l : List α) : (l.flatMap f).length = l.length * s := by
  induction l with
  | nil => simp
  | cons x r ih => rw [List.flatMap_cons, List.length_append, hf, ih, List.length_cons, Nat.succ_mul, Nat.add_comm]

theorem length_rowOf {α : Type} {f : α → List Value} {zs : List Value} {s : Nat} (hf : ∀ x, (f x).length = s) (hz : zs.length = s) (l : List α) (k : Nat) (hk : k ≤ l.length) : (rowOf f zs l k).length = l.length * s := by
  unfold rowOf
  rw [List.length_append, length_flatMap_of hf, length_zeros, hz, List.length_take, ← Nat.add_mul]
  congr 1
  omega

theorem rowOf_next {α : Type} {f : α → List Value} {zs : List Value} {s : Nat} (hf : ∀ x, (f x).length = s) (hz : zs.length = s) (l : List α) (k : Nat) (hk : k < l.length) :
    setAll (rowOf f zs l k) (k * s) (f l[k]) = rowOf f zs l (k + 1) := by
  have hl := length_rowOf hf hz l k (by omega)
  have hb : k * s + s ≤ l.length * s := by rw [← Nat.succ_mul]; exact Nat.mul_le_mul_right _ hk
  rw [setAll_eq _ _ _ (by rw [hf, hl]; exact hb), hf]
  have ht : ((l.take k).flatMap f).length = k * s := by rw [length_flatMap_of hf, List.length_take, Nat.min_eq_left (by omega)]
  obtain ⟨m, hm⟩ : ∃ m, l.length - k = m + 1 := ⟨l.length - k - 1, by omega⟩
  have hm' : l.length - (k + 1) = m := by omega
  unfold rowOf
  rw [List.take_left' ht, List.take_succ_eq_append_getElem hk, List.flatMap_append, hm, hm']
  have e : zeros zs (m + 1) = zs ++ zeros zs m := by simp [zeros, List.replicate_succ]
  rw [e, ← List.append_assoc, List.drop_left' (by rw [List.length_append, ht, hz])]
  simp

/-- a cell of an element that has not been stored yet is there -/
theorem rowOf_old {α : Type} {f : α → List Value} {zs : List Value} {s : Nat} (hf : ∀ x, (f x).length = s) (hz : zs.length = s) (l : List α) (k j : Nat) (hk : k < l.length) (hj : j < s) :
    ∃ u, (rowOf f zs l k)[k * s + j]? = some u := by
  have hl := length_rowOf hf hz l k (by omega)
  have hb : k * s + s ≤ l.length * s := by rw [← Nat.succ_mul]; exact Nat.mul_le_mul_right _ hk
  exact ⟨_, List.getElem?_eq_getElem (by rw [hl]; omega)⟩

theorem ba_inj {a b : ByteArray} (h : a.toList = b.toList) : a = b := by
  rw [ByteArray.toList_eq, ByteArray.toList_eq] at h
  cases a; cases b
  simp only [ByteArray.mk.injEq]
  exact Array.toList_inj.1 h
theorem ba_beq (a b : ByteArray) : (a.toList == b.toList) = decide (a = b) := by
  by_cases h : a = b
  · subst h; simp
  · rw [decide_eq_false h]
    exact beq_eq_false_iff_ne.2 fun e => h (ba_inj e)

/-- the world but for draws -/
def QW (w wr : World) : Prop := ∃ n, wr = w.drewN n
theorem QW.refl (w : World) : QW w w := ⟨0, rfl⟩
theorem QW.drewN {w wr : World} (h : QW w wr) (n : Nat) : QW w (wr.drewN n) := by
  obtain ⟨m, rfl⟩ := h
  exact ⟨m + n, World.drewN_drewN _ _ _⟩
theorem QW.drew {w wr : World} (h : QW w wr) : QW w wr.drew := h.drewN 1
theorem QW.trans {a b c : World} (h : QW a b) (k : QW b c) : QW a c := by
  obtain ⟨m, rfl⟩ := k
  exact h.drewN m
theorem QW.cell {w wr : World} (h : QW w wr) (p : Addr) : wr.cell? p = w.cell? p := by
  obtain ⟨m, rfl⟩ := h
  rfl
theorem QW.below {w wr : World} (h : QW w wr) (B : Nat) : Below B w wr := by
  obtain ⟨m, rfl⟩ := h
  exact below_drewN (Below.refl _ _) m
theorem QW.size {w wr : World} (h : QW w wr) : wr.heap.size = w.heap.size := by
  obtain ⟨m, rfl⟩ := h
  rfl

/-- a quiet function: it only reads; it may draw -/
def Quiet (v : Value) (w : World) (e : Ending) (w' : World) : Prop := e = .returned v ∧ ∃ n, w' = w.drewN n

/-- what a size function says: -1, or so much is left -/
def SzPost (tot : Nat) (left : Int) (w : World) (e : Ending) (w' : World) : Prop :=
  ∃ r : Int, e = .returned (.int .i64 r) ∧ w = w' ∧ -1 ≤ r ∧ r ≤ left ∧ (0 ≤ r → (tot : Int) ≤ left - r)

/-- what a size function says, where it may make memory: -1, or so much is left -/
def SzB (tot : Nat) (left : Int) (w : World) (e : Ending) (w' : World) : Prop :=
  ∃ r : Int, e = .returned (.int .i64 r) ∧ Below w.heap.size w w' ∧ -1 ≤ r ∧ r ≤ left ∧ (0 ≤ r → (tot : Int) ≤ left - r)

/-- what a function that answers a bool and may make memory leaves -/
def SaysB (b : Bool) (W : World) (e : Ending) (w' : World) : Prop := e = .returned (.bool b) ∧ Below W.heap.size W w'

/-- nothing that was there has turned -/
def Keeps (w w' : World) : Prop := Below w.heap.size w w'
theorem Keeps.refl (w : World) : Keeps w w := Below.refl _ _
theorem Keeps.tr {a b c : World} (h : Keeps a b) (k : Keeps b c) : Keeps a c := Below.trans h (Below.mono k (Below.size h))
theorem QW.keeps {w w' : World} (h : QW w w') : Keeps w w' := h.below _
theorem RdS.keeps {α : Type} {w w' : World} {s : Nat} {f : α → List Value} {v : Value} {l : List α} (h : RdS w w.heap.size s f v l) (k : Keeps w w') : RdS w' w'.heap.size s f v l :=
  (h.below k).more (Below.size k)
theorem OwnS.keeps {α : Type} {w w' : World} {B0 s : Nat} {f : α → List Value} {v : Value} {l : List α} (h : OwnS w B0 s f v l) (k : Keeps w w') : OwnS w' B0 s f v l := h.below k

theorem own_keeps {w w' : World} {base s n : Nat} {e : TypeId} {v : Value} {xs : List Value} (h : w.ownsRow base e s v n xs) (k : Keeps w w') : w'.ownsRow base e s v n xs := by
  obtain ⟨h1, h2⟩ := h
  refine ⟨h1, ?_⟩
  rcases h2 with h2 | ⟨g, cap, cur, hv, hg, hh, r⟩
  · exact .inl h2
  · refine .inr ⟨g, cap, cur, hv, hg, ?_, r⟩
    rw [Below.block k g ?_]
    · exact hh
    · rcases Nat.lt_or_ge g w.heap.size with hlt | hge
      · exact hlt
      · rw [Array.getElem?_eq_none hge] at hh; cases hh
theorem SzPost.szB {tot : Nat} {left : Int} {w : World} {e : Ending} {w' : World} (h : SzPost tot left w e w') : SzB tot left w e w' := by
  obtain ⟨r, h1, rfl, h3⟩ := h
  exact ⟨r, h1, Below.refl _ _, h3⟩
theorem Quiet.says {b : Bool} {w : World} {e : Ending} {w' : World} (h : Quiet (.bool b) w e w') : SaysB b w e w' := ⟨h.1, QW.keeps h.2⟩

/-- what a function that answers a number and may make memory leaves -/
def SaysI (n : Int) (W : World) (e : Ending) (w' : World) : Prop := e = .returned (.int .i64 n) ∧ Below W.heap.size W w'
theorem Quiet.saysI {n : Int} {w : World} {e : Ending} {w' : World} (h : Quiet (.int .i64 n) w e w') : SaysI n w e w' := ⟨h.1, QW.keeps h.2⟩

/-- 'append(out, y)', out the call's own, y one element that stands in a new block: the law, in the words of these texts -/
theorem wp_app1 {P : Program} (wr : World) {ops : Array Oper} {rest : List Oper} {o : Oper} {a : Act} {Q : Exit → Act → World → Prop} {α : Type} (f : α → List Value) (y : α) (sx x : Operand) (t base e s bytes : Nat) (z : Value)
    (hgd : o.guard = none) (ho : o.op = .call { callee := .builtin .append, args := #[sx, x], argTypes := #[t, t] })
    (ht : P.underlying t = some (.slice e)) (hinfo : (P.info? e).map (fun i => (i.zero, i.size, i.bytes)) = some (some z, s, bytes)) (hzs : z.cells.size = s) (hsz : 0 < s)
    (v : Value) (n : Nat) (l : List α) (hs : a.eval sx = v) (hown : wr.ownsRow base e s v n (l.flatMap f)) (hx : a.eval x = .slice (some ⟨wr.heap.size, 0, none⟩) 1 1) (hfl : (f y).length = s)
    (h1 : ∀ u ∈ f y, u.oneCell' = true) (hn : n ≤ 1099511627776) (hbytes : (n + 1) * bytes ≤ 140737488355328) (hbase : base ≤ wr.heap.size)
    (h : ∀ v' w', w'.ownsRow base e s v' (n + 1) ((l ++ [y]).flatMap f) → Below base wr w' → wpList P ops Q rest (a.put o.dst v') w') :
    wpList P ops Q (o :: rest) a (wr.alloc (.cells (f y).toArray e)) := by
  obtain ⟨i, hi, hz0, hz1, hz2⟩ := info_parts hinfo
  refine wpList_append_own _ hgd sx x t ho base e i z s bytes ht hi hz0 hz1 hz2 hzs hsz v n _ hs (hown.alloc _) ⟨wr.heap.size, 0, none⟩ 1 1 (f y) hx (by omega) ?_ h1 (by simp only [maxLen]; omega) hbytes (by simp; omega) ?_
  · intro j u hj
    rw [add_plain', Nat.zero_add, World.cell?_alloc_at _ _ _ _ rfl]
    simpa using hj
  · intro v' w' ho' hg _
    refine h v' w' ?_ ?_
    · rw [List.flatMap_append]
      simpa using ho'
    · exact ((Below.refl _ _).alloc hbase _).grown hg (by simp; omega) (fun k hk => (hown.lt k hk).1)

/-- 'append(out, y)', out the call's own, y one element that stands in a new block: the same, as one step of a region that draws its order -/
theorem step_app1 {P : Program} (wr : World) {ops : Array Oper} {o : Oper} {a : Act} {K : Act → World → Prop} {Q : Exit → Act → World → Prop} {E : Prop} {α : Type} (f : α → List Value) (y : α) (sx x : Operand) (t base e s bytes : Nat) (z : Value)
    (hgd : o.guard = none) (ho : o.op = .call { callee := .builtin .append, args := #[sx, x], argTypes := #[t, t] })
    (ht : P.underlying t = some (.slice e)) (hinfo : (P.info? e).map (fun i => (i.zero, i.size, i.bytes)) = some (some z, s, bytes)) (hzs : z.cells.size = s) (hsz : 0 < s)
    (v : Value) (n : Nat) (l : List α) (hs : a.eval sx = v) (hown : wr.ownsRow base e s v n (l.flatMap f)) (hx : a.eval x = .slice (some ⟨wr.heap.size, 0, none⟩) 1 1) (hfl : (f y).length = s)
    (h1 : ∀ u ∈ f y, u.oneCell' = true) (hn : n ≤ 1099511627776) (hbytes : (n + 1) * bytes ≤ 140737488355328) (hbase : base ≤ wr.heap.size)
    (h : ∀ v' w', w'.ownsRow base e s v' (n + 1) ((l ++ [y]).flatMap f) → Below base wr w' → K (a.put o.dst v') w') :
    if Region.wanted o (yielded ops a.tmps) = true then Oper.wp P o a (wr.alloc (.cells (f y).toArray e)) K Q else E := by
  have hw : Region.wanted o (yielded ops a.tmps) = true := by simp [Region.wanted, hgd]
  rw [if_pos hw]
  obtain ⟨i, hi, hz0, hz1, hz2⟩ := info_parts hinfo
  refine wp_append_own _ sx x t ho base e i z s bytes ht hi hz0 hz1 hz2 hzs hsz v n _ hs (hown.alloc _) ⟨wr.heap.size, 0, none⟩ 1 1 (f y) hx (by omega) ?_ h1 (by simp only [maxLen]; omega) hbytes (by simp; omega) ?_
  · intro j u hj
    rw [add_plain', Nat.zero_add, World.cell?_alloc_at _ _ _ _ rfl]
    simpa using hj
  · intro v' w' ho' hg _
    refine h v' w' ?_ ?_
    · rw [List.flatMap_append]
      simpa using ho'
    · exact ((Below.refl _ _).alloc hbase _).grown hg (by simp; omega) (fun k hk => (hown.lt k hk).1)

theorem ret_int {k : IntKind} {a b : Int} (h : a = b) : Ending.returned (.int k a) = .returned (.int k b) := by rw [h]
theorem ret_bool {a b : Bool} (h : a = b) : Ending.returned (.bool a) = .returned (.bool b) := by rw [h]

end Go.Proofs.YtimnogjgokljbaaGreatDoor
