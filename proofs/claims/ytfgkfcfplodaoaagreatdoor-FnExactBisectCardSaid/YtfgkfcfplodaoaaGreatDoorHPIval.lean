/-
  Slices that own a block; intervals of blocks. No program is named here.
-/
import Derived.Test.YtfgkfcfplodaoaaGreatDoorG0
namespace Go.Proofs.YtfgkfcfplodaoaaGreatDoor
set_option maxRecDepth 100000
set_option linter.unusedVariables false
set_option linter.unusedSimpArgs false
open Go.RowKit

/-- The block b holds from off on the elements of l, s cells each, and may be written; it is not older than B0. -/
def OwnAt {α : Type} (w : World) (B0 s : Nat) (f : α → List Value) (b off : Nat) (l : List α) : Prop :=
  B0 ≤ b ∧ b < w.heap.size ∧ (∀ o, w.frozen? ⟨b, o, none⟩ = false) ∧ ∀ i x, l[i]? = some x → ∀ j u, (f x)[j]? = some u → w.cell? ⟨b, off + i * s + j, none⟩ = some u

section
variable {α : Type} {w w' : World} {B0 s b off : Nat} {f : α → List Value} {l : List α}
theorem OwnS.at_ {v : Value} (h : OwnS w B0 s f v l) (hne : l ≠ []) : ∃ b off c, v = .slice (some ⟨b, off, none⟩) l.length c ∧ l.length ≤ c ∧ c ≤ maxLen ∧ OwnAt w B0 s f b off l := by
  obtain ⟨A, c, hv, h1, h2, hn⟩ := h
  obtain ⟨b, off, rfl, h3⟩ := hn hne
  exact ⟨b, off, c, hv, h1, h2, h3⟩
theorem OwnAt.slice {c : Nat} (h : OwnAt w B0 s f b off l) (h1 : l.length ≤ c) (h2 : c ≤ maxLen) : OwnS w B0 s f (.slice (some ⟨b, off, none⟩) l.length c) l :=
  ⟨_, c, rfl, h1, h2, fun _ => ⟨b, off, rfl, h⟩⟩
theorem OwnAt.cell (h : OwnAt w B0 s f b off l) {i : Nat} (hi : i < l.length) {j : Nat} {u : Value} (hu : (f l[i])[j]? = some u) : w.cell? ⟨b, off + i * s + j, none⟩ = some u :=
  h.2.2.2 i _ (List.getElem?_eq_getElem hi) j u hu
theorem OwnAt.below (h : OwnAt w B0 s f b off l) (hb : Below w.heap.size w w') : OwnAt w' B0 s f b off l :=
  ⟨h.1, Nat.lt_of_lt_of_le h.2.1 hb.size, fun o => (hb.frozen (p := ⟨b, o, none⟩) h.2.1).trans (h.2.2.1 o), fun i x hx j u hu => (hb.cell (p := ⟨b, _, none⟩) h.2.1).trans (h.2.2.2 i x hx j u hu)⟩
theorem OwnAt.drewN (h : OwnAt w B0 s f b off l) (n : Nat) : OwnAt (w.drewN n) B0 s f b off l := h.below (below_drewN (Below.refl _ _) n)

theorem OwnAt.old (h : OwnAt w B0 s f b off l) (hf : ∀ x, (f x).length = s) {i : Nat} (hi : i < l.length) {j : Nat} (hj : j < s) : ∃ u, w.cell? ⟨b, off + i * s + j, none⟩ = some u :=
  ⟨_, h.2.2.2 i _ (List.getElem?_eq_getElem hi) j _ (List.getElem?_eq_getElem (by rw [hf]; exact hj))⟩

end

/-- but for the blocks from lo on, below hi, nothing that was there has turned -/
structure Only (lo hi : Nat) (w w' : World) : Prop where
  os : w'.os = w.os
  tape : w'.tape = w.tape
  output : w'.output = w.output
  size : w.heap.size ≤ w'.heap.size
  block : ∀ k, k < w.heap.size → k < lo ∨ hi ≤ k → w'.heap[k]? = w.heap[k]?

theorem Only.below {lo hi B : Nat} {w w' : World} (h : Only lo hi w w') (hB : B ≤ lo) (hs : B ≤ w.heap.size) : Below B w w' :=
  ⟨h.os, h.tape, h.output, h.size, fun k hk => h.block k (by omega) (.inl (by omega))⟩

theorem Only.set (w : World) (b o : Nat) (u : Value) : Only b (b + 1) w (w.setCell ⟨b, o, none⟩ u) :=
  ⟨rfl, rfl, rfl, by simp [World.setCell], fun k _ hd => Below.heap_setCell w _ u k (by simp; omega)⟩

section
variable {α : Type} {w w' : World} {lo hi lo' hi' s B : Nat} {f : α → List Value} {v : Value} {l : List α}

/-- a slice of one's own whose block lies from lo on, below hi -/
def OwnI {α : Type} (w : World) (lo hi s : Nat) (f : α → List Value) (v : Value) (l : List α) : Prop :=
  OwnS w lo s f v l ∧ ∀ g, l ≠ [] → v.ownBlock = some g → g < hi

theorem OwnI.kp (h : OwnI w lo hi s f v l) (k : Keeps w w') : OwnI w' lo hi s f v l := ⟨h.1.keeps k, h.2⟩
theorem OwnI.on (h : OwnI w lo hi s f v l) (k : Only lo' hi' w w') (hd : hi ≤ lo' ∨ hi' ≤ lo) : OwnI w' lo hi s f v l := by
  obtain ⟨⟨A, c, rfl, h1, h2, hn⟩, hb⟩ := h
  refine ⟨⟨A, c, rfl, h1, h2, fun hne => ?_⟩, hb⟩
  obtain ⟨b, off, rfl, hlo, hlt, hf, hc⟩ := hn hne
  have hbh := hb b hne rfl
  have hk := k.block b hlt (by rcases hd with hd | hd; exact .inl (by omega); exact .inr (by omega))
  exact ⟨b, off, rfl, hlo, Nat.lt_of_lt_of_le hlt k.size, fun o => (World.frozen?_of_block (a := ⟨b, o, none⟩) hk).trans (hf o), fun i x hx j u hu => (World.cell?_of_block (a := ⟨b, _, none⟩) hk).trans (hc i x hx j u hu)⟩
theorem RdS.shape (h : RdS w B s f v l) : ∃ A c, v = .slice A l.length c := by
  obtain ⟨A, c, hv, _⟩ := h
  exact ⟨A, c, hv⟩
theorem OwnS.shape (h : OwnS w B s f v l) : ∃ A c, v = .slice A l.length c := by
  obtain ⟨A, c, hv, _⟩ := h
  exact ⟨A, c, hv⟩
theorem RdS.kp (h : RdS w B s f v l) (k : Keeps w w') (hB : B ≤ w.heap.size) : RdS w' B s f v l := h.below (Below.mono k hB)
theorem RdS.on (h : RdS w B s f v l) (k : Only lo' hi' w w') (hB : B ≤ lo') (hs : B ≤ w.heap.size) : RdS w' B s f v l := h.below (k.below hB hs)

end

/-- a variable in memory: block b holds the cells cs -/
def BoxAt (w : World) (b : Nat) (cs : List Value) : Prop := b < w.heap.size ∧ ∀ j u, cs[j]? = some u → w.cell? ⟨b, j, none⟩ = some u
theorem BoxAt.new (w : World) (t : TypeId) (cs : List Value) : BoxAt (w.alloc (.cells cs.toArray t)) w.heap.size cs :=
  ⟨by simp, fun j u h => by rw [World.cell?_alloc_at _ _ _ _ rfl]; simpa using h⟩
theorem BoxAt.kp {w w' : World} {b : Nat} {cs : List Value} (h : BoxAt w b cs) (k : Keeps w w') : BoxAt w' b cs :=
  ⟨Nat.lt_of_lt_of_le h.1 (Below.size k), fun j u hu => (Below.cell k (p := ⟨b, j, none⟩) h.1).trans (h.2 j u hu)⟩
theorem BoxAt.on {w w' : World} {b lo hi : Nat} {cs : List Value} (h : BoxAt w b cs) (k : Only lo hi w w') (hd : b < lo ∨ hi ≤ b) : BoxAt w' b cs :=
  ⟨Nat.lt_of_lt_of_le h.1 k.size, fun j u hu => (World.cell?_of_block (a := ⟨b, j, none⟩) (k.block b h.1 hd)).trans (h.2 j u hu)⟩

end Go.Proofs.YtfgkfcfplodaoaaGreatDoor
