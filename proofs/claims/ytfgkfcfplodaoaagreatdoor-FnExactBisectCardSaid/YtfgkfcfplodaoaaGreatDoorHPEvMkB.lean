/-
  Marking a row of blocks: every cell of it, and of the rows within it.
-/
import Derived.Test.YtfgkfcfplodaoaaGreatDoorG34
import Derived.Test.YtfgkfcfplodaoaaGreatDoorG29
namespace Go.Proofs.YtfgkfcfplodaoaaGreatDoor
set_option maxRecDepth 100000
set_option linter.unusedVariables false
set_option linter.unusedSimpArgs false
open Go Go.RowKit
set_option maxHeartbeats 8000000
set_option linter.unusedVariables false
set_option linter.unusedSimpArgs false

/-- a block whose rows are slices' values -/
abbrev TBv := THeader × Value × Value × Int × Int × ByteArray × Value
def cBv (x : TBv) : List Value := [.int .i64 x.1.1, .int .i64 x.1.2.1, .string x.1.2.2.1, .string x.1.2.2.2.1, .string x.1.2.2.2.2.1, .string x.1.2.2.2.2.2, x.2.1, x.2.2.1, .int .i64 x.2.2.2.1, .int .i64 x.2.2.2.2.1, .string x.2.2.2.2.2.1, x.2.2.2.2.2.2]
theorem cBv_len (x : TBv) : (cBv x).length = 12 := rfl
abbrev bkG (l : List TBlock) (k : Nat) : TBlock := l.getD k bkZ
def nB (b : TBlock) : Nat := 9 + 2 * b.2.1.length + 2 * b.2.2.1.length + 2 * b.2.2.2.2.2.2.length
def kB (l : List TBlock) (k : Nat) : Nat → Nat
  | 0 => k
  | i + 1 => kB l k i + nB (bkG l i)
theorem kB_mono (l : List TBlock) (k : Nat) {i j : Nat} (h : i ≤ j) : kB l k i ≤ kB l k j := by
  induction h with
  | refl => exact Nat.le_refl _
  | @step m _ ih =>
    have h2 : kB l k (m + 1) = kB l k m + nB (bkG l m) := rfl
    show kB l k i ≤ kB l k (m + 1)
    omega
theorem kB_len (l : List TBlock) (k : Nat) : ∀ i : Nat, k + i ≤ kB l k i
  | 0 => Nat.le_refl _
  | i + 1 => by
    have ih := kB_len l k i
    have h2 : kB l k (i + 1) = kB l k i + nB (bkG l i) := rfl
    unfold nB at h2
    omega
/-- a block with its marks from m on -/
def mkBv (m a b : Nat) (v1 v2 v3 : Value) : TBv := (((m : Int), (m : Int) + 1, mtext (m + 2), mtext (m + 3), mtext (m + 4), mtext (m + 5)), v1, v2, ((m + 6 + 2 * a + 2 * b : Nat) : Int), ((m + 6 + 2 * a + 2 * b : Nat) : Int) + 1, mtext (m + 6 + 2 * a + 2 * b + 2), v3)
def bvG (l : List TBlock) (u : Nat → Nat → Value) (i : Nat) : TBv := ((bkG l i).1, u 0 i, u 1 i, (bkG l i).2.2.2.1, (bkG l i).2.2.2.2.1, (bkG l i).2.2.2.2.2.1, u 2 i)
def bvM (l : List TBlock) (u : Nat → Nat → Value) (k i : Nat) : TBv := mkBv (kB l k i) (bkG l i).2.1.length (bkG l i).2.2.1.length (u 0 i) (u 1 i) (u 2 i)
def bvL (l : List TBlock) (u : Nat → Nat → Value) (k j : Nat) : List TBv := (List.range l.length).map fun i => if i < j then bvM l u k i else bvG l u i
theorem bvL_len (l : List TBlock) (u : Nat → Nat → Value) (k j : Nat) : (bvL l u k j).length = l.length := by simp [bvL]
theorem bvL_get {l : List TBlock} {u : Nat → Nat → Value} {k j i : Nat} (h : i < l.length) : (bvL l u k j)[i]? = some (if i < j then bvM l u k i else bvG l u i) := by simp [bvL, h]
theorem bvL_set {l : List TBlock} {u : Nat → Nat → Value} {k j : Nat} (h : j < l.length) : (bvL l u k j).set j (bvM l u k j) = bvL l u k (j + 1) := by
  refine List.ext_getElem? fun i => ?_
  by_cases hi : i < l.length
  · by_cases e : i = j
    · subst e
      rw [List.getElem?_set_self (by rw [bvL_len]; exact hi), bvL_get hi, if_pos (by omega)]
    · rw [List.getElem?_set_ne (fun h => e h.symm), bvL_get hi, bvL_get hi]
      by_cases hij : i < j
      · rw [if_pos hij, if_pos (by omega)]
      · rw [if_neg hij, if_neg (by omega)]
  · rw [List.getElem?_eq_none (by rw [List.length_set, bvL_len]; omega), List.getElem?_eq_none (by rw [bvL_len]; omega)]
/-- no two of the slices u share a block, and none of them lies in b -/
structure Sep (b n : Nat) (u : Nat → Nat → Value) : Prop where
  out : ∀ q i, q < 3 → i < n → (u q i).ownBlock ≠ some b
  dis : ∀ q i q' i', q < 3 → i < n → q' < 3 → i' < n → (q, i) ≠ (q', i') → ∀ g, (u q i).ownBlock = some g → (u q' i').ownBlock ≠ some g
/-- the block b and those of the slices u may have other content -/
structure Chg3 (w w' : World) (b n : Nat) (u : Nat → Nat → Value) : Prop where
  os : w'.os = w.os
  tape : w'.tape = w.tape
  output : w'.output = w.output
  size : w.heap.size ≤ w'.heap.size
  block : ∀ g, g < w.heap.size → g ≠ b → (∀ q i, q < 3 → i < n → (u q i).ownBlock ≠ some g) → w'.heap[g]? = w.heap[g]?
/-- the rows as they are marked so far -/
structure St3 (w w' : World) (b off n : Nat) (u : Nat → Nat → Value) (L : List TBv) (c1 c2 : Nat → List TVal) (c3 : Nat → List TCSig) : Prop where
  own : OwnAt w' 0 12 cBv b off L
  in1 : ∀ i, i < n → OwnS w' 0 2 cVal (u 0 i) (c1 i)
  in2 : ∀ i, i < n → OwnS w' 0 2 cVal (u 1 i) (c2 i)
  in3 : ∀ i, i < n → OwnS w' 0 2 cCSig (u 2 i) (c3 i)
  chg : Chg3 w w' b n u
section
variable {w w1 w2 : World} {b off n : Nat} {u : Nat → Nat → Value} {L : List TBv} {c1 c2 : Nat → List TVal} {c3 : Nat → List TCSig}
/-- other content at no block but those that may have it -/
theorem St3.step (hs : Sep b n u) (h : St3 w w1 b off n u L c1 c2 c3) (h1 : w2.os = w1.os) (h2 : w2.tape = w1.tape) (h3 : w2.output = w1.output) (h4 : w1.heap.size ≤ w2.heap.size) {L' : List TBv} {c1' c2' : Nat → List TVal} {c3' : Nat → List TCSig}
    (hb : ∀ g, g < w1.heap.size → g ≠ b → (∀ q i, q < 3 → i < n → (u q i).ownBlock ≠ some g) → w2.heap[g]? = w1.heap[g]?)
    (k0 : OwnAt w2 0 12 cBv b off L') (k1 : ∀ i, i < n → OwnS w2 0 2 cVal (u 0 i) (c1' i)) (k2 : ∀ i, i < n → OwnS w2 0 2 cVal (u 1 i) (c2' i)) (k3 : ∀ i, i < n → OwnS w2 0 2 cCSig (u 2 i) (c3' i)) : St3 w w2 b off n u L' c1' c2' c3' :=
  ⟨k0, k1, k2, k3, ⟨h1.trans h.chg.os, h2.trans h.chg.tape, h3.trans h.chg.output, Nat.le_trans h.chg.size h4, fun g hg hne hu => (hb g (Nat.lt_of_lt_of_le hg h.chg.size) hne hu).trans (h.chg.block g hg hne hu)⟩⟩
theorem St3.below (hs : Sep b n u) (h : St3 w w1 b off n u L c1 c2 c3) (hb : Below w1.heap.size w1 w2) : St3 w w2 b off n u L c1 c2 c3 :=
  h.step hs hb.os hb.tape hb.output hb.size (fun g hg _ _ => hb.block g hg) (h.own.below hb) (fun i hi => (h.in1 i hi).below hb) (fun i hi => (h.in2 i hi).below hb) (fun i hi => (h.in3 i hi).below hb)
theorem St3.set (hs : Sep b n u) (h : St3 w w1 b off n u L c1 c2 c3) {j c : Nat} {v : Value} (y : TBv) (hj : j < L.length) (hc : c < 12) (hy : cBv y = (cBv L[j]).set c v) : St3 w (w1.setCell ⟨b, off + j * 12 + c, none⟩ v) b off n u (L.set j y) c1 c2 c3 := by
  have hh : ∀ g, g ≠ b → (w1.setCell ⟨b, off + j * 12 + c, none⟩ v).heap[g]? = w1.heap[g]? := fun g hg => Below.heap_setCell w1 ⟨b, off + j * 12 + c, none⟩ v g hg
  have hz : (w1.setCell ⟨b, off + j * 12 + c, none⟩ v).heap.size = w1.heap.size := by simp [World.setCell]
  have hle : w1.heap.size ≤ (w1.setCell ⟨b, off + j * 12 + c, none⟩ v).heap.size := by rw [hz]; exact Nat.le_refl _
  exact h.step (w2 := w1.setCell ⟨b, off + j * 12 + c, none⟩ v) hs rfl rfl rfl hle (fun g _ hne _ => hh g hne) (h.own.field cBv_len hj hc hy)
    (fun i hi => (h.in1 i hi).blk hle fun q _ hq => hh q fun e => hs.out 0 i (by omega) hi (e ▸ hq)) (fun i hi => (h.in2 i hi).blk hle fun q _ hq => hh q fun e => hs.out 1 i (by omega) hi (e ▸ hq)) (fun i hi => (h.in3 i hi).blk hle fun q _ hq => hh q fun e => hs.out 2 i (by omega) hi (e ▸ hq))
theorem St3.mark (hs : Sep b n u) (h : St3 w w1 b off n u L c1 c2 c3) {j p : Nat} (hp : p < 3) (hj : j < n) (hg : w1.grownBy w2 (u p j).ownBlock) {c1' c2' : Nat → List TVal} {c3' : Nat → List TCSig}
    (k1 : ∀ i, i < n → (p, j) ≠ (0, i) → c1' i = c1 i) (k2 : ∀ i, i < n → (p, j) ≠ (1, i) → c2' i = c2 i) (k3 : ∀ i, i < n → (p, j) ≠ (2, i) → c3' i = c3 i)
    (k1' : p = 0 → OwnS w2 0 2 cVal (u 0 j) (c1' j)) (k2' : p = 1 → OwnS w2 0 2 cVal (u 1 j) (c2' j)) (k3' : p = 2 → OwnS w2 0 2 cCSig (u 2 j) (c3' j)) : St3 w w2 b off n u L c1' c2' c3' := by
  have hb : ∀ g, g < w1.heap.size → (u p j).ownBlock ≠ some g → w2.heap[g]? = w1.heap[g]? := fun g hg' hne => hg.block g hg' (fun e => hne e.symm)
  refine h.step hs hg.os hg.tape hg.output hg.size (fun g h1 _ h3 => hb g h1 (h3 p j hp hj)) (h.own.blk hg.size (hb b h.own.2.1 (hs.out p j hp hj))) (fun i hi => ?_) (fun i hi => ?_) (fun i hi => ?_)
  · by_cases e : (p, j) = (0, i)
    · cases e
      exact k1' rfl
    · rw [k1 i hi e]
      exact (h.in1 i hi).blk hg.size fun g h1 h2 => hb g h1 (hs.dis 0 i p j (by omega) hi hp hj (fun e' => e e'.symm) g h2)
  · by_cases e : (p, j) = (1, i)
    · cases e
      exact k2' rfl
    · rw [k2 i hi e]
      exact (h.in2 i hi).blk hg.size fun g h1 h2 => hb g h1 (hs.dis 1 i p j (by omega) hi hp hj (fun e' => e e'.symm) g h2)
  · by_cases e : (p, j) = (2, i)
    · cases e
      exact k3' rfl
    · rw [k3 i hi e]
      exact (h.in3 i hi).blk hg.size fun g h1 h2 => hb g h1 (hs.dis 2 i p j (by omega) hi hp hj (fun e' => e e'.symm) g h2)
end
def in1B (l : List TBlock) (k j i : Nat) : List TVal := if i < j then marked mkVal 2 (kB l k i + 6) (bkG l i).2.1.length else (bkG l i).2.1
def in2B (l : List TBlock) (k j i : Nat) : List TVal := if i < j then marked mkVal 2 (kB l k i + 6 + 2 * (bkG l i).2.1.length) (bkG l i).2.2.1.length else (bkG l i).2.2.1
def in3B (l : List TBlock) (k j i : Nat) : List TCSig := if i < j then marked mkCSig 2 (kB l k i + 9 + 2 * (bkG l i).2.1.length + 2 * (bkG l i).2.2.1.length) (bkG l i).2.2.2.2.2.2.length else (bkG l i).2.2.2.2.2.2
def updF {α : Type} (f : Nat → α) (j : Nat) (x : α) : Nat → α := fun i => if i = j then x else f i
theorem updF_same {α : Type} {f : Nat → α} {j : Nat} {x : α} : updF f j x j = x := if_pos rfl
theorem updF_other {α : Type} {f : Nat → α} {j : Nat} {x : α} {i : Nat} (h : i ≠ j) : updF f j x i = f i := if_neg h
section
variable {w w1 w2 : World} {b off n : Nat} {u : Nat → Nat → Value} {L : List TBv} {c1 c2 : Nat → List TVal} {c3 : Nat → List TCSig}
theorem St3.mark1 (hs : Sep b n u) (h : St3 w w1 b off n u L c1 c2 c3) {j : Nat} {x : List TVal} (hj : j < n) (hg : w1.grownBy w2 (u 0 j).ownBlock) (ho : OwnS w2 0 2 cVal (u 0 j) x) : St3 w w2 b off n u L (updF c1 j x) c2 c3 :=
  h.mark hs (p := 0) (by omega) hj hg (fun i _ e => updF_other fun e' => e (by rw [e'])) (fun _ _ _ => rfl) (fun _ _ _ => rfl) (fun _ => by rw [updF_same]; exact ho) (fun e => absurd e (by decide)) (fun e => absurd e (by decide))
theorem St3.mark2 (hs : Sep b n u) (h : St3 w w1 b off n u L c1 c2 c3) {j : Nat} {x : List TVal} (hj : j < n) (hg : w1.grownBy w2 (u 1 j).ownBlock) (ho : OwnS w2 0 2 cVal (u 1 j) x) : St3 w w2 b off n u L c1 (updF c2 j x) c3 :=
  h.mark hs (p := 1) (by omega) hj hg (fun _ _ _ => rfl) (fun i _ e => updF_other fun e' => e (by rw [e'])) (fun _ _ _ => rfl) (fun e => absurd e (by decide)) (fun _ => by rw [updF_same]; exact ho) (fun e => absurd e (by decide))
theorem St3.mark3 (hs : Sep b n u) (h : St3 w w1 b off n u L c1 c2 c3) {j : Nat} {x : List TCSig} (hj : j < n) (hg : w1.grownBy w2 (u 2 j).ownBlock) (ho : OwnS w2 0 2 cCSig (u 2 j) x) : St3 w w2 b off n u L c1 c2 (updF c3 j x) :=
  h.mark hs (p := 2) (by omega) hj hg (fun _ _ _ => rfl) (fun _ _ _ => rfl) (fun i _ e => updF_other fun e' => e (by rw [e'])) (fun e => absurd e (by decide)) (fun e => absurd e (by decide)) (fun _ => by rw [updF_same]; exact ho)
theorem St3.setG (hs : Sep b n u) (h : St3 w w1 b off n u L c1 c2 c3) {j c : Nat} {v : Value} {x : TBv} (y : TBv) (hx : L[j]? = some x) (hc : c < 12) (hy : cBv y = (cBv x).set c v) : St3 w (w1.setCell ⟨b, off + j * 12 + c, none⟩ v) b off n u (L.set j y) c1 c2 c3 := by
  have hj := (List.getElem?_eq_some_iff.1 hx).1
  exact h.set hs y hj hc (by rw [(List.getElem?_eq_some_iff.1 hx).2]; exact hy)
theorem set_at {x : TBv} {j : Nat} (y : TBv) (hx : L[j]? = some x) : (L.set j y)[j]? = some y := List.getElem?_set_self (List.getElem?_eq_some_iff.1 hx).1
theorem St3.cell (h : St3 w w1 b off n u L c1 c2 c3) {j : Nat} {x : TBv} (hx : L[j]? = some x) (c : Nat) {v : Value} (hv : (cBv x)[c]? = some v) : w1.cell? ⟨b, off + j * 12 + c, none⟩ = some v := h.own.2.2.2 j x hx c v hv
theorem St3.thaw (h : St3 w w1 b off n u L c1 c2 c3) (o : Nat) : w1.frozen? ⟨b, o, none⟩ = false := h.own.2.2.1 o
end
theorem markV_q (v : Value) (l : List TVal) (k : Nat) (q : Int) (w : World) (hq : q = k) (h : OwnS w 0 2 cVal v l) (h0 : 0 < k) (hn : k + 2 * l.length ≤ 1099511627776) :
    Calls Tryz.prog 89 #[v, .int .i64 q] w (MarksW 2 cVal v (marked mkVal 2 k l.length) (k + 2 * l.length) w) := by
  subst hq
  exact (markValS_any v l k 0 w h h0 hn).mono fun e w' hm => hm.toW
theorem markC_q (v : Value) (l : List TCSig) (k : Nat) (q : Int) (w : World) (hq : q = k) (h : OwnS w 0 2 cCSig v l) (h0 : 0 < k) (hn : k + 2 * l.length ≤ 1099511627776) :
    Calls Tryz.prog 91 #[v, .int .i64 q] w (MarksW 2 cCSig v (marked mkCSig 2 k l.length) (k + 2 * l.length) w) := by
  subst hq
  exact (markCSigS_any v l k 0 w h h0 hn).mono fun e w' hm => hm.toW
theorem in1B_next {l : List TBlock} {k j : Nat} : updF (in1B l k j) j (marked mkVal 2 (kB l k j + 6) (bkG l j).2.1.length) = in1B l k (j + 1) := funext fun i => by
  simp only [in1B, updF]
  by_cases e : i = j
  · subst e; rw [if_pos rfl, if_pos (by omega)]
  · rw [if_neg e]
    by_cases h : i < j
    · rw [if_pos h, if_pos (by omega)]
    · rw [if_neg h, if_neg (by omega)]
theorem in2B_next {l : List TBlock} {k j : Nat} : updF (in2B l k j) j (marked mkVal 2 (kB l k j + 6 + 2 * (bkG l j).2.1.length) (bkG l j).2.2.1.length) = in2B l k (j + 1) := funext fun i => by
  simp only [in2B, updF]
  by_cases e : i = j
  · subst e; rw [if_pos rfl, if_pos (by omega)]
  · rw [if_neg e]
    by_cases h : i < j
    · rw [if_pos h, if_pos (by omega)]
    · rw [if_neg h, if_neg (by omega)]
theorem in3B_next {l : List TBlock} {k j : Nat} : updF (in3B l k j) j (marked mkCSig 2 (kB l k j + 9 + 2 * (bkG l j).2.1.length + 2 * (bkG l j).2.2.1.length) (bkG l j).2.2.2.2.2.2.length) = in3B l k (j + 1) := funext fun i => by
  simp only [in3B, updF]
  by_cases e : i = j
  · subst e; rw [if_pos rfl, if_pos (by omega)]
  · rw [if_neg e]
    by_cases h : i < j
    · rw [if_pos h, if_pos (by omega)]
    · rw [if_neg h, if_neg (by omega)]
theorem markBlockS_any (b off c : Nat) (l : List TBlock) (u : Nat → Nat → Value) (k : Nat) (w : World) (hs : Sep b l.length u) (h : St3 w w b off l.length u (bvL l u k 0) (in1B l k 0) (in2B l k 0) (in3B l k 0)) (hlc : l.length ≤ c) (hcm : c ≤ maxLen)
    (h0 : 0 < k) (hn : kB l k l.length ≤ 1099511627776) :
    Calls Tryz.prog 35 #[.slice (some ⟨b, off, none⟩) l.length c, .int .i64 (k : Int)] w fun e w' => e = .returned (.int .i64 ((kB l k l.length : Nat) : Int)) ∧ St3 w w' b off l.length u (bvL l u k l.length) (in1B l k l.length) (in2B l k l.length) (in3B l k l.length) := by
  have hll : l.length ≤ 1099511627776 := by have := kB_len l k l.length; omega
  go_enter Tryz.func35, Tryz.ntmps35
  go_wp2_with fail
  go_loopw [1, 5] (fun q i wr => ∃ j m : Nat, j ≤ l.length ∧ m = kB l k j ∧ i = .int .i64 j ∧ q = .int .i64 m ∧ St3 w wr b off l.length u (bvL l u k j) (in1B l k j) (in2B l k j) (in3B l k j)) (fun _ i _ => l.length - (intOf i).toNat)
  case atStart => exact ⟨0, k, Nat.zero_le _, rfl, rfl, rfl, h⟩
  case round =>
    obtain ⟨j, m, hj, hm, rfl, rfl, s0⟩ := hrel
    have hmk : k ≤ m := by rw [hm]; exact kB_mono l k (Nat.zero_le j)
    have hm1 : 0 < m := by omega
    clear h
    have HS := Lib.hid hs
    clear hs
    by_cases hlt : j < l.length
    · have hmn : m + nB (bkG l j) ≤ 1099511627776 := by
        have h1 : kB l k (j + 1) = m + nB (bkG l j) := by rw [hm]; rfl
        have h2 := kB_mono l k (Nat.succ_le_of_lt hlt)
        rw [← h1]
        exact Nat.le_trans h2 hn
      have hx := bvL_get (u := u) (k := k) (j := j) hlt
      rw [if_neg (Nat.lt_irrefl j)] at hx
      have hset := bvL_set (u := u) (k := k) hlt
      have hbm : bvM l u k j = mkBv m (bkG l j).2.1.length (bkG l j).2.2.1.length (u 0 j) (u 1 j) (u 2 j) := by rw [hm]; rfl
      have hbg : bvG l u j = ((bkG l j).1, u 0 j, u 1 j, (bkG l j).2.2.2.1, (bkG l j).2.2.2.2.1, (bkG l j).2.2.2.2.2.1, u 2 j) := rfl
      have n1 := in1B_next (l := l) (k := k) (j := j)
      have n2 := in2B_next (l := l) (k := k) (j := j)
      have n3 := in3B_next (l := l) (k := k) (j := j)
      have i1 : in1B l k j j = (bkG l j).2.1 := if_neg (Nat.lt_irrefl _)
      have i2 : in2B l k j j = (bkG l j).2.2.1 := if_neg (Nat.lt_irrefl _)
      have i3 : in3B l k j j = (bkG l j).2.2.2.2.2.2 := if_neg (Nat.lt_irrefl _)
      have hk1 : kB l k (j + 1) = m + nB (bkG l j) := by rw [hm]; rfl
      rw [hbm] at hset
      rw [hbg] at hx
      rw [← hm] at n1 n2 n3
      clear hbm hbg
      generalize bkG l j = bj at *
      obtain ⟨⟨bh, bt, bla, bva, bne, bda⟩, b1, b2, ⟨bch, bcr, bci, b3⟩⟩ := bj
      unfold nB at hmn hk1
      dsimp only at hmn hx hset n1 n2 n3 i1 i2 i3 hk1
      have HN1 := Lib.hid n1
      have HN2 := Lib.hid n2
      have HN3 := Lib.hid n3
      have HI1 := Lib.hid i1
      have HI2 := Lib.hid i2
      have HI3 := Lib.hid i3
      have HSET := Lib.hid hset
      have HK1 := Lib.hid hk1
      have HM := Lib.hid hm
      clear n1 n2 n3 i1 i2 i3 hset hk1 hm hn
      have y1 : ∃ y : TBv, y = (((m : Int), bt, bla, bva, bne, bda), u 0 j, u 1 j, bch, bcr, bci, u 2 j) := ⟨_, rfl⟩
      have x0 := s0.cell hx 0 rfl
      have x1 := s0.cell hx 1 rfl
      have f0 := s0.thaw (off + j * 12)
      have f1 := s0.thaw (off + j * 12 + 1)
      have s1 := s0.setG HS.out (c := 0) (v := .int .i64 (m : Int)) (((m : Int), bt, bla, bva, bne, bda), u 0 j, u 1 j, bch, bcr, bci, u 2 j) hx (by omega) rfl
      have hx1 := set_at (((m : Int), bt, bla, bva, bne, bda), u 0 j, u 1 j, bch, bcr, bci, u 2 j) hx
      have s2 := s1.setG HS.out (c := 1) (v := .int .i64 ((m : Int) + 1)) (((m : Int), (m : Int) + 1, bla, bva, bne, bda), u 0 j, u 1 j, bch, bcr, bci, u 2 j) hx1 (by omega) rfl
      have hx2 := set_at (((m : Int), (m : Int) + 1, bla, bva, bne, bda), u 0 j, u 1 j, bch, bcr, bci, u 2 j) hx1
      simp only [Nat.add_zero] at x0 s2
      have S2 := Lib.hid s2
      have X2 := Lib.hid hx2
      clear s0 s1 s2 hx hx1 hx2 y1
      go_wp2_with fail
      refine (markText_at (m + 2) _ _ (by omega) (by omega) (by omega)).mono ?_
      rintro e w1 ⟨rfl, hb⟩
      have sb := S2.out.below HS.out hb
      have x2 := sb.cell X2.out 2 rfl
      have f2 := sb.thaw (off + j * 12 + 2)
      have sc := sb.setG HS.out (c := 2) (v := .string (mtext (m + 2))) ((((m : Int), (m : Int) + 1, mtext (m + 2), bva, bne, bda), u 0 j, u 1 j, bch, bcr, bci, u 2 j) : TBv) X2.out (by omega) rfl
      have hx3 := set_at ((((m : Int), (m : Int) + 1, mtext (m + 2), bva, bne, bda), u 0 j, u 1 j, bch, bcr, bci, u 2 j) : TBv) X2.out
      have S3 := Lib.hid sc
      have X3 := Lib.hid hx3
      clear sb sc hx3 hb S2 X2
      go_wp2_with fail
      refine (markText_at (m + 3) _ _ (by omega) (by omega) (by omega)).mono ?_
      rintro e w2 ⟨rfl, hb⟩
      have sb := S3.out.below HS.out hb
      have x3 := sb.cell X3.out 3 rfl
      have f3 := sb.thaw (off + j * 12 + 3)
      have sc := sb.setG HS.out (c := 3) (v := .string (mtext (m + 3))) ((((m : Int), (m : Int) + 1, mtext (m + 2), mtext (m + 3), bne, bda), u 0 j, u 1 j, bch, bcr, bci, u 2 j) : TBv) X3.out (by omega) rfl
      have hx4 := set_at ((((m : Int), (m : Int) + 1, mtext (m + 2), mtext (m + 3), bne, bda), u 0 j, u 1 j, bch, bcr, bci, u 2 j) : TBv) X3.out
      have S4 := Lib.hid sc
      have X4 := Lib.hid hx4
      clear sb sc hx4 hb S3 X3
      go_wp2_with fail
      refine (markText_at (m + 4) _ _ (by omega) (by omega) (by omega)).mono ?_
      rintro e w3 ⟨rfl, hb⟩
      have sb := S4.out.below HS.out hb
      have x4 := sb.cell X4.out 4 rfl
      have f4 := sb.thaw (off + j * 12 + 4)
      have sc := sb.setG HS.out (c := 4) (v := .string (mtext (m + 4))) ((((m : Int), (m : Int) + 1, mtext (m + 2), mtext (m + 3), mtext (m + 4), bda), u 0 j, u 1 j, bch, bcr, bci, u 2 j) : TBv) X4.out (by omega) rfl
      have hx5 := set_at ((((m : Int), (m : Int) + 1, mtext (m + 2), mtext (m + 3), mtext (m + 4), bda), u 0 j, u 1 j, bch, bcr, bci, u 2 j) : TBv) X4.out
      have S5 := Lib.hid sc
      have X5 := Lib.hid hx5
      clear sb sc hx5 hb S4 X4
      go_wp2_with fail
      refine (markText_at (m + 5) _ _ (by omega) (by omega) (by omega)).mono ?_
      rintro e w4 ⟨rfl, hb⟩
      have sb := S5.out.below HS.out hb
      have x5 := sb.cell X5.out 5 rfl
      have f5 := sb.thaw (off + j * 12 + 5)
      have x6 := sb.cell X5.out 6 rfl
      have sc := sb.setG HS.out (c := 5) (v := .string (mtext (m + 5))) ((((m : Int), (m : Int) + 1, mtext (m + 2), mtext (m + 3), mtext (m + 4), mtext (m + 5)), u 0 j, u 1 j, bch, bcr, bci, u 2 j) : TBv) X5.out (by omega) rfl
      have hx6 := set_at ((((m : Int), (m : Int) + 1, mtext (m + 2), mtext (m + 3), mtext (m + 4), mtext (m + 5)), u 0 j, u 1 j, bch, bcr, bci, u 2 j) : TBv) X5.out
      have S6 := Lib.hid sc
      have X6 := Lib.hid hx6
      clear sb sc hx6 hb S5 X5
      go_wp2_with fail
      refine (markV_q (u 0 j) b1 (m + 6) _ _ (by omega) (by have := S6.out.in1 j hlt; rw [HI1.out] at this; exact this) (by omega) (by omega)).mono ?_
      rintro e w5 ⟨rfl, o1, g1⟩
      have sb := S6.out.mark1 HS.out hlt g1 o1
      have x7 := sb.cell X6.out 7 rfl
      have S7 := Lib.hid sb
      clear sb o1 g1 S6
      go_wp2_with fail
      refine (markV_q (u 1 j) b2 (m + 6 + 2 * b1.length) _ _ (by omega) (by have := S7.out.in2 j hlt; rw [HI2.out] at this; exact this) (by omega) (by omega)).mono ?_
      rintro e w6 ⟨rfl, o1, g1⟩
      have sb := S7.out.mark2 HS.out hlt g1 o1
      have x8 := sb.cell X6.out 8 rfl
      have f8 := sb.thaw (off + j * 12 + 8)
      have x9 := sb.cell X6.out 9 rfl
      have f9 := sb.thaw (off + j * 12 + 9)
      have sc := sb.setG HS.out (c := 8) (v := .int .i64 ((m + 6 + 2 * b1.length + 2 * b2.length : Nat) : Int)) ((((m : Int), (m : Int) + 1, mtext (m + 2), mtext (m + 3), mtext (m + 4), mtext (m + 5)), u 0 j, u 1 j, ((m + 6 + 2 * b1.length + 2 * b2.length : Nat) : Int), bcr, bci, u 2 j) : TBv) X6.out (by omega) rfl
      have hx7 := set_at ((((m : Int), (m : Int) + 1, mtext (m + 2), mtext (m + 3), mtext (m + 4), mtext (m + 5)), u 0 j, u 1 j, ((m + 6 + 2 * b1.length + 2 * b2.length : Nat) : Int), bcr, bci, u 2 j) : TBv) X6.out
      have sd := sc.setG HS.out (c := 9) (v := .int .i64 (((m + 6 + 2 * b1.length + 2 * b2.length : Nat) : Int) + 1)) ((((m : Int), (m : Int) + 1, mtext (m + 2), mtext (m + 3), mtext (m + 4), mtext (m + 5)), u 0 j, u 1 j, ((m + 6 + 2 * b1.length + 2 * b2.length : Nat) : Int), ((m + 6 + 2 * b1.length + 2 * b2.length : Nat) : Int) + 1, bci, u 2 j) : TBv) hx7 (by omega) rfl
      have hx8 := set_at ((((m : Int), (m : Int) + 1, mtext (m + 2), mtext (m + 3), mtext (m + 4), mtext (m + 5)), u 0 j, u 1 j, ((m + 6 + 2 * b1.length + 2 * b2.length : Nat) : Int), ((m + 6 + 2 * b1.length + 2 * b2.length : Nat) : Int) + 1, bci, u 2 j) : TBv) hx7
      have S8 := Lib.hid sd
      have X8 := Lib.hid hx8
      clear sb sc sd hx7 hx8 o1 g1 S7 X6
      go_wp2_with fail
      refine (markText_at (m + 6 + 2 * b1.length + 2 * b2.length + 2) _ _ (by omega) (by omega) (by omega)).mono ?_
      rintro e w7 ⟨rfl, hb⟩
      have sb := S8.out.below HS.out hb
      have x10 := sb.cell X8.out 10 rfl
      have f10 := sb.thaw (off + j * 12 + 10)
      have x11 := sb.cell X8.out 11 rfl
      have sc := sb.setG HS.out (c := 10) (v := .string (mtext (m + 6 + 2 * b1.length + 2 * b2.length + 2))) ((((m : Int), (m : Int) + 1, mtext (m + 2), mtext (m + 3), mtext (m + 4), mtext (m + 5)), u 0 j, u 1 j, ((m + 6 + 2 * b1.length + 2 * b2.length : Nat) : Int), ((m + 6 + 2 * b1.length + 2 * b2.length : Nat) : Int) + 1, mtext (m + 6 + 2 * b1.length + 2 * b2.length + 2), u 2 j) : TBv) X8.out (by omega) rfl
      have S9 := Lib.hid sc
      clear sb sc hb S8 X8
      go_wp2_with fail
      refine (markC_q (u 2 j) b3 (m + 6 + 2 * b1.length + 2 * b2.length + 3) _ _ (by omega) (by have := S9.out.in3 j hlt; rw [HI3.out] at this; exact this) (by omega) (by omega)).mono ?_
      rintro e w8 ⟨rfl, o1, g1⟩
      have sb := S9.out.mark3 HS.out hlt g1 o1
      have n1 := HN1.out
      have n2 := HN2.out
      have n3 := HN3.out
      have e9 : m + 9 + 2 * b1.length + 2 * b2.length = m + 6 + 2 * b1.length + 2 * b2.length + 3 := by omega
      rw [e9] at n3
      rw [n1, n2, n3] at sb
      simp only [List.set_set] at sb
      have hset := HSET.out
      unfold mkBv at hset
      rw [hset] at sb
      have S10 := Lib.hid sb
      clear sb o1 g1 n1 n2 n3 hset e9 S9
      go_wp2_with fail
      go_roundw
      case rel => exact ⟨j + 1, m + 6 + 2 * b1.length + 2 * b2.length + 3 + 2 * b3.length, Nat.succ_le_of_lt hlt, by rw [HK1.out]; omega, by go_num, by go_num, S10.out⟩
      case measure => simp [intOf]; omega
    · go_wp2_with fail
      go_ret
      have e : j = l.length := by omega
      subst e
      exact ⟨ret_int (by rw [hm]), s0⟩
end Go.Proofs.YtfgkfcfplodaoaaGreatDoor
