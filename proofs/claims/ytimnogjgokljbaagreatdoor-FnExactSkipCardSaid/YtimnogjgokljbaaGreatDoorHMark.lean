/-
  markText, by a contract; marking and holding slices of strings, numbers and truths.
-/
import Derived.Test.YtimnogjgokljbaaGreatDoorG7
import Derived.Test.YtimnogjgokljbaaGreatDoorG4
import Derived.Deep.RegionHeld3
namespace Go.Proofs.YtimnogjgokljbaaGreatDoor
set_option maxRecDepth 100000
set_option linter.unusedVariables false
set_option linter.unusedSimpArgs false
open Go.RowKit

/-- a string made of bytes -/
def bs (l : List UInt8) : ByteArray := ⟨l.toArray⟩
def mdig : Nat → Nat → List UInt8 → List UInt8
  | 0, _, out => out
  | f + 1, k, out => if k = 0 then out else mdig f (k / 10) (UInt8.ofNat (48 + k % 10) :: out)
theorem mdig_same : ∀ (f g k : Nat) (out : List UInt8), k < f → k < g → mdig f k out = mdig g k out := by
  intro f
  induction f with
  | zero => intro g k out h; omega
  | succ f ih =>
    intro g k out h1 h2
    cases g with
    | zero => omega
    | succ g =>
      rw [mdig, mdig]
      by_cases h0 : k = 0
      · rw [if_pos h0, if_pos h0]
      · rw [if_neg h0, if_neg h0]
        exact ih g _ _ (by omega) (by omega)
def mrest (k : Nat) (out : List UInt8) : List UInt8 := mdig (k + 1) k out
theorem mrest_zero (out : List UInt8) : mrest 0 out = out := by simp [mrest, mdig]
theorem mrest_step (k : Nat) (out : List UInt8) (h : 0 < k) : mrest k out = mrest (k / 10) (UInt8.ofNat (48 + k % 10) :: out) := by
  unfold mrest
  rw [mdig, if_neg (by omega)]
  exact mdig_same _ _ _ _ (by omega) (by omega)
/-- the text of mark k -/
def mtext (k : Nat) : ByteArray := bs (109 :: mrest k [])

theorem bs_append (a b : List UInt8) : bs a ++ bs b = bs (a ++ b) := ByteArray.mk_append_mk a b
theorem bs_size (a : List UInt8) : (bs a).size = a.length := by simp [bs, ByteArray.size]

theorem byte_conv (W : World) (j : Nat) (h : j < 256) :
    (convert 56 9 (.slice (some ⟨W.heap.size, 0, none⟩) 1 1)).run Tryz.prog (W.alloc (.cells #[.int .u8 (j : Int)] 5)) = .ok (.string (bs [UInt8.ofNat j])) (W.alloc (.cells #[.int .u8 (j : Int)] 5)) := by
  refine run_convert_bytes_back (P := Tryz.prog) _ _ _ 5 ⟨W.heap.size, 0, none⟩ 1 [UInt8.ofNat j] Tryz.underlying56 Tryz.underlying5 Tryz.underlying9 (fun i hi => ?_)
  obtain rfl : i = 0 := by simpa using hi
  have e : (UInt8.ofNat j).toNat = j := by simp [UInt8.toNat_ofNat']; omega
  simp only [List.getElem_cons_zero, e]
  go_simp
set_option maxHeartbeats 1000000 in
theorem markText_any (k : Nat) (w : World) (h0 : 0 < k) (h1 : k ≤ 1099511627776) :
    Calls Tryz.prog 80 #[.int .i64 k] w fun e w' => e = .returned (.string (mtext k)) ∧ Below w.heap.size w w' := by
  have d0 : decide (k = 0) = false := decide_eq_false (by omega)
  go_enter Tryz.func80, Tryz.ntmps80
  go_wp2_with fail
  go_loopw [0, 3] (fun q o wr => ∃ (j : Nat) (out : List UInt8), q = .int .i64 j ∧ o = .string (bs out) ∧ j + out.length ≤ k ∧ mrest j out = mrest k [] ∧ Below w.heap.size w wr) (fun q _ _ => (intOf q).toNat)
  case atStart => exact ⟨k, [], rfl, rfl, by simp, rfl, Below.refl _ _⟩
  case round =>
    obtain ⟨j, out, rfl, rfl, hl, hm, hb⟩ := hrel
    have HM := Lib.hid hm
    clear hm
    by_cases hj : 0 < j
    · have hc := byte_conv wr (48 + j % 10) (by omega)
      have e0 : (((48 + j % 10 : Nat)) : Int) = 48 + (j : Int) % 10 := by omega
      rw [e0] at hc
      obtain ⟨c, ec⟩ : ∃ c, c = UInt8.ofNat (48 + j % 10) := ⟨_, rfl⟩
      rw [← ec] at hc
      have EC := Lib.hid ec
      have z1 := bs_size out
      have z2 := bs_size [c]
      simp only [List.length_cons, List.length_nil] at z2
      have s1 : (bs out).size ≤ 1099511627776 := by omega
      have s2 : (bs [c]).size ≤ 1 := by omega
      clear z1 z2 e0 ec
      go_wp2_with fail
      go_roundw
      case rel => exact ⟨j / 10, c :: out, by go_num, by rw [bs_append]; rfl, by simp only [List.length_cons]; omega, by rw [← HM.out, mrest_step j out hj, EC.out], hb.alloc hb.size _⟩
      case measure => simp [intOf]; omega
    · obtain rfl : j = 0 := by omega
      have z1 := bs_size out
      have s1 : (bs out).size ≤ 1099511627776 := by omega
      clear z1
      go_wp2_with fail
      go_ret
      refine ⟨?_, hb⟩
      have := HM.out
      rw [mrest_zero] at this
      show Ending.returned (.string (bs [109] ++ bs out)) = _
      rw [bs_append, this]
      rfl

theorem markText_at (k : Nat) (q : Int) (w : World) (hq : q = k) (h0 : 0 < k) (h1 : k ≤ 1099511627776) :
    Calls Tryz.prog 80 #[.int .i64 q] w fun e w' => e = .returned (.string (mtext k)) ∧ Below w.heap.size w w' := by
  subst hq
  exact markText_any k w h0 h1

section
variable {α : Type} {w w' : World} {B0 s b off : Nat} {f : α → List Value} {l : List α}
/-- one field of one element is stored -/
theorem OwnAt.field (h : OwnAt w B0 s f b off l) {i j : Nat} {u : Value} {y : α} (hf : ∀ x, (f x).length = s) (hi : i < l.length) (hj : j < s) (hy : f y = (f l[i]).set j u) :
    OwnAt (w.setCell ⟨b, off + i * s + j, none⟩ u) B0 s f b off (l.set i y) := by
  obtain ⟨h1, h2, h3, h4⟩ := h
  have hold := h4 i _ (List.getElem?_eq_getElem hi) j _ (List.getElem?_eq_getElem (by rw [hf]; exact hj))
  refine ⟨h1, by simpa [World.setCell] using h2, fun o => by simpa using h3 o, fun i' x hx j' u' hu => ?_⟩
  have hj' : j' < s := by
    have := (List.getElem?_eq_some_iff.1 hu).1
    rwa [hf] at this
  by_cases hii : i' = i
  · subst hii
    have hx' : x = y := by
      rw [List.getElem?_set_self hi] at hx
      injection hx with hx
      exact hx.symm
    subst hx'
    rw [hy] at hu
    by_cases hjj : j' = j
    · subst hjj
      rw [List.getElem?_set_self (by rw [hf]; exact hj)] at hu
      injection hu with hu
      subst hu
      exact World.cell?_setCell_same _ _ _ hold
    · rw [List.getElem?_set_ne (by omega)] at hu
      rw [World.cell?_setCell_other _ _ _ _ (by intro e; simp only [Addr.mk.injEq, true_and, and_true] at e; omega)]
      exact h4 i' _ (List.getElem?_eq_getElem hi) j' u' hu
  · rw [List.getElem?_set_ne (by omega)] at hx
    rw [World.cell?_setCell_other _ _ _ _ (by
      intro e
      simp only [Addr.mk.injEq, true_and, and_true] at e
      apply hii
      have e1 : i' * s + j' = i * s + j := by omega
      have m1 : (i' * s + j') / s = i' := by rw [Nat.mul_comm, Nat.mul_add_div (by omega), Nat.div_eq_of_lt hj', Nat.add_zero]
      have m2 : (i * s + j) / s = i := by rw [Nat.mul_comm, Nat.mul_add_div (by omega), Nat.div_eq_of_lt hj, Nat.add_zero]
      rw [← m1, ← m2, e1])]
    exact h4 i' x hx j' u' hu
end

/-- a slice whose first i elements are marks, from k on, n marks each -/
def marks {α : Type} (mk : Nat → α) (n k i : Nat) (l : List α) : List α := (List.range i).map (fun j => mk (k + n * j)) ++ l.drop i
def marked {α : Type} (mk : Nat → α) (n k m : Nat) : List α := (List.range m).map fun j => mk (k + n * j)
section
variable {α : Type} {mk : Nat → α} {n k i : Nat} {l : List α}
theorem marks_zero : marks mk n k 0 l = l := by simp [marks]
theorem marks_all : marks mk n k l.length l = marked mk n k l.length := by simp [marks, marked]
theorem length_marks (h : i ≤ l.length) : (marks mk n k i l).length = l.length := by simp [marks]; omega
theorem length_marked {m : Nat} : (marked mk n k m).length = m := by simp [marked]
theorem marks_next (h : i < l.length) (y : α) (hy : y = mk (k + n * i)) : (marks mk n k i l).set i y = marks mk n k (i + 1) l := by
  subst hy
  unfold marks
  have hl : ((List.range i).map (fun j => mk (k + n * j))).length = i := by simp
  rw [List.set_append_right _ _ (by omega), hl, Nat.sub_self, List.drop_eq_getElem_cons h, List.set_cons_zero, List.range_succ, List.map_append]
  simp
theorem marked_get {m : Nat} (h : i < m) : (marked mk n k m)[i]? = some (mk (k + n * i)) := by
  unfold marked
  rw [List.getElem?_map, List.getElem?_range h]
  rfl
theorem marked_getElem {m : Nat} (h : i < (marked mk n k m).length) : (marked mk n k m)[i] = mk (k + n * i) := by
  simp [marked]
end

/-- what a marking function leaves: the next mark; the marks; nothing else has turned -/
def Marks {α : Type} (B0 s : Nat) (f : α → List Value) (v : Value) (l : List α) (k' : Nat) (w : World) (e : Ending) (w' : World) : Prop :=
  e = .returned (.int .i64 (k' : Int)) ∧ OwnS w' B0 s f v l ∧ (l = [] → w' = w) ∧ w.grownBy w' v.ownBlock

section
variable {α : Type} {w w' : World} {lo hi lo' hi' s B : Nat} {f : α → List Value} {v : Value} {l : List α}
/-- what a marking function leaves, in the words of blocks -/
theorem Marks.own {B0 k' : Nat} {l' : List α} {e : Ending} (h : Marks B0 s f v l' k' w e w') (hi' : OwnI w lo hi s f v l) (hlo : B0 = lo) (hl : l'.length = l.length) :
    e = .returned (.int .i64 (k' : Int)) ∧ OwnI w' lo hi s f v l' ∧ Only lo hi w w' := by
  subst hlo
  obtain ⟨h1, h2, h3, h4⟩ := h
  by_cases hne : l = []
  · have hne' : l' = [] := List.length_eq_zero_iff.1 (by rw [hl, hne]; rfl)
    obtain rfl := h3 hne'
    exact ⟨h1, ⟨h2, fun g hg => absurd hne' hg⟩, ⟨rfl, rfl, rfl, Nat.le_refl _, fun _ _ _ => rfl⟩⟩
  · obtain ⟨b, off, c, rfl, _, _, hat⟩ := hi'.1.at_ hne
    have hb := hi'.2 b hne rfl
    refine ⟨h1, ⟨h2, fun g hg hgb => hi'.2 g hne hgb⟩, ⟨h4.os, h4.tape, h4.output, h4.size, fun k hk hd => h4.block k hk ?_⟩⟩
    simp only [Value.ownBlock, ne_eq, Option.some.injEq]
    have := hat.1
    omega
end

/-- what a holding function leaves -/
def Held (k' : Nat) (w : World) (e : Ending) (w' : World) : Prop := e = .returned (.int .i64 (k' : Int)) ∧ Below w.heap.size w w'

section
variable {a w w' : World} {g : Nat}
theorem only_setCell (h : a.grownBy w (some g)) {p : Addr} (hp : p.block = g) (u : Value) : a.grownBy (w.setCell p u) (some g) :=
  ⟨h.os, h.tape, h.output, by simpa [World.setCell] using h.size, fun i hi hne => (Below.heap_setCell w p u i (by
    rintro rfl
    exact hne (by rw [hp]))).trans (h.block i hi hne)⟩
theorem only_below (h : a.grownBy w (some g)) (k : Below w.heap.size w w') : a.grownBy w' (some g) :=
  ⟨k.os.trans h.os, k.tape.trans h.tape, k.output.trans h.output, Nat.le_trans h.size k.size, fun i hi hne => (k.block i (Nat.lt_of_lt_of_le hi h.size)).trans (h.block i hi hne)⟩
end




end Go.Proofs.YtimnogjgokljbaaGreatDoor
