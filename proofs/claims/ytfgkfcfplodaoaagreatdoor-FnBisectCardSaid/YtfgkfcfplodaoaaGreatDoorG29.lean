/-
  Put together: PEvTree PEvBisB PEvDecZ.
-/
import Derived.Test.YtfgkfcfplodaoaaGreatDoorG19
import Derived.Test.YtfgkfcfplodaoaaGreatDoorG20
import Derived.Test.YtfgkfcfplodaoaaGreatDoorG28
import Derived.Test.YtfgkfcfplodaoaaGreatDoorG9
import Derived.Test.YtfgkfcfplodaoaaGreatDoorHPEvLate
section
/-!
  Trees of hashes: NodeHash, LeafHash, the split, the root, of both programs.
-/
namespace Go.Proofs.YtfgkfcfplodaoaaGreatDoor
set_option maxRecDepth 100000
set_option linter.unusedVariables false
set_option linter.unusedSimpArgs false
open Go Go.RowKit
set_option maxHeartbeats 4000000

/-- a contract of a function that calls itself -/
theorem Sound.again {P : Program} {f : FuncId} {α : Type} {ok : α → Prop} {enc : α → List Arg} {g : α → Res} (μ : α → Nat) (hinj : ∀ x y, enc x = enc y → x = y)
    (h : ∀ N, Sound P f (Go.Proofs.YtfgkfcfplodaoaaGreatDoor.mdl (fun x => ok x ∧ μ x < N) enc g) → Sound P f (Go.Proofs.YtfgkfcfplodaoaaGreatDoor.mdl (fun x => ok x ∧ μ x < N + 1) enc g)) : Sound P f (Go.Proofs.YtfgkfcfplodaoaaGreatDoor.mdl ok enc g) := by
  have hall : ∀ N, Sound P f (Go.Proofs.YtfgkfcfplodaoaaGreatDoor.mdl (fun x => ok x ∧ μ x < N) enc g) := fun N => by
    induction N with
    | zero =>
      intro args r vs w _ hm _
      unfold Go.Proofs.YtfgkfcfplodaoaaGreatDoor.mdl at hm
      split at hm
      · rename_i he
        exact absurd he.choose_spec.1.2 (by omega)
      · cases hm
    | succ N ih => exact h N ih
  intro args r vs w hgl hm hargs
  unfold Go.Proofs.YtfgkfcfplodaoaaGreatDoor.mdl at hm
  split at hm
  · rename_i he
    cases hm
    obtain ⟨h2, h3⟩ := he.choose_spec
    refine hall (μ he.choose + 1) args _ vs w hgl ?_ hargs
    have := mdl_eq (ok := fun x => ok x ∧ μ x < μ he.choose + 1) (g := g) hinj he.choose ⟨h2, by omega⟩
    rw [h3] at this
    exact this
  · cases hm

def nodeH (a b : ByteArray) : ByteArray := shaS ((⟨#[1]⟩ : ByteArray) ++ a ++ b)
def leafH (a : ByteArray) : ByteArray := shaS ((⟨#[0]⟩ : ByteArray) ++ a)
/-- the greatest power of two below -/
def spl (n : Nat) : Nat := if n ≤ 2 then 1 else if n ≤ 4 then 2 else if n ≤ 8 then 4 else if n ≤ 16 then 8 else if n ≤ 32 then 16 else 32
theorem spl_cases {n : Nat} (h : n ≤ 64) : (spl n = 1 ∧ n ≤ 2) ∨ (spl n = 2 ∧ 2 < n ∧ n ≤ 4) ∨ (spl n = 4 ∧ 4 < n ∧ n ≤ 8) ∨ (spl n = 8 ∧ 8 < n ∧ n ≤ 16) ∨ (spl n = 16 ∧ 16 < n ∧ n ≤ 32) ∨ (spl n = 32 ∧ 32 < n ∧ n ≤ 64) := by
  unfold spl
  by_cases h1 : n ≤ 2
  · simp [h1]
  · by_cases h2 : n ≤ 4
    · simp [h1, h2]; omega
    · by_cases h3 : n ≤ 8
      · simp [h1, h2, h3]; omega
      · by_cases h4 : n ≤ 16
        · simp [h1, h2, h3, h4]; omega
        · by_cases h5 : n ≤ 32
          · simp [h1, h2, h3, h4, h5]; omega
          · simp [h1, h2, h3, h4, h5]; omega
theorem spl_lt {n : Nat} (h2 : 2 ≤ n) (h : n ≤ 64) : 1 ≤ spl n ∧ spl n < n := by have := spl_cases h; omega
/-- the root of leaves -/
def root (l : List ByteArray) : ByteArray :=
  if h : l.length ≤ 1 ∨ 64 < l.length then leafH (l.getD 0 ByteArray.empty) else nodeH (root (l.take (spl l.length))) (root (l.drop (spl l.length)))
termination_by l.length
decreasing_by
  · have := spl_lt (n := l.length) (by omega) (by omega)
    rw [List.length_take]
    omega
  · have := spl_lt (n := l.length) (by omega) (by omega)
    rw [List.length_drop]
    omega
abbrev okL (l : List ByteArray) : Prop := (1 ≤ l.length ∧ l.length ≤ 40) ∧ ∀ x ∈ l, x.size ≤ 1048576
theorem okL.take {l : List ByteArray} (h : okL l) {k : Nat} (h1 : 1 ≤ k) (h2 : k ≤ l.length) : okL (l.take k) := by
  obtain ⟨⟨a, b⟩, c⟩ := h
  exact ⟨by rw [List.length_take]; omega, fun x hx => c x (List.mem_of_mem_take hx)⟩
theorem okL.drop {l : List ByteArray} (h : okL l) {k : Nat} (h2 : k < l.length) : okL (l.drop k) := by
  obtain ⟨⟨a, b⟩, c⟩ := h
  exact ⟨by rw [List.length_drop]; omega, fun x hx => c x (List.mem_of_mem_drop hx)⟩
abbrev okT (l : List ByteArray) : Prop := l.length ≤ 8796093022207 ∧ ∀ x ∈ l, x.size ≤ 1048576
theorem okT.take {l : List ByteArray} (h : okT l) (k : Nat) : okT (l.take k) := by
  obtain ⟨a, c⟩ := h
  exact ⟨by rw [List.length_take]; omega, fun x hx => c x (List.mem_of_mem_take hx)⟩
theorem okT.drop {l : List ByteArray} (h : okT l) (k : Nat) : okT (l.drop k) := by
  obtain ⟨a, c⟩ := h
  exact ⟨by rw [List.length_drop]; omega, fun x hx => c x (List.mem_of_mem_drop hx)⟩
end Go.Proofs.YtfgkfcfplodaoaaGreatDoor

end
section
/-!
  What Bisect comes to.
-/
namespace Go.Proofs.YtfgkfcfplodaoaaGreatDoor
set_option maxRecDepth 100000
set_option linter.unusedVariables false
set_option linter.unusedSimpArgs false
open Go Go.RowKit
set_option maxHeartbeats 8000000
set_option linter.unusedVariables false
set_option linter.unusedSimpArgs false

abbrev TBis := TAnchor × List Int × Int
/-- the block of a height -/
def bkOf (l : List TBlock) (h : Int) : Option TBlock := l.find? (bkP h)
theorem bkOf_none {l : List TBlock} {h : Int} (hn : ∀ j, (hj : j < l.length) → l[j].1.1 ≠ h) : bkOf l h = none := by
  unfold bkOf
  rw [List.find?_eq_none]
  intro b hb
  obtain ⟨j, hj, rfl⟩ := List.getElem_of_mem hb
  simp [bkP, hn j hj]
theorem bkOf_some {l : List TBlock} {h : Int} {k : Nat} (hk : k < l.length) (h1 : l[k].1.1 = h) (hn : ∀ j, (hj : j < k) → l[j].1.1 ≠ h) : bkOf l h = some l[k] := by
  unfold bkOf
  rw [List.find?_eq_some_iff_getElem]
  exact ⟨by simp [bkP, h1], k, hk, rfl, fun j hj => by simp [bkP, hn j hj]⟩
theorem bkOf_mem {l : List TBlock} {h : Int} {b : TBlock} (hb : bkOf l h = some b) : b ∈ l ∧ b.1.1 = h := by
  unfold bkOf at hb
  have h2 : bkP h b = true := List.find?_some hb
  exact ⟨List.mem_of_find?_eq_some hb, of_decide_eq_true h2⟩
/-- at most so many steps deep -/
def bisR (t : TTrust) (l : List TBlock) (now : Int) : Nat → TAnchor → Int → TBis
  | 0, a, to => (a, [], 1)
  | f + 1, a, to =>
    match bkOf l to with
    | none => (a, [], 1)
    | some b =>
      if to ≤ a.1.1 then (a, [], 1)
      else if to = a.1.1 + 1 then
        if verifyC t a b.1 b.2.2.1 b.2.2.2 now = 0 then ((b.1, b.2.2.1), [to], 0) else (a, [], verifyC t a b.1 b.2.2.1 b.2.2.2 now)
      else if skipC t a b now = 0 then ((b.1, b.2.2.1), [to], 0)
      else if skipC t a b now = 9 then
        if (bisR t l now f a ((a.1.1 + to).tdiv 2)).2.2 = 0 then
          ((bisR t l now f (bisR t l now f a ((a.1.1 + to).tdiv 2)).1 to).1, (bisR t l now f a ((a.1.1 + to).tdiv 2)).2.1 ++ (bisR t l now f (bisR t l now f a ((a.1.1 + to).tdiv 2)).1 to).2.1, (bisR t l now f (bisR t l now f a ((a.1.1 + to).tdiv 2)).1 to).2.2)
        else bisR t l now f a ((a.1.1 + to).tdiv 2)
      else (a, [], skipC t a b now)
section
variable {t : TTrust} {l : List TBlock} {now : Int}
theorem bisR_none {f : Nat} {a : TAnchor} {to : Int} (h : bkOf l to = none) : bisR t l now (f + 1) a to = (a, [], 1) := by
  unfold bisR
  rw [h]
theorem bisR_low {f : Nat} {a : TAnchor} {to : Int} (h : to ≤ a.1.1) : bisR t l now (f + 1) a to = (a, [], 1) := by
  unfold bisR
  cases bkOf l to with
  | none => rfl
  | some b => simp only [if_pos h]
theorem bisR_next {f : Nat} {a : TAnchor} {to : Int} {b : TBlock} (hb : bkOf l to = some b) (h : ¬ to ≤ a.1.1) (h1 : to = a.1.1 + 1) :
    bisR t l now (f + 1) a to = if verifyC t a b.1 b.2.2.1 b.2.2.2 now = 0 then ((b.1, b.2.2.1), [to], 0) else (a, [], verifyC t a b.1 b.2.2.1 b.2.2.2 now) := by
  unfold bisR
  simp only [hb, if_neg h, if_pos h1]
theorem bisR_skip {f : Nat} {a : TAnchor} {to : Int} {b : TBlock} (hb : bkOf l to = some b) (h : ¬ to ≤ a.1.1) (h1 : ¬ to = a.1.1 + 1) (h0 : skipC t a b now = 0) :
    bisR t l now (f + 1) a to = ((b.1, b.2.2.1), [to], 0) := by
  unfold bisR
  simp only [hb, if_neg h, if_neg h1, if_pos h0]
theorem bisR_stop {f : Nat} {a : TAnchor} {to : Int} {b : TBlock} (hb : bkOf l to = some b) (h : ¬ to ≤ a.1.1) (h1 : ¬ to = a.1.1 + 1) (h0 : ¬ skipC t a b now = 0) (h9 : ¬ skipC t a b now = 9) :
    bisR t l now (f + 1) a to = (a, [], skipC t a b now) := by
  unfold bisR
  simp only [hb, if_neg h, if_neg h1, if_neg h0, if_neg h9]
theorem bisR_deep {f : Nat} {a : TAnchor} {to : Int} {b : TBlock} (hb : bkOf l to = some b) (h : ¬ to ≤ a.1.1) (h1 : ¬ to = a.1.1 + 1) (h9 : skipC t a b now = 9) :
    bisR t l now (f + 1) a to = if (bisR t l now f a ((a.1.1 + to).tdiv 2)).2.2 = 0 then
          ((bisR t l now f (bisR t l now f a ((a.1.1 + to).tdiv 2)).1 to).1, (bisR t l now f a ((a.1.1 + to).tdiv 2)).2.1 ++ (bisR t l now f (bisR t l now f a ((a.1.1 + to).tdiv 2)).1 to).2.1, (bisR t l now f (bisR t l now f a ((a.1.1 + to).tdiv 2)).1 to).2.2)
        else bisR t l now f a ((a.1.1 + to).tdiv 2) := by
  have h0 : ¬ skipC t a b now = 0 := by omega
  rw [bisR]
  simp only [hb, if_neg h, if_neg h1, if_neg h0, if_pos h9]
theorem skip9 {a : TAnchor} {b : TBlock} (h : skipC t a b now = 9) : (1 ≤ a.1.1 ∧ a.1.1 ≤ 1000000) ∧ (1 ≤ b.1.1 ∧ b.1.1 ≤ 1000000) := by
  unfold skipC at h
  by_cases h0 : trustOk t ∧ anchorOk a ∧ blockOk b ∧ (0 ≤ now ∧ now ≤ 1000000)
  · exact ⟨h0.2.1.1.1, h0.2.2.1.2.2.2.1.1⟩
  · rw [if_pos h0] at h
    omega
/-- the ways of a search -/
theorem bis_ways (a : TAnchor) (to : Int) : (bkOf l to = none) ∨ (to ≤ a.1.1) ∨ (∃ b, bkOf l to = some b ∧ ¬ to ≤ a.1.1 ∧ to = a.1.1 + 1) ∨ (∃ b, bkOf l to = some b ∧ ¬ to ≤ a.1.1 ∧ ¬ to = a.1.1 + 1 ∧ skipC t a b now = 0) ∨
    (∃ b, bkOf l to = some b ∧ ¬ to ≤ a.1.1 ∧ ¬ to = a.1.1 + 1 ∧ ¬ skipC t a b now = 0 ∧ ¬ skipC t a b now = 9) ∨ (∃ b, bkOf l to = some b ∧ ¬ to ≤ a.1.1 ∧ ¬ to = a.1.1 + 1 ∧ skipC t a b now = 9) := by
  cases hb : bkOf l to with
  | none => exact .inl rfl
  | some b =>
    by_cases h : to ≤ a.1.1
    · exact .inr (.inl h)
    · by_cases h1 : to = a.1.1 + 1
      · exact .inr (.inr (.inl ⟨b, rfl, h, h1⟩))
      · by_cases h0 : skipC t a b now = 0
        · exact .inr (.inr (.inr (.inl ⟨b, rfl, h, h1, h0⟩)))
        · by_cases h9 : skipC t a b now = 9
          · exact .inr (.inr (.inr (.inr (.inr ⟨b, rfl, h, h1, h9⟩))))
          · exact .inr (.inr (.inr (.inr (.inl ⟨b, rfl, h, h1, h0, h9⟩))))
theorem mid_in {a : TAnchor} {b : TBlock} {to : Int} (hb : bkOf l to = some b) (h : ¬ to ≤ a.1.1) (h1 : ¬ to = a.1.1 + 1) (h9 : skipC t a b now = 9) : a.1.1 < (a.1.1 + to).tdiv 2 ∧ (a.1.1 + to).tdiv 2 < to ∧ 1 ≤ a.1.1 ∧ to ≤ 1000000 := by
  obtain ⟨⟨p1, p2⟩, p3, p4⟩ := skip9 h9
  have e := (bkOf_mem hb).2
  rw [e] at p3 p4
  have : (a.1.1 + to).tdiv 2 = (a.1.1 + to) / 2 := Int.tdiv_eq_ediv_of_nonneg (by omega)
  rw [this]
  omega
/-- what is reached bears its height, and the heights told are not many -/
theorem bisR_to : ∀ (f : Nat) (a : TAnchor) (to : Int), ((bisR t l now f a to).2.2 = 0 → (bisR t l now f a to).1.1.1 = to) ∧ ((bisR t l now f a to).2.1.length : Int) ≤ max 0 (to - a.1.1)
  | 0, a, to => ⟨fun h => by simp [bisR] at h, by simp [bisR]; omega⟩
  | f + 1, a, to => by
    rcases bis_ways (t := t) (l := l) (now := now) a to with h | h | ⟨b, hb, h, h1⟩ | ⟨b, hb, h, h1, h0⟩ | ⟨b, hb, h, h1, h0, h9⟩ | ⟨b, hb, h, h1, h9⟩
    · rw [bisR_none h]; exact ⟨fun h => by simp at h, by simp; omega⟩
    · rw [bisR_low h]; exact ⟨fun h => by simp at h, by simp; omega⟩
    · rw [bisR_next hb h h1]
      have e := (bkOf_mem hb).2
      split
      · exact ⟨fun _ => e, by simp; omega⟩
      · rename_i hv; exact ⟨fun h => absurd h hv, by simp; omega⟩
    · rw [bisR_skip hb h h1 h0]
      exact ⟨fun _ => (bkOf_mem hb).2, by simp; omega⟩
    · rw [bisR_stop hb h h1 h0 h9]
      exact ⟨fun h => absurd h h0, by simp; omega⟩
    · rw [bisR_deep hb h h1 h9]
      obtain ⟨m1, m2, _, _⟩ := mid_in hb h h1 h9
      obtain ⟨i1, i2⟩ := bisR_to f a ((a.1.1 + to).tdiv 2)
      split
      · rename_i hz
        obtain ⟨j1, j2⟩ := bisR_to f (bisR t l now f a ((a.1.1 + to).tdiv 2)).1 to
        have hm := i1 hz
        refine ⟨j1, ?_⟩
        rw [hm] at j2
        simp only [List.length_append]
        omega
      · rename_i hz
        exact ⟨fun h => absurd h hz, by omega⟩
/-- as deep as it takes -/
theorem bisR_fuel : ∀ (f g : Nat) (a : TAnchor) (to : Int), (to - a.1.1).toNat < f → (to - a.1.1).toNat < g → bisR t l now f a to = bisR t l now g a to
  | 0, g, a, to, h, _ => by omega
  | f + 1, 0, a, to, _, h => by omega
  | f + 1, g + 1, a, to, hf, hg => by
    rcases bis_ways (t := t) (l := l) (now := now) a to with h | h | ⟨b, hb, h, h1⟩ | ⟨b, hb, h, h1, h0⟩ | ⟨b, hb, h, h1, h0, h9⟩ | ⟨b, hb, h, h1, h9⟩
    · rw [bisR_none h, bisR_none h]
    · rw [bisR_low h, bisR_low h]
    · rw [bisR_next hb h h1, bisR_next hb h h1]
    · rw [bisR_skip hb h h1 h0, bisR_skip hb h h1 h0]
    · rw [bisR_stop hb h h1 h0 h9, bisR_stop hb h h1 h0 h9]
    · rw [bisR_deep hb h h1 h9, bisR_deep hb h h1 h9]
      obtain ⟨m1, m2, _, _⟩ := mid_in hb h h1 h9
      rw [bisR_fuel f g a ((a.1.1 + to).tdiv 2) (by omega) (by omega)]
      split
      · rename_i hz
        have hm := (bisR_to g a ((a.1.1 + to).tdiv 2)).1 hz
        rw [bisR_fuel f g (bisR t l now g a ((a.1.1 + to).tdiv 2)).1 to (by rw [hm]; omega) (by rw [hm]; omega)]
      · rfl
end
def bis (t : TTrust) (a : TAnchor) (l : List TBlock) (to now : Int) : TBis := bisR t l now ((to - a.1.1).toNat + 1) a to
section
variable {t : TTrust} {a : TAnchor} {l : List TBlock} {to now : Int} {b : TBlock}
theorem bis_none (h : bkOf l to = none) : bis t a l to now = (a, [], 1) := bisR_none h
theorem bis_low (h : to ≤ a.1.1) : bis t a l to now = (a, [], 1) := bisR_low h
theorem bis_next (hb : bkOf l to = some b) (h : ¬ to ≤ a.1.1) (h1 : to = a.1.1 + 1) : bis t a l to now = if verifyC t a b.1 b.2.2.1 b.2.2.2 now = 0 then ((b.1, b.2.2.1), [to], 0) else (a, [], verifyC t a b.1 b.2.2.1 b.2.2.2 now) := bisR_next hb h h1
theorem bis_skip (hb : bkOf l to = some b) (h : ¬ to ≤ a.1.1) (h1 : ¬ to = a.1.1 + 1) (h0 : skipC t a b now = 0) : bis t a l to now = ((b.1, b.2.2.1), [to], 0) := bisR_skip hb h h1 h0
theorem bis_stop (hb : bkOf l to = some b) (h : ¬ to ≤ a.1.1) (h1 : ¬ to = a.1.1 + 1) (h0 : ¬ skipC t a b now = 0) (h9 : ¬ skipC t a b now = 9) : bis t a l to now = (a, [], skipC t a b now) := bisR_stop hb h h1 h0 h9
theorem bis_deep (hb : bkOf l to = some b) (h : ¬ to ≤ a.1.1) (h1 : ¬ to = a.1.1 + 1) (h9 : skipC t a b now = 9) :
    ((bis t a l ((a.1.1 + to).tdiv 2) now).2.2 ≠ 0 → bis t a l to now = bis t a l ((a.1.1 + to).tdiv 2) now) ∧
    ((bis t a l ((a.1.1 + to).tdiv 2) now).2.2 = 0 → bis t a l to now = ((bis t (bis t a l ((a.1.1 + to).tdiv 2) now).1 l to now).1, (bis t a l ((a.1.1 + to).tdiv 2) now).2.1 ++ (bis t (bis t a l ((a.1.1 + to).tdiv 2) now).1 l to now).2.1, (bis t (bis t a l ((a.1.1 + to).tdiv 2) now).1 l to now).2.2)) := by
  obtain ⟨m1, m2, _, _⟩ := mid_in hb h h1 h9
  have e1 : bisR t l now ((to - a.1.1).toNat) a ((a.1.1 + to).tdiv 2) = bis t a l ((a.1.1 + to).tdiv 2) now := bisR_fuel _ _ _ _ (by omega) (by omega)
  have hd : bis t a l to now = _ := bisR_deep (f := (to - a.1.1).toNat) hb h h1 h9
  rw [e1] at hd
  constructor
  · intro hz
    rw [hd, if_neg hz]
  · intro hz
    have hm := (bisR_to _ a ((a.1.1 + to).tdiv 2)).1 hz
    have hm : (bis t a l ((a.1.1 + to).tdiv 2) now).1.1.1 = (a.1.1 + to).tdiv 2 := hm
    have e2 : bisR t l now ((to - a.1.1).toNat) (bis t a l ((a.1.1 + to).tdiv 2) now).1 to = bis t (bis t a l ((a.1.1 + to).tdiv 2) now).1 l to now := bisR_fuel _ _ _ _ (by rw [hm]; omega) (by rw [hm]; omega)
    rw [hd, if_pos hz, e2]
theorem bis_to (hz : (bis t a l to now).2.2 = 0) : (bis t a l to now).1.1.1 = to := (bisR_to _ a to).1 hz
theorem bis_len : ((bis t a l to now).2.1.length : Int) ≤ max 0 (to - a.1.1) := (bisR_to _ a to).2
end
/-- what is reached is no longer than what came -/
theorem bisR_ok {t : TTrust} {l : List TBlock} {now : Int} (hl : okBl l) : ∀ (f : Nat) (a : TAnchor) (to : Int), a.2.length ≤ 1048576 → (bisR t l now f a to).1.2.length ≤ 1048576
  | 0, a, to, h => h
  | f + 1, a, to, ha => by
    rcases bis_ways (t := t) (l := l) (now := now) a to with h | h | ⟨b, hb, h, h1⟩ | ⟨b, hb, h, h1, h0⟩ | ⟨b, hb, h, h1, h0, h9⟩ | ⟨b, hb, h, h1, h9⟩
    · rw [bisR_none h]; exact ha
    · rw [bisR_low h]; exact ha
    · rw [bisR_next hb h h1]
      split
      · exact (hl.2 b (bkOf_mem hb).1).2.1
      · exact ha
    · rw [bisR_skip hb h h1 h0]; exact (hl.2 b (bkOf_mem hb).1).2.1
    · rw [bisR_stop hb h h1 h0 h9]; exact ha
    · rw [bisR_deep hb h h1 h9]
      have i := bisR_ok (t := t) (now := now) hl f a ((a.1.1 + to).tdiv 2) ha
      split
      · exact bisR_ok hl f _ to i
      · exact i
theorem bis_ok {t : TTrust} {a : TAnchor} {l : List TBlock} {to now : Int} (hl : okBl l) (ha : a.2.length ≤ 1048576) : (bis t a l to now).1.2.length ≤ 1048576 := bisR_ok hl _ a to ha
end Go.Proofs.YtfgkfcfplodaoaaGreatDoor

end
section
/-!
  Dec of both programs at numbers of at most nine digits, of either sign.
-/
namespace Go.Proofs.YtfgkfcfplodaoaaGreatDoor
set_option maxRecDepth 100000
set_option linter.unusedVariables false
set_option linter.unusedSimpArgs false
open Go Go.RowKit
set_option maxHeartbeats 4000000
set_option linter.unusedVariables false

/-- the digits of a number -/
def digF : Nat → Nat → List Nat
  | 0, n => [48 + n % 10]
  | k + 1, n => if n < 10 then [48 + n % 10] else digF k (n / 10) ++ [48 + n % 10]
def digL (n : Nat) : List Nat := digF 9 n
theorem digF_lo (k : Nat) {n : Nat} (h : n < 10) : digF k n = [48 + n % 10] := by
  cases k with
  | zero => rfl
  | succ k => simp [digF, h]
theorem digF_hi (k : Nat) {n : Nat} (h : ¬ n < 10) : digF (k + 1) n = digF k (n / 10) ++ [48 + n % 10] := by simp [digF, h]
theorem digF_len : ∀ k n, (digF k n).length ≤ k + 1
  | 0, n => by simp [digF]
  | k + 1, n => by
    unfold digF
    split
    · simp
    · have := digF_len k (n / 10)
      simp; omega
theorem digF_pos (k n : Nat) : 0 < (digF k n).length := by
  cases k with
  | zero => simp [digF]
  | succ k => unfold digF; split <;> simp
/-- how far the digits are written: (left to write, at most so many more, written) -/
def DigI (n : Nat) (x : Nat × Nat × List Nat) : Prop := (x.1 = 0 ∧ x.2.2 = digL n) ∨ (¬ x.1 = 0 ∧ digF x.2.1 x.1 ++ x.2.2 = digL n ∧ x.1 < 10 ^ (x.2.1 + 1) ∧ x.1 ≤ 999999999)
theorem DigI.len {n : Nat} {x : Nat × Nat × List Nat} (h : DigI n x) (h0 : ¬ x.1 = 0) : x.2.2.length ≤ 9 := by
  rcases h with h | h
  · exact absurd h.1 h0
  · have h1 := congrArg List.length h.2.1
    have h2 : (digL n).length ≤ 10 := digF_len 9 n
    have h3 := digF_pos x.2.1 x.1
    rw [List.length_append] at h1
    omega
theorem DigI.le {n : Nat} {x : Nat × Nat × List Nat} (h : DigI n x) : x.1 ≤ 999999999 := by
  rcases h with h | h
  · rw [h.1]; omega
  · exact h.2.2.2
theorem DigI.next {n m k : Nat} {L : List Nat} (h : DigI n (m, k, L)) (h0 : ¬ m = 0) : ∃ k', DigI n (m / 10, k', (48 + m % 10) :: L) := by
  rcases h with h | ⟨_, h2, h3, h4⟩
  · exact absurd h.1 h0
  · dsimp only at h2 h3 h4
    by_cases hm : m < 10
    · rw [digF_lo _ hm] at h2
      exact ⟨0, .inl ⟨Nat.div_eq_of_lt hm, h2⟩⟩
    · cases k with
      | zero => exact absurd h3 (by simpa using hm)
      | succ k =>
        rw [digF_hi _ hm, List.append_assoc] at h2
        refine ⟨k, .inr ⟨by dsimp only; omega, h2, ?_, by dsimp only; omega⟩⟩
        dsimp only
        rw [Nat.pow_succ] at h3
        omega
theorem DigI.done {n k : Nat} {L : List Nat} (h : DigI n (0, k, L)) : L = digL n := by
  rcases h with h | h
  · exact h.2
  · exact absurd rfl h.1
def decZ (n : Int) : List Nat := if n = 0 then [48] else if n < 0 then 45 :: digL n.natAbs else digL n.natAbs
theorem decZ_pos {a : Nat} (h : 1 ≤ a) : decZ (a : Int) = digL a := by
  unfold decZ
  rw [if_neg (by omega), if_neg (by omega), Int.natAbs_natCast]
theorem decZ_neg {a : Nat} (h : 1 ≤ a) : decZ (-(a : Int)) = 45 :: digL a := by
  unfold decZ
  rw [if_neg (by omega), if_pos (by omega), Int.natAbs_neg, Int.natAbs_natCast]
theorem decZ_len (n : Int) : 0 < (decZ n).length ∧ (decZ n).length ≤ 11 := by
  unfold decZ
  have h1 := digF_len 9 n.natAbs
  have h2 := digF_pos 9 n.natAbs
  change (digL n.natAbs).length ≤ 10 at h1
  change 0 < (digL n.natAbs).length at h2
  split
  · simp
  · split
    · simp; omega
    · omega
theorem bsS_appZ (a b : List Nat) : bsS a ++ bsS b = bsS (a ++ b) := by
  unfold bsS
  apply ByteArray.ext
  simp
abbrev okDecZ (n : Int) : Prop := -999999999 ≤ n ∧ n ≤ 999999999
noncomputable def mDecZ := mdl okDecZ (fun n => [aI n]) (fun n => rS (bsS (decZ n)))
theorem mDecZ_eq (n : Int) (h : okDecZ n) : mDecZ [aI n] = some (rS (bsS (decZ n))) := mdl_eq (by intro a b h; simpa using h) n h
theorem int_cases (n : Int) : n = 0 ∨ (∃ a : Nat, 1 ≤ a ∧ n = (a : Int)) ∨ ∃ a : Nat, 1 ≤ a ∧ n = -(a : Int) := by
  rcases Int.lt_trichotomy n 0 with h | h | h
  · exact .inr (.inr ⟨n.natAbs, by omega, by omega⟩)
  · exact .inl h
  · exact .inr (.inl ⟨n.natAbs, by omega, by omega⟩)
theorem decZS_s : Sound Tryz.prog 41 mDecZ := by
  refine Sound.mdl Tryz.func41 rfl Tryz.ntmps41 ?_
  rintro n w ⟨n1, n2⟩
  refine ⟨by simp, ?_⟩
  have hΓ : GSound Tryz.prog (look []) := env_nil
  rcases int_cases n with rfl | ⟨n, hn1, rfl⟩ | ⟨n, hn1, rfl⟩
  · simp only [initS, argPV, List.map_cons, List.map_nil, toPL, Nat.zero_add]
    refine zR ?_
    refine At.retA (by rw [Tryz.results41]) (he := rfl)
  · skip
    simp only [initS, argPV, List.map_cons, List.map_nil, toPL, Nat.zero_add]
    refine zR ?_
    refine W.loopA (DigI n) (fun x => [.slot 0 (vI (((x.1 : Nat) : Int))), .slot 3 (vS (bsS x.2.2)), .slot 4 (vB false)]) (fun x => x.1) (n, 9, []) (.inr ⟨by dsimp only; omega, List.append_nil _, by dsimp only; omega, by dsimp only; omega⟩) (h := ?_)
    rintro ⟨m, k, L⟩ hI
    dsimp only
    have hlm := hI.le
    dsimp only at hlm
    by_cases hm : m = 0
    · subst hm
      have hd := hI.done
      subst hd
      clear hI
      have hl10 : (digL n).length ≤ 10 := digF_len 9 n
      have z2 := bsS_size (digL n)
      refine zR ?_
      refine At.retA (by rw [Tryz.results41]) (he := ?_)
      rw [decZ_pos hn1]
    · have hln : L.length ≤ 9 := hI.len hm
      obtain ⟨k', hnx⟩ := hI.next hm
      have t1 : (m : Int).tmod 10 = ((m % 10 : Nat) : Int) := by rw [Int.tmod_eq_emod_of_nonneg (by omega)]; omega
      have t2 : (m : Int).tdiv 10 = ((m / 10 : Nat) : Int) := by rw [Int.tdiv_eq_ediv_of_nonneg (by omega)]; omega
      have hb : bytesE [[.sc (.int .u8 ((48 + m % 10 : Nat) : Int))]] = some [UInt8.ofNat (48 + m % 10)] := bytes_rows [48 + m % 10]
      have hcat : (⟨[UInt8.ofNat (48 + m % 10)].toArray⟩ : ByteArray) ++ bsS L = bsS ((48 + m % 10) :: L) := bsS_appZ [48 + m % 10] L
      have z1 : (⟨[UInt8.ofNat (48 + m % 10)].toArray⟩ : ByteArray).size = 1 := rfl
      have z2 := bsS_size L
      clear hI
      have hw : IntKind.u8.wrap (48 + ((m % 10 : Nat) : Int)) = ((48 + m % 10 : Nat) : Int) := by
        rw [show 48 + ((m % 10 : Nat) : Int) = ((48 + m % 10 : Nat) : Int) by omega]
        exact wrap_u8n (by omega)
      refine zR ?_
      exact At.roundA (m / 10, k', (48 + m % 10) :: L) hnx (by dsimp only; omega)
  · skip
    simp only [initS, argPV, List.map_cons, List.map_nil, toPL, Nat.zero_add]
    refine zR ?_
    refine W.loopA (DigI n) (fun x => [.slot 0 (vI (-((x.1 : Nat) : Int))), .slot 3 (vS (bsS x.2.2)), .slot 4 (vB true)]) (fun x => x.1) (n, 9, []) (.inr ⟨by dsimp only; omega, List.append_nil _, by dsimp only; omega, by dsimp only; omega⟩) (h := ?_)
    rintro ⟨m, k, L⟩ hI
    dsimp only
    have hlm := hI.le
    dsimp only at hlm
    by_cases hm : m = 0
    · subst hm
      have hd := hI.done
      subst hd
      clear hI
      have hl10 : (digL n).length ≤ 10 := digF_len 9 n
      have z2 := bsS_size (digL n)
      have hz : (-((0 : Nat) : Int)) = 0 := rfl
      have hcat2 : (⟨#[45]⟩ : ByteArray) ++ bsS (digL n) = bsS (45 :: digL n) := bsS_appZ [45] (digL n)
      have z1 : (⟨#[45]⟩ : ByteArray).size = 1 := rfl
      refine zR ?_
      refine At.retA (by rw [Tryz.results41]) (he := ?_)
      rw [decZ_neg hn1]
    · have hln : L.length ≤ 9 := hI.len hm
      obtain ⟨k', hnx⟩ := hI.next hm
      have t1 : (-(m : Int)).tmod 10 = -((m % 10 : Nat) : Int) := by rw [Int.neg_tmod, Int.tmod_eq_emod_of_nonneg (by omega)]; omega
      have t2 : (-(m : Int)).tdiv 10 = -((m / 10 : Nat) : Int) := by rw [Int.neg_tdiv, Int.tdiv_eq_ediv_of_nonneg (by omega)]; omega
      have hnn : (0 : Int) - -((m % 10 : Nat) : Int) = ((m % 10 : Nat) : Int) := by omega
      have hb : bytesE [[.sc (.int .u8 ((48 + m % 10 : Nat) : Int))]] = some [UInt8.ofNat (48 + m % 10)] := bytes_rows [48 + m % 10]
      have hcat : (⟨[UInt8.ofNat (48 + m % 10)].toArray⟩ : ByteArray) ++ bsS L = bsS ((48 + m % 10) :: L) := bsS_appZ [48 + m % 10] L
      have z1 : (⟨[UInt8.ofNat (48 + m % 10)].toArray⟩ : ByteArray).size = 1 := rfl
      have z2 := bsS_size L
      clear hI
      by_cases hr : m % 10 ≤ 0
      · have hw0 : IntKind.u8.wrap (48 + -((m % 10 : Nat) : Int)) = ((48 + m % 10 : Nat) : Int) := by
          rw [show 48 + -((m % 10 : Nat) : Int) = ((48 + m % 10 : Nat) : Int) by omega]
          exact wrap_u8n (by omega)
        refine zR ?_
        exact At.roundA (m / 10, k', (48 + m % 10) :: L) hnx (by dsimp only; omega)
      · have hw : IntKind.u8.wrap (48 + ((m % 10 : Nat) : Int)) = ((48 + m % 10 : Nat) : Int) := by
          rw [show 48 + ((m % 10 : Nat) : Int) = ((48 + m % 10 : Nat) : Int) by omega]
          exact wrap_u8n (by omega)
        refine zR ?_
        exact At.roundA (m / 10, k', (48 + m % 10) :: L) hnx (by dsimp only; omega)
end Go.Proofs.YtfgkfcfplodaoaaGreatDoor

end
