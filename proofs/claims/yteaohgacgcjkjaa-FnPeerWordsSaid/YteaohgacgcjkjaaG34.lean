/-
  Put together: EvGosP EvGosS.
-/
import Derived.Test.YteaohgacgcjkjaaHEvAddrs
section
/-!
  Addresses heard of: what Hear and Tell compute (plain).
-/
namespace Go.Proofs.Yteaohgacgcjkjaa
set_option maxRecDepth 100000
set_option linter.unusedVariables false
set_option linter.unusedSimpArgs false
open Go Go.RowKit
set_option linter.unusedVariables false

/-! the order: who was seen last comes first; of those alike the least id -/
abbrev ltL (a b : TAddr) : Prop := b.2 < a.2 ∨ (a.2 = b.2 ∧ a.1 < b.1)
abbrev SortL (l : List TAddr) : Prop := l.Pairwise fun a b => ¬ ltL b a
def posA (x : TAddr) (out : List TAddr) : Nat → Nat
  | 0 => 0
  | k + 1 => if ltL x (out.getD k (0, 0)) then posA x out k else k + 1
def insA (x : TAddr) (out : List TAddr) : List TAddr := out.take (posA x out out.length) ++ x :: out.drop (posA x out out.length)
def lateL (l : List TAddr) : List TAddr := l.foldl (fun out x => insA x out) []
theorem posA_le (x : TAddr) (out : List TAddr) : ∀ k, posA x out k ≤ k
  | 0 => Nat.le_refl _
  | k + 1 => by
    unfold posA
    split
    · have := posA_le x out k; omega
    · exact Nat.le_refl _
theorem posA_hi (x : TAddr) (out : List TAddr) : ∀ k j, posA x out k ≤ j → j < k → ltL x (out.getD j (0, 0))
  | 0, j, _, h => by omega
  | k + 1, j, h1, h2 => by
    unfold posA at h1
    split at h1
    · rename_i h
      rcases Nat.lt_succ_iff_lt_or_eq.1 h2 with h3 | rfl
      · exact posA_hi x out k j h1 h3
      · exact h
    · omega
theorem posA_lo (x : TAddr) (out : List TAddr) : ∀ k, 0 < posA x out k → ¬ ltL x (out.getD (posA x out k - 1) (0, 0))
  | 0, h => by simp [posA] at h
  | k + 1, h => by
    unfold posA at h ⊢
    split
    · rename_i h1
      rw [if_pos h1] at h
      exact posA_lo x out k h
    · rename_i h1
      exact h1
theorem ltL_n {a b c : TAddr} (h1 : ¬ ltL b a) (h2 : ¬ ltL c b) : ¬ ltL c a := by unfold ltL at *; omega
theorem insA_perm (x : TAddr) (out : List TAddr) : (insA x out).Perm (x :: out) := by
  unfold insA
  have := List.perm_middle (a := x) (l₁ := out.take (posA x out out.length)) (l₂ := out.drop (posA x out out.length))
  rwa [List.take_append_drop] at this
theorem insA_sort {x : TAddr} {out : List TAddr} (h : SortL out) : SortL (insA x out) := by
  unfold insA
  have hp := posA_le x out out.length
  have hhi := posA_hi x out out.length
  have hlo := posA_lo x out out.length
  generalize posA x out out.length = p at *
  have hs : SortL (out.take p ++ out.drop p) := by rw [List.take_append_drop]; exact h
  obtain ⟨h1, h2, h3⟩ := List.pairwise_append.1 hs
  have hx : ∀ b ∈ out.drop p, ltL x b := fun b hb => by
    obtain ⟨j, hj, rfl⟩ := List.getElem_of_mem hb
    rw [List.length_drop] at hj
    have := hhi (p + j) (by omega) (by omega)
    rw [List.getD_eq_getElem?_getD, List.getElem?_eq_getElem (by omega)] at this
    simpa using this
  refine List.pairwise_append.2 ⟨h1, List.pairwise_cons.2 ⟨fun b hb => ?_, h2⟩, fun a ha b hb => ?_⟩
  · have := hx b hb
    unfold ltL at *; omega
  · rcases List.mem_cons.1 hb with rfl | hb
    · obtain ⟨j, hj, rfl⟩ := List.getElem_of_mem ha
      rw [List.length_take] at hj
      rw [List.getElem_take]
      have hl := hlo (by omega)
      rw [List.getD_eq_getElem?_getD, List.getElem?_eq_getElem (by omega)] at hl
      simp only [Option.getD_some] at hl
      by_cases hj1 : j = p - 1
      · subst hj1; exact hl
      · have := List.pairwise_iff_getElem.1 h j (p - 1) (by omega) (by omega) (by omega)
        exact ltL_n this hl
    · exact h3 a ha b hb
theorem late_acc : ∀ (l out : List TAddr), SortL out → SortL (l.foldl (fun out x => insA x out) out) ∧ (l.foldl (fun out x => insA x out) out).Perm (l ++ out)
  | [], out, h => ⟨h, List.Perm.refl _⟩
  | x :: l, out, h => by
    obtain ⟨h1, h2⟩ := late_acc l (insA x out) (insA_sort h)
    refine ⟨h1, h2.trans ?_⟩
    refine ((insA_perm x out).append_left l).trans ?_
    exact List.perm_middle
theorem late_sort (l : List TAddr) : SortL (lateL l) := (late_acc l [] List.Pairwise.nil).1
theorem late_perm (l : List TAddr) : (lateL l).Perm l := by
  have := (late_acc l [] List.Pairwise.nil).2
  rwa [List.append_nil] at this
theorem sort_uni {l m : List TAddr} (h : l.Perm m) (h1 : SortL l) (h2 : SortL m) : l = m :=
  List.Perm.eq_of_pairwise (le := fun a b => ¬ ltL b a) (fun a b _ _ h3 h4 => by
    unfold ltL at h3 h4
    exact Prod.ext (by omega) (by omega)) h1 h2 h
/-! when somebody was seen last -/
def snF (now id n : Int) (x : TAddr) : Int := if x.1 = id ∧ x.2 ≤ now ∧ n < x.2 then x.2 else n
def sn (now id : Int) (l : List TAddr) : Int := l.foldl (snF now id) (-1)
theorem sn_app (now id : Int) (l : List TAddr) (x : TAddr) : sn now id (l ++ [x]) = snF now id (sn now id l) x := by unfold sn; rw [List.foldl_append]; rfl
theorem sn_ge (now id : Int) : ∀ (l : List TAddr) (n : Int), n ≤ l.foldl (snF now id) n
  | [], n => Int.le_refl _
  | x :: l, n => by
    refine Int.le_trans ?_ (sn_ge now id l _)
    unfold snF
    split <;> omega
theorem sn_mem (now id : Int) : ∀ (l : List TAddr) (n : Int), l.foldl (snF now id) n = n ∨ ((id, l.foldl (snF now id) n) ∈ l ∧ l.foldl (snF now id) n ≤ now)
  | [], n => .inl rfl
  | x :: l, n => by
    show l.foldl (snF now id) (snF now id n x) = n ∨ ((id, l.foldl (snF now id) (snF now id n x)) ∈ x :: l ∧ l.foldl (snF now id) (snF now id n x) ≤ now)
    rcases sn_mem now id l (snF now id n x) with h | ⟨h1, h2⟩
    · rw [h]
      unfold snF
      split
      · rename_i hc
        refine .inr ⟨?_, hc.2.1⟩
        rw [← hc.1]
        exact List.mem_cons_self
      · exact .inl rfl
    · exact .inr ⟨List.mem_cons_of_mem _ h1, h2⟩
theorem sn_has (now id s : Int) : ∀ (l : List TAddr) (n : Int), (id, s) ∈ l → s ≤ now → s ≤ l.foldl (snF now id) n
  | x :: l, n, h, hs => by
    show s ≤ l.foldl (snF now id) (snF now id n x)
    rcases List.mem_cons.1 h with h | h
    · refine Int.le_trans ?_ (sn_ge now id l _)
      subst h
      unfold snF
      dsimp only
      split <;> omega
    · exact sn_has now id s l _ h hs
theorem sn_swap (now id : Int) (a b : List TAddr) : sn now id (a ++ b) = sn now id (b ++ a) := by
  unfold sn
  refine List.Perm.foldl_eq' List.perm_append_comm (fun x _ y _ z => ?_) _
  unfold snF
  repeat' split
  all_goals omega
/-! all who were seen, by id -/
def oneA (a b : List TAddr) (now : Int) (i : Nat) : Option TAddr := if 0 ≤ sn now ((i : Int) + 1) (a ++ b) then some ((i : Int) + 1, sn now ((i : Int) + 1) (a ++ b)) else none
def allK (a b : List TAddr) (now : Int) (k : Nat) : List TAddr := (List.range k).filterMap (oneA a b now)
def allA (a b : List TAddr) (now : Int) : List TAddr := allK a b now 99
theorem allK_succ (a b : List TAddr) (now : Int) (k : Nat) : allK a b now (k + 1) = allK a b now k ++ (if 0 ≤ sn now ((k : Int) + 1) (a ++ b) then [((k : Int) + 1, sn now ((k : Int) + 1) (a ++ b))] else []) := by
  unfold allK
  rw [List.range_succ, List.filterMap_append]
  congr 1
  unfold oneA
  simp only [List.filterMap_cons, List.filterMap_nil]
  split <;> simp_all
theorem allK_len (a b : List TAddr) (now : Int) (k : Nat) : (allK a b now k).length ≤ k := by
  unfold allK
  refine Nat.le_trans (List.length_filterMap_le _ _) ?_
  simp
theorem allA_mem {a b : List TAddr} {now : Int} {x : TAddr} : x ∈ allA a b now ↔ 1 ≤ x.1 ∧ x.1 ≤ 99 ∧ 0 ≤ x.2 ∧ x.2 = sn now x.1 (a ++ b) := by
  unfold allA allK
  rw [List.mem_filterMap]
  constructor
  · rintro ⟨i, hi, h⟩
    rw [List.mem_range] at hi
    unfold oneA at h
    split at h
    · cases h
      dsimp only
      exact ⟨by omega, by omega, by assumption, rfl⟩
    · cases h
  · rintro ⟨h1, h2, h3, h4⟩
    refine ⟨x.1.toNat - 1, by rw [List.mem_range]; omega, ?_⟩
    have e : ((x.1.toNat - 1 : Nat) : Int) + 1 = x.1 := by omega
    unfold oneA
    rw [e, ← h4, if_pos h3]
theorem allA_asc (a b : List TAddr) (now : Int) : (allA a b now).Pairwise fun x y => x.1 < y.1 := by
  unfold allA allK
  rw [List.pairwise_filterMap]
  refine List.Pairwise.imp ?_ (List.pairwise_lt_range (n := 99))
  intro i j hij x hx y hy
  unfold oneA at hx hy
  split at hx
  · split at hy
    · cases hx
      cases hy
      dsimp only
      omega
    · cases hy
  · cases hx
theorem asc_nodup {l : List TAddr} (h : l.Pairwise fun x y => x.1 < y.1) : l.Nodup := List.Pairwise.imp (fun {x y} hxy e => by rw [e] at hxy; omega) h
theorem asc_id {l : List TAddr} (h : l.Pairwise fun x y => x.1 < y.1) {x y : TAddr} (hx : x ∈ l) (hy : y ∈ l) (he : x.1 = y.1) : x = y := by
  obtain ⟨i, hi, rfl⟩ := List.getElem_of_mem hx
  obtain ⟨j, hj, rfl⟩ := List.getElem_of_mem hy
  rcases Nat.lt_trichotomy i j with hij | rfl | hij
  · have := List.pairwise_iff_getElem.1 h i j hi hj hij; omega
  · rfl
  · have := List.pairwise_iff_getElem.1 h j i hj hi hij; omega
/-! what Hear computes -/
instance (l : List TAddr) (x : TAddr) : Decidable (x ∈ l) := inferInstance
def topS (a b : List TAddr) (now : Int) : List TAddr := lateL (allA a b now)
def hearK (a b : List TAddr) (now : Int) : List TAddr := (allA a b now).filter fun x => decide (x ∈ (topS a b now).take 10)
abbrev okHear (a b : List TAddr) (now : Int) : Prop := addrsOk a ∧ addrsOk b ∧ 0 ≤ now ∧ now ≤ 1000000
def hearL (a b : List TAddr) (now : Int) : List TAddr := if okHear a b now then hearK a b now else []
theorem topS_nodup (a b : List TAddr) (now : Int) : (topS a b now).Nodup := (asc_nodup (allA_asc a b now)).perm (late_perm _).symm
theorem hearK_perm (a b : List TAddr) (now : Int) : (hearK a b now).Perm ((topS a b now).take 10) := by
  refine (List.perm_ext_iff_of_nodup (List.Nodup.sublist List.filter_sublist (asc_nodup (allA_asc a b now))) (List.Nodup.sublist (List.take_sublist _ _) (topS_nodup a b now))).2 fun x => ?_
  rw [List.mem_filter, decide_eq_true_eq]
  exact ⟨fun h => h.2, fun h => ⟨(late_perm _).mem_iff.1 (List.mem_of_mem_take h), h⟩⟩
theorem hearK_len (a b : List TAddr) (now : Int) : (hearK a b now).length ≤ 10 := by
  rw [(hearK_perm a b now).length_eq, List.length_take]; omega
theorem hearL_len (a b : List TAddr) (now : Int) : (hearL a b now).length ≤ 10 := by
  unfold hearL
  split
  · exact hearK_len a b now
  · simp
theorem hearK_asc (a b : List TAddr) (now : Int) : (hearK a b now).Pairwise fun x y => x.1 < y.1 := List.Pairwise.sublist List.filter_sublist (allA_asc a b now)
/-- the first rows of the latest, by id, are what Hear gives -/
theorem hear_sort {a b : List TAddr} {now : Int} {l : List TAddr} (h : l.Perm ((topS a b now).take 10)) (hs : l.Pairwise fun x y => ¬ y.1 - x.1 < 0) : l = hearK a b now := by
  have hp := h.trans (hearK_perm a b now).symm
  refine List.Perm.eq_of_pairwise (le := fun x y => ¬ y.1 - x.1 < 0) (fun x y hx hy h1 h2 => asc_id (hearK_asc a b now) (hp.mem_iff.1 hx) hy (by omega)) hs (List.Pairwise.imp (fun {x y} hxy => by omega) (hearK_asc a b now)) hp
theorem allA_swap (a b : List TAddr) (now : Int) : allA a b now = allA b a now := by
  unfold allA allK
  congr 1
  funext i
  unfold oneA
  rw [sn_swap]
theorem hearL_swap (a b : List TAddr) (now : Int) : hearL a b now = hearL b a now := by
  have e : hearK a b now = hearK b a now := by unfold hearK topS; rw [allA_swap]
  unfold hearL
  rw [e]
  by_cases h : okHear a b now
  · rw [if_pos h, if_pos ⟨h.2.1, h.1, h.2.2⟩]
  · rw [if_neg h, if_neg fun g => h ⟨g.2.1, g.1, g.2.2⟩]
theorem addrs_asc {l : List TAddr} (h : addrsOk l) : l.Pairwise fun x y => x.1 < y.1 := by
  rw [List.pairwise_iff_getElem]
  have one : ∀ i, (hi : i + 1 < l.length) → l[i].1 < l[i + 1].1 := fun i hi => by
    have := (h.2 (i + 1) hi).2.2 (by omega)
    simp only [List.getD_eq_getElem?_getD, List.getElem?_eq_getElem hi, List.getElem?_eq_getElem (show i < l.length by omega), Option.getD_some, Nat.add_sub_cancel] at this
    exact this
  have key : ∀ d i, (hd : i + d + 1 < l.length) → l[i].1 < l[i + d + 1].1 := by
    intro d
    induction d with
    | zero => exact fun i hd => one i hd
    | succ d ih => exact fun i hd => Int.lt_trans (ih i (by omega)) (one (i + d + 1) hd)
  intro i j hi hj hij
  have := key (j - i - 1) i (by omega)
  have e : i + (j - i - 1) + 1 = j := by omega
  simp only [e] at this
  exact this
theorem addrs_in {l : List TAddr} (h : addrsOk l) {x : TAddr} (hx : x ∈ l) : 1 ≤ x.1 ∧ x.1 ≤ 99 ∧ 0 ≤ x.2 ∧ x.2 ≤ 1000000 := by
  obtain ⟨i, hi, rfl⟩ := List.getElem_of_mem hx
  have := h.2 i hi
  unfold addrOk at this
  simp only [List.getD_eq_getElem?_getD, List.getElem?_eq_getElem hi, Option.getD_some] at this
  exact ⟨this.1.1, this.1.2, this.2.1.1, this.2.1.2⟩
theorem addrs_of {l : List TAddr} (h1 : l.length ≤ 10) (h2 : l.Pairwise fun x y => x.1 < y.1) (h3 : ∀ x ∈ l, 1 ≤ x.1 ∧ x.1 ≤ 99 ∧ 0 ≤ x.2 ∧ x.2 ≤ 1000000) : addrsOk l := by
  refine ⟨h1, fun k hk => ?_⟩
  have := h3 _ (List.getElem_mem hk)
  unfold addrOk
  simp only [List.getD_eq_getElem?_getD, List.getElem?_eq_getElem hk, Option.getD_some]
  refine ⟨⟨this.1, this.2.1⟩, ⟨this.2.2.1, this.2.2.2⟩, fun h0 => ?_⟩
  rw [List.getElem?_eq_getElem (by omega)]
  exact List.pairwise_iff_getElem.1 h2 (k - 1) k (by omega) hk (by omega)
theorem allA_now {a b : List TAddr} {now : Int} {x : TAddr} (hx : x ∈ allA a b now) : x.2 ≤ now ∧ x ∈ a ++ b := by
  obtain ⟨h1, h2, h3, h4⟩ := allA_mem.1 hx
  rcases sn_mem now x.1 (a ++ b) (-1) with h | ⟨h5, h6⟩
  · have : sn now x.1 (a ++ b) = -1 := h
    omega
  · have e : sn now x.1 (a ++ b) = (a ++ b).foldl (snF now x.1) (-1) := rfl
    rw [← e, ← h4] at h5 h6
    exact ⟨h6, h5⟩
theorem hearL_mem {a b : List TAddr} {now : Int} {x : TAddr} (hx : x ∈ hearL a b now) : okHear a b now ∧ x ∈ allA a b now := by
  unfold hearL at hx
  split at hx
  · rename_i h
    unfold hearK at hx
    exact ⟨h, (List.mem_filter.1 hx).1⟩
  · cases hx
theorem hearL_ok (a b : List TAddr) (now : Int) : addrsOk (hearL a b now) := by
  refine addrs_of (hearL_len a b now) ?_ fun x hx => ?_
  · unfold hearL
    split
    · exact hearK_asc a b now
    · exact List.Pairwise.nil
  · obtain ⟨⟨h1, h2, _⟩, h3⟩ := hearL_mem hx
    rcases List.mem_append.1 (allA_now h3).2 with h | h
    · exact addrs_in h1 h
    · exact addrs_in h2 h
theorem hearL_now {a b : List TAddr} {now : Int} {x : TAddr} (hx : x ∈ hearL a b now) : x.2 ≤ now := (allA_now (hearL_mem hx).2).1
theorem hear_again (l : List TAddr) (now : Int) (hl : addrsOk l) (hn : ∀ x ∈ l, x.2 ≤ now) (h0 : l ≠ [] → 0 ≤ now ∧ now ≤ 1000000) : (hearL l l now).length = l.length := by
  have hperm : (allA l l now).Perm l := (List.perm_ext_iff_of_nodup (asc_nodup (allA_asc l l now)) (asc_nodup (addrs_asc hl))).2 fun x => by
    constructor
    · intro hx
      rcases List.mem_append.1 (allA_now hx).2 with h | h <;> exact h
    · intro hx
      obtain ⟨g1, g2, g3, g4⟩ := addrs_in hl hx
      refine allA_mem.2 ⟨g1, g2, g3, ?_⟩
      have k1 := sn_has now x.1 x.2 (l ++ l) (-1) (List.mem_append_left _ hx) (hn x hx)
      have e : sn now x.1 (l ++ l) = (l ++ l).foldl (snF now x.1) (-1) := rfl
      rw [← e] at k1
      rcases sn_mem now x.1 (l ++ l) (-1) with h | ⟨h5, h6⟩
      · rw [← e] at h; omega
      · rw [← e] at h5
        have h5 : (x.1, sn now x.1 (l ++ l)) ∈ l := by rcases List.mem_append.1 h5 with h | h <;> exact h
        have := asc_id (addrs_asc hl) hx h5 rfl
        rw [this]
  by_cases hne : l = []
  · subst hne
    unfold hearL hearK
    split
    · rw [hperm.eq_nil]; rfl
    · rfl
  · unfold hearL
    rw [if_pos ⟨hl, hl, h0 hne⟩]
    have hlen : (topS l l now).length = l.length := ((late_perm _).trans hperm).length_eq
    rw [(hearK_perm l l now).length_eq, List.length_take, hlen]
    have := hl.1
    omega
/-! the rows as impl gathers them -/
def mrgA (now : Int) (O : List TAddr) (x : TAddr) : List TAddr := if now < x.2 then O else if O.findIdx (fun y => decide (y.1 = x.1)) < O.length then O.map fun y => if y.1 = x.1 then (y.1, max y.2 x.2) else y else O ++ [x]
structure Mrg (now : Int) (O pre : List TAddr) : Prop where
  dis : O.Pairwise fun x y => x.1 ≠ y.1
  pos : ∀ x ∈ O, 0 ≤ x.2
  mem : ∀ x : TAddr, x ∈ O ↔ 0 ≤ x.2 ∧ x.2 = sn now x.1 pre
theorem Mrg.nil (now : Int) : Mrg now [] [] := ⟨List.Pairwise.nil, fun x hx => (by cases hx), fun x => ⟨fun h => (by cases h), fun ⟨h1, h2⟩ => by simp [sn] at h2; omega⟩⟩
theorem Mrg.step {now : Int} {O pre : List TAddr} (h : Mrg now O pre) (x : TAddr) (hx : 0 ≤ x.2) : Mrg now (mrgA now O x) (pre ++ [x]) := by
  have hge : -1 ≤ sn now x.1 pre := sn_ge now x.1 pre (-1)
  have hoth : ∀ y : TAddr, y.1 ≠ x.1 → sn now y.1 (pre ++ [x]) = sn now y.1 pre := fun y hy => by
    rw [sn_app]
    unfold snF
    rw [if_neg fun hc => hy hc.1.symm]
  unfold mrgA
  by_cases h1 : now < x.2
  · rw [if_pos h1]
    refine ⟨h.dis, h.pos, fun y => ?_⟩
    rw [h.mem, sn_app]
    unfold snF
    rw [if_neg fun hc => by omega]
  · rw [if_neg h1]
    by_cases h2 : O.findIdx (fun y => decide (y.1 = x.1)) < O.length
    · rw [if_pos h2]
      have hk := List.findIdx_getElem (w := h2)
      simp only [decide_eq_true_eq] at hk
      have hkm := List.getElem_mem h2
      generalize O[O.findIdx (fun y => decide (y.1 = x.1))] = z at hk hkm
      obtain ⟨hz1, hz2⟩ := (h.mem z).1 hkm
      have hsx : sn now x.1 (pre ++ [x]) = max z.2 x.2 := by
        rw [sn_app]
        unfold snF
        rw [hk] at hz2
        rw [← hz2]
        split <;> omega
      refine ⟨?_, ?_, ?_⟩
      · rw [List.pairwise_map]
        refine List.Pairwise.imp ?_ h.dis
        intro a b hab
        split <;> split <;> simp_all
      · intro y hy
        obtain ⟨y0, hy0, rfl⟩ := List.mem_map.1 hy
        have := h.pos y0 hy0
        split
        · dsimp only; omega
        · exact this
      · intro y
        constructor
        · intro hy
          obtain ⟨y0, hy0, rfl⟩ := List.mem_map.1 hy
          have h3 := (h.mem y0).1 hy0
          by_cases he : y0.1 = x.1
          · rw [if_pos he]
            dsimp only
            rw [he, hsx]
            have : y0.2 = z.2 := by rw [h3.2, hz2, he, hk]
            rw [this]
            exact ⟨by omega, rfl⟩
          · rw [if_neg he, hoth y0 he]
            exact h3
        · rintro ⟨h3, h4⟩
          rw [List.mem_map]
          by_cases he : y.1 = x.1
          · refine ⟨z, hkm, ?_⟩
            rw [if_pos hk]
            rw [he, hsx] at h4
            exact Prod.ext (by rw [hk, he]) h4.symm
          · rw [hoth y he] at h4
            exact ⟨y, (h.mem y).2 ⟨h3, h4⟩, if_neg he⟩
    · rw [if_neg h2]
      have hno : ∀ y ∈ O, y.1 ≠ x.1 := fun y hy he => h2 (List.findIdx_lt_length_of_exists ⟨y, hy, by simpa using he⟩)
      have hs0 : sn now x.1 pre = -1 := by
        rcases Int.lt_or_le (sn now x.1 pre) 0 with h3 | h3
        · omega
        · exact absurd rfl (hno (x.1, sn now x.1 pre) ((h.mem _).2 ⟨h3, rfl⟩))
      have hsx : sn now x.1 (pre ++ [x]) = x.2 := by
        rw [sn_app, hs0]
        unfold snF
        rw [if_pos ⟨rfl, by omega, by omega⟩]
      refine ⟨?_, ?_, ?_⟩
      · refine List.pairwise_append.2 ⟨h.dis, by simp, fun a ha b hb => ?_⟩
        rw [List.mem_singleton.1 hb]
        exact hno a ha
      · intro y hy
        rcases List.mem_append.1 hy with hy | hy
        · exact h.pos y hy
        · rw [List.mem_singleton.1 hy]; exact hx
      · intro y
        rw [List.mem_append, List.mem_singleton]
        by_cases he : y.1 = x.1
        · rw [he, hsx]
          constructor
          · rintro (hy | rfl)
            · exact absurd he (hno y hy)
            · exact ⟨hx, rfl⟩
          · rintro ⟨_, h4⟩
            exact .inr (Prod.ext he h4)
        · rw [hoth y he, ← h.mem y]
          constructor
          · rintro (hy | rfl)
            · exact hy
            · exact absurd rfl he
          · exact .inl
theorem Mrg.perm {now : Int} {O a b : List TAddr} (h : Mrg now O (a ++ b)) (ha : addrsOk a) (hb : addrsOk b) : O.Perm (allA a b now) := by
  refine (List.perm_ext_iff_of_nodup (List.Pairwise.imp (fun {x y} hxy e => hxy (by rw [e])) h.dis) (asc_nodup (allA_asc a b now))).2 fun x => ?_
  rw [h.mem, allA_mem]
  constructor
  · rintro ⟨h1, h2⟩
    rcases sn_mem now x.1 (a ++ b) (-1) with h3 | ⟨h3, h4⟩
    · have : sn now x.1 (a ++ b) = -1 := h3
      omega
    · have h5 : 1 ≤ x.1 ∧ x.1 ≤ 99 := by
        rcases List.mem_append.1 h3 with h | h
        · exact ⟨(addrs_in ha h).1, (addrs_in ha h).2.1⟩
        · exact ⟨(addrs_in hb h).1, (addrs_in hb h).2.1⟩
      exact ⟨h5.1, h5.2, h1, h2⟩
  · rintro ⟨_, _, h1, h2⟩
    exact ⟨h1, h2⟩
theorem set_map {O : List TAddr} (h : O.Pairwise fun x y => x.1 ≠ y.1) {k : Nat} (hk : k < O.length) {n id : Int} (he : O[k].1 = id) : O.set k (O[k].1, max O[k].2 n) = O.map fun y => if y.1 = id then (y.1, max y.2 n) else y := by
  refine List.ext_getElem (by simp) fun j h1 h2 => ?_
  rw [List.getElem_set, List.getElem_map]
  have hj : j < O.length := by simpa using h1
  split
  · rename_i e
    subst e
    rw [if_pos he]
  · rename_i e
    have : O[j].1 ≠ id := by
      rw [← he]
      rcases Nat.lt_or_gt_of_ne e with h3 | h3
      · exact fun e' => List.pairwise_iff_getElem.1 h k j hk hj h3 e'.symm
      · exact List.pairwise_iff_getElem.1 h j k hj hk h3
    rw [if_neg this]
/-! what Tell computes -/
abbrev okForget (l : List TAddr) (now age : Int) : Prop := addrsOk l ∧ (0 ≤ now ∧ now ≤ 1000000) ∧ 0 ≤ age
def forgetL (l : List TAddr) (now age : Int) : List TAddr := if okForget l now age then l.filter fun x => decide (now - x.2 ≤ age) else []
def tellL (l : List TAddr) (now age most : Int) : List TAddr := (lateL (forgetL l now age)).take most.toNat
theorem forgetL_len (l : List TAddr) (now age : Int) : (forgetL l now age).length ≤ 10 := by
  unfold forgetL
  split
  · rename_i h
    exact Nat.le_trans (List.length_filter_le _ _) h.1.1
  · simp
theorem tellL_len (l : List TAddr) (now age most : Int) : (tellL l now age most).length ≤ (forgetL l now age).length := by
  unfold tellL
  rw [List.length_take, (late_perm _).length_eq]
  omega
theorem tell_age {l : List TAddr} {now age most : Int} {x : TAddr} (hx : x ∈ tellL l now age most) : now - x.2 ≤ age ∧ okForget l now age ∧ x ∈ l := by
  have := (late_perm _).mem_iff.1 (List.mem_of_mem_take hx)
  unfold forgetL at this
  split at this
  · rename_i h
    obtain ⟨h1, h2⟩ := List.mem_filter.1 this
    exact ⟨by simpa using h2, h, h1⟩
  · cases this
theorem tell_late {l : List TAddr} {now age most : Int} {i : Nat} (hi : i + 1 < (tellL l now age most).length) : (tellL l now age most)[i + 1].2 ≤ (tellL l now age most)[i].2 := by
  have := List.pairwise_iff_getElem.1 (List.Pairwise.sublist (List.take_sublist _ _) (late_sort (forgetL l now age))) i (i + 1) (by unfold tellL at hi; omega) hi (by omega)
  unfold ltL at this
  simp only [tellL]
  omega
end Go.Proofs.Yteaohgacgcjkjaa

end
section
/-!
  Hear, Forget, Tell of spec.
-/
namespace Go.Proofs.Yteaohgacgcjkjaa
set_option maxRecDepth 100000
set_option linter.unusedVariables false
set_option linter.unusedSimpArgs false
open Go Go.RowKit
set_option maxHeartbeats 8000000
set_option linter.unusedVariables false

abbrev aLA (l : List TAddr) : Arg := aL cAddr l
theorem addr_row {l : List TAddr} {k : Nat} (h : k < l.length) : (rowsF cAddr l)[k]? = some [.sc (.int .i64 l[k].1), .sc (.int .i64 l[k].2)] := rowsF_get cAddr l k h
theorem cAddr_app (l : List TAddr) (a b : Int) : rowsF cAddr l ++ [[.sc (.int .i64 a), .sc (.int .i64 b)]] = rowsF cAddr (l ++ [(a, b)]) := by rw [← rowsF_app]; rfl
theorem cAddr_app2 (l m : List TAddr) : rowsF cAddr l ++ rowsF cAddr m = rowsF cAddr (l ++ m) := rowsF_app _ _ _
theorem cAddr_take (l : List TAddr) (k : Nat) : (rowsF cAddr l).take k = rowsF cAddr (l.take k) := by unfold rowsF; rw [List.map_take]
theorem cAddr_drop (l : List TAddr) (k : Nat) : (rowsF cAddr l).drop k = rowsF cAddr (l.drop k) := by unfold rowsF; rw [List.map_drop]
end Go.Proofs.Yteaohgacgcjkjaa

end
