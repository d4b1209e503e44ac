/-
  Reward: what it computes, in plain lists.
-/
import Derived.Test.YtlchfjjoendimaaEvSlash
import Derived.Test.YtlchfjjoendimaaEvThird
namespace Go.Proofs.Ytlchfjjoendimaa
set_option maxRecDepth 100000
set_option linter.unusedVariables false
set_option linter.unusedSimpArgs false
open Go Go.RowKit
set_option maxHeartbeats 4000000
set_option linter.unusedVariables false

def give (id n : Int) : List TAcct → List TAcct
  | [] => [(id, n)]
  | x :: r => if x.1 < id then x :: give id n r else if x.1 = id then (x.1, x.2 + n) :: r else (id, n) :: x :: r
def addA (id n : Int) (x : TAcct) : TAcct := if x.1 = id then (x.1, x.2 + n) else x
abbrev Asc (l : List TAcct) : Prop := l.Pairwise fun a b => a.1 < b.1
def hasA (id : Int) (l : List TAcct) : Prop := ∃ x ∈ l, x.1 = id
instance (id : Int) (l : List TAcct) : Decidable (hasA id l) := by unfold hasA; infer_instance
def updA (id n : Int) (l : List TAcct) : List TAcct := if hasA id l then l.map (addA id n) else l ++ [(id, n)]
theorem give_mem {id n : Int} {x : TAcct} : ∀ {l : List TAcct} (_ : x ∈ give id n l), x = (id, n) ∨ (∃ y ∈ l, y.1 = id ∧ x = (y.1, y.2 + n)) ∨ x ∈ l
  | [], h => .inl (List.mem_singleton.1 h)
  | y :: r, h => by
    unfold give at h
    split at h
    · rcases List.mem_cons.1 h with rfl | h
      · exact .inr (.inr List.mem_cons_self)
      · rcases give_mem h with h | ⟨z, hz, h1, h2⟩ | h
        · exact .inl h
        · exact .inr (.inl ⟨z, List.mem_cons_of_mem _ hz, h1, h2⟩)
        · exact .inr (.inr (List.mem_cons_of_mem _ h))
    · split at h
      · rename_i he
        rcases List.mem_cons.1 h with rfl | h
        · exact .inr (.inl ⟨y, List.mem_cons_self, he, rfl⟩)
        · exact .inr (.inr (List.mem_cons_of_mem _ h))
      · rcases List.mem_cons.1 h with rfl | h
        · exact .inl rfl
        · exact .inr (.inr h)
theorem give_id {id n : Int} {x : TAcct} {l : List TAcct} (h : x ∈ give id n l) : x.1 = id ∨ x ∈ l := by
  rcases give_mem h with rfl | ⟨y, _, h1, rfl⟩ | h
  · exact .inl rfl
  · exact .inl h1
  · exact .inr h
theorem give_asc {id n : Int} : ∀ {l : List TAcct} (_ : Asc l), Asc (give id n l)
  | [], _ => List.pairwise_singleton _ _
  | y :: r, h => by
    obtain ⟨h1, h2⟩ := List.pairwise_cons.1 h
    unfold give
    split
    · rename_i hlt
      refine List.pairwise_cons.2 ⟨fun z hz => ?_, give_asc h2⟩
      rcases give_id hz with e | hz
      · rw [e]; exact hlt
      · exact h1 z hz
    · split
      · exact List.pairwise_cons.2 ⟨fun z hz => h1 z hz, h2⟩
      · refine List.pairwise_cons.2 ⟨fun z hz => ?_, h⟩
        have hy : id < y.1 := by omega
        rcases List.mem_cons.1 hz with rfl | hz
        · exact hy
        · exact Int.lt_trans hy (h1 z hz)
theorem give_no {id n : Int} : ∀ {l : List TAcct} (_ : ¬ hasA id l), (give id n l).Perm (l ++ [(id, n)])
  | [], _ => List.Perm.refl _
  | y :: r, h => by
    unfold give
    split
    · exact (give_no fun ⟨x, hx, he⟩ => h ⟨x, List.mem_cons_of_mem _ hx, he⟩).cons y
    · rw [if_neg (fun he => h ⟨y, List.mem_cons_self, he⟩)]
      exact (List.perm_append_singleton (id, n) (y :: r)).symm
theorem map_same {id n : Int} {l : List TAcct} (h : ∀ x ∈ l, x.1 ≠ id) : l.map (addA id n) = l := by
  conv => rhs; rw [← List.map_id l]
  exact List.map_congr_left fun x hx => by unfold addA; rw [if_neg (h x hx)]; rfl
theorem give_yes {id n : Int} : ∀ {l : List TAcct} (_ : Asc l) (_ : hasA id l), give id n l = l.map (addA id n)
  | [], _, ⟨_, h, _⟩ => by cases h
  | y :: r, h, ⟨x, hx, he⟩ => by
    obtain ⟨h1, h2⟩ := List.pairwise_cons.1 h
    unfold give
    rw [List.map_cons]
    by_cases hlt : y.1 < id
    · have hr : hasA id r := by
        rcases List.mem_cons.1 hx with e | hx
        · subst e; omega
        · exact ⟨x, hx, he⟩
      have hy : addA id n y = y := by unfold addA; rw [if_neg (by omega)]
      rw [if_pos hlt, give_yes h2 hr, hy]
    · have hy : y.1 = id := by
        rcases List.mem_cons.1 hx with e | hx
        · subst e; exact he
        · have := h1 x hx
          omega
      have ha : addA id n y = (y.1, y.2 + n) := by unfold addA; rw [if_pos hy]
      rw [if_neg hlt, if_pos hy, ha, map_same (fun z hz => by have := h1 z hz; omega)]
theorem give_perm {id n : Int} {l : List TAcct} (h : Asc l) : (give id n l).Perm (updA id n l) := by
  unfold updA
  split
  · rename_i hh
    rw [give_yes h hh]
  · rename_i hh
    exact give_no hh
theorem hasA_perm {id : Int} {l m : List TAcct} (h : l.Perm m) : hasA id l ↔ hasA id m :=
  ⟨fun ⟨x, hx, he⟩ => ⟨x, h.mem_iff.1 hx, he⟩, fun ⟨x, hx, he⟩ => ⟨x, h.mem_iff.2 hx, he⟩⟩
theorem updA_perm {id n : Int} {l m : List TAcct} (h : l.Perm m) : (updA id n l).Perm (updA id n m) := by
  unfold updA
  by_cases hh : hasA id l
  · rw [if_pos hh, if_pos ((hasA_perm h).1 hh)]
    exact h.map _
  · rw [if_neg hh, if_neg (fun h' => hh ((hasA_perm h).2 h'))]
    exact h.append_right _
abbrev Dis (l : List TAcct) : Prop := l.Pairwise fun a b => a.1 ≠ b.1
theorem asc_dis {l : List TAcct} (h : Asc l) : Dis l := h.imp fun h e => by omega
theorem dis_perm {l m : List TAcct} (h : l.Perm m) (hm : Dis m) : Dis l := (h.pairwise_iff (fun {a b} (hab : a.1 ≠ b.1) => fun e => hab e.symm)).2 hm
theorem dis_at {l : List TAcct} (h : Dis l) {i j : Nat} (hi : i < l.length) (hj : j < l.length) (he : l[i].1 = l[j].1) : i = j := by
  rcases Nat.lt_trichotomy i j with h1 | h1 | h1
  · exact absurd he (List.pairwise_iff_getElem.1 h i j hi hj h1)
  · exact h1
  · exact absurd he.symm (List.pairwise_iff_getElem.1 h j i hj hi h1)
theorem set_upd {id n : Int} {l : List TAcct} (h : Dis l) {k : Nat} (hk : k < l.length) (he : l[k].1 = id) : l.set k (l[k].1, l[k].2 + n) = updA id n l := by
  unfold updA
  rw [if_pos ⟨_, List.getElem_mem hk, he⟩]
  refine List.ext_getElem (by simp) fun j h1 h2 => ?_
  have hj : j < l.length := by simpa using h1
  rw [List.getElem_set, List.getElem_map]
  unfold addA
  by_cases hkj : k = j
  · subst hkj
    rw [if_pos rfl, if_pos he]
  · rw [if_neg hkj, if_neg (fun e => hkj (dis_at h hk hj (he.trans e.symm)))]
theorem sortA_one : ∀ {m l : List TAcct} (_ : l.Perm m) (_ : l.Pairwise fun x y => ¬ y.1 - x.1 < 0) (_ : Asc m), l = m
  | [], l, hp, _, _ => List.Perm.eq_nil hp
  | a :: m, l, hp, hs, hm => by
    obtain ⟨m1, m2⟩ := List.pairwise_cons.1 hm
    cases l with
    | nil => exact absurd hp.symm (by simp)
    | cons c l =>
      obtain ⟨s1, s2⟩ := List.pairwise_cons.1 hs
      have hca : c = a := by
        rcases List.mem_cons.1 (hp.mem_iff.1 List.mem_cons_self) with h | h
        · exact h
        · rcases List.mem_cons.1 (hp.mem_iff.2 (List.mem_cons_self (a := a) (l := m))) with h' | h'
          · exact h'.symm
          · have h3 := m1 c h
            have h4 := s1 a h'
            omega
      subst hca
      rw [sortA_one hp.cons_inv s2 m2]
theorem accts_asc {l : List TAcct} (h : acctsOk l) : Asc l := by
  show l.Pairwise _
  rw [List.pairwise_iff_getElem]
  have one : ∀ i, (hi : i + 1 < l.length) → l[i].1 < l[i + 1].1 := fun i hi => by
    have := h.2 (i + 1) hi
    unfold acctAt at this
    simp only [List.getD_eq_getElem?_getD, List.getElem?_eq_getElem hi, List.getElem?_eq_getElem (show i < l.length by omega), Option.getD_some, Nat.add_sub_cancel] at this
    obtain ⟨_, _, _, _, h5⟩ := this
    exact h5 (by omega)
  have key : ∀ d i, (hd : i + d + 1 < l.length) → l[i].1 < l[i + d + 1].1 := by
    intro d
    induction d with
    | zero => exact fun i hd => one i hd
    | succ d ih => exact fun i hd => Int.lt_trans (ih i (by omega)) (one (i + d + 1) hd)
  intro i j hi hj hij
  have := key (j - i - 1) i (by omega)
  have e : i + (j - i - 1) + 1 = j := by omega
  simp only [e] at this
  exact this

/-! the spec's own step -/
def gst (id n : Int) (q : List TAcct × Bool) (x : TAcct) : List TAcct × Bool :=
  if x.1 < id then (q.1 ++ [x], q.2) else if x.1 = id then (q.1 ++ [(x.1, x.2 + n)], true) else ((if q.2 then q.1 else q.1 ++ [(id, n)]) ++ [x], true)
def gfo (id n : Int) (l : List TAcct) : List TAcct × Bool := l.foldl (gst id n) ([], false)
theorem gfo_succ (id n : Int) (l : List TAcct) {k : Nat} (hk : k < l.length) : gfo id n (l.take (k + 1)) = gst id n (gfo id n (l.take k)) l[k] := by
  unfold gfo
  rw [List.take_succ_eq_append_getElem hk, List.foldl_append]
  rfl
theorem gfold_true (id n : Int) : ∀ (l o : List TAcct), (∀ x ∈ l, id < x.1) → l.foldl (gst id n) (o, true) = (o ++ l, true)
  | [], o, _ => by simp
  | x :: r, o, h => by
    have hx := h x List.mem_cons_self
    have e : gst id n (o, true) x = (o ++ [x], true) := by
      unfold gst
      rw [if_neg (by omega), if_neg (by omega)]
      rfl
    rw [List.foldl_cons, e, gfold_true id n r _ (fun y hy => h y (List.mem_cons_of_mem _ hy))]
    simp
theorem gfold_false (id n : Int) : ∀ (l o : List TAcct) (_ : Asc l), (let q := l.foldl (gst id n) (o, false); if q.2 then q.1 else q.1 ++ [(id, n)]) = o ++ give id n l
  | [], o, _ => rfl
  | x :: r, o, h => by
    obtain ⟨h1, h2⟩ := List.pairwise_cons.1 h
    rw [List.foldl_cons]
    unfold give
    by_cases hlt : x.1 < id
    · have e : gst id n (o, false) x = (o ++ [x], false) := by
        unfold gst
        rw [if_pos hlt]
      rw [e, if_pos hlt, gfold_false id n r _ h2]
      simp
    · rw [if_neg hlt]
      by_cases heq : x.1 = id
      · have e : gst id n (o, false) x = (o ++ [(x.1, x.2 + n)], true) := by
          unfold gst
          rw [if_neg hlt, if_pos heq]
        rw [e, if_pos heq, gfold_true id n r _ (fun y hy => by have := h1 y hy; omega)]
        simp
      · have e : gst id n (o, false) x = (o ++ [(id, n)] ++ [x], true) := by
          unfold gst
          rw [if_neg hlt, if_neg heq]
          rfl
        rw [e, if_neg heq, gfold_true id n r _ (fun y hy => by have := h1 y hy; omega)]
        simp
theorem gfo_all {id n : Int} {l o : List TAcct} {p : Bool} (hs : Asc l) (h : gfo id n l = (o, p)) : (if p then o else o ++ [(id, n)]) = give id n l := by
  have := gfold_false id n l [] hs
  unfold gfo at h
  rw [h] at this
  simpa using this
theorem gfo_len (id n : Int) (l : List TAcct) : (gfo id n l).1.length ≤ 2 * l.length := by
  have key : ∀ (l : List TAcct) (q : List TAcct × Bool), (l.foldl (gst id n) q).1.length ≤ q.1.length + 2 * l.length := by
    intro l
    induction l with
    | nil => intro q; simp
    | cons x r ih =>
      intro q
      rw [List.foldl_cons]
      have h1 := ih (gst id n q x)
      have h2 : (gst id n q x).1.length ≤ q.1.length + 2 := by
        unfold gst
        repeat' split
        all_goals (simp only [List.length_append, List.length_cons, List.length_nil]; try split) <;> simp <;> omega
      simp only [List.length_cons]
      omega
  simpa [gfo] using key l ([], false)

/-! the shares -/
def shA (vals : List TVal) (coins : Int) (v : TVal) : Int := (coins * v.2).tdiv (powerOf vals)
def restA (vals : List TVal) (coins : Int) : Int := coins - sumK (shA vals coins) vals vals.length
def nA (vals : List TVal) (coins : Int) (k : Nat) (v : TVal) : Int := shA vals coins v + if (k : Int) < restA vals coins then 1 else 0
def rwS (vals : List TVal) (coins : Int) (l : List TAcct) : Nat → List TAcct
  | 0 => l
  | k + 1 => match vals[k]? with
    | some v => give v.1 (nA vals coins k v) (rwS vals coins l k)
    | none => rwS vals coins l k
def rwI (vals : List TVal) (coins : Int) (l : List TAcct) : Nat → List TAcct
  | 0 => l
  | k + 1 => match vals[k]? with
    | some v => updA v.1 (nA vals coins k v) (rwI vals coins l k)
    | none => rwI vals coins l k
theorem rwS_succ {vals : List TVal} {coins : Int} {l : List TAcct} {k : Nat} (h : k < vals.length) : rwS vals coins l (k + 1) = give vals[k].1 (nA vals coins k vals[k]) (rwS vals coins l k) := by
  conv => lhs; unfold rwS
  rw [List.getElem?_eq_getElem h]
theorem rwI_succ {vals : List TVal} {coins : Int} {l : List TAcct} {k : Nat} (h : k < vals.length) : rwI vals coins l (k + 1) = updA vals[k].1 (nA vals coins k vals[k]) (rwI vals coins l k) := by
  conv => lhs; unfold rwI
  rw [List.getElem?_eq_getElem h]
def lftA (vals : List TVal) (coins : Int) (k : Nat) : Int := coins - sumK (shA vals coins) vals k
theorem lftA_zero (vals : List TVal) (coins : Int) : lftA vals coins 0 = coins := by unfold lftA; rw [sumK_zero]; omega
theorem lftA_succ {vals : List TVal} {coins : Int} {k : Nat} (h : k < vals.length) : lftA vals coins k - (coins * vals[k].2).tdiv (powerOf vals) = lftA vals coins (k + 1) := by
  unfold lftA
  rw [sumK_succ _ h]
  unfold shA
  omega
theorem powerOf_pos {l : List TVal} (h : valsOk l) : 1 ≤ powerOf l := by
  unfold powerOf
  rw [if_pos h]
  unfold powSum
  have h1 := h.1.1
  have hm := sumK_in (c := fun v : TVal => powC (fun _ => true) v - 1) (l := l) (m := 1000) (fun k hk => by
    obtain ⟨_, _, h3, h4⟩ := vals_at h hk
    simp only [powC, if_true]
    omega) l.length (Nat.le_refl _)
  cases l with
  | nil => simp at h1
  | cons x r =>
    have hr := sumK_in (c := powC fun _ => true) (l := r) (m := 1000) (fun k hk => by
      obtain ⟨_, _, h3, h4⟩ := vals_at h (k := k + 1) (by simpa using hk)
      simp only [List.getElem_cons_succ] at h3 h4
      simp only [powC, if_true]
      omega) r.length (Nat.le_refl _)
    rw [sumK_all _ (Nat.le_refl _)] at hr
    obtain ⟨_, _, h3, h4⟩ := vals_at h (k := 0) (by simp)
    simp only [List.getElem_cons_zero] at h3 h4
    simp only [List.map_cons, List.sum_cons]
    simp only [powC, if_true] at hr ⊢
    omega
theorem mul_in {a b : Int} {m n : Nat} (h1 : 0 ≤ a) (h2 : a ≤ m) (h3 : 0 ≤ b) (h4 : b ≤ n) : 0 ≤ a * b ∧ a * b ≤ (m : Int) * n :=
  ⟨Int.mul_nonneg h1 h3, Int.mul_le_mul h2 h4 h3 (by omega)⟩
section
variable {vals : List TVal} {coins : Int} (hv : valsOk vals) (hc : 0 ≤ coins ∧ coins ≤ 10000)
include hv hc
theorem mulA_in {k : Nat} (hk : k < vals.length) : 0 ≤ coins * vals[k].2 ∧ coins * vals[k].2 ≤ 10000000 := by
  obtain ⟨_, _, h3, h4⟩ := vals_at hv hk
  have := mul_in (m := 10000) (n := 1000) hc.1 hc.2 (b := vals[k].2) (by omega) (by omega)
  exact ⟨this.1, by have := this.2; simpa using this⟩
theorem shA_in {k : Nat} (hk : k < vals.length) : 0 ≤ shA vals coins vals[k] ∧ shA vals coins vals[k] ≤ 10000000 := by
  have h1 := mulA_in hv hc hk
  have h2 := tdiv_in h1.1 (powerOf_pos hv)
  exact ⟨h2.1, Int.le_trans h2.2 h1.2⟩
theorem sumA_in {k : Nat} (hk : k ≤ vals.length) : 0 ≤ sumK (shA vals coins) vals k ∧ sumK (shA vals coins) vals k ≤ 70000000 := by
  have h1 := sumK_in (m := 10000000) (fun k hk => shA_in hv hc hk) k hk
  have := hv.1.2
  omega
theorem lftA_in {k : Nat} (hk : k ≤ vals.length) : -70000000 ≤ lftA vals coins k ∧ lftA vals coins k ≤ 10000 := by
  have := sumA_in hv hc hk
  unfold lftA
  omega
theorem restA_in : -70000000 ≤ restA vals coins ∧ restA vals coins ≤ 10000 := by
  have := sumA_in hv hc (Nat.le_refl vals.length)
  unfold restA
  omega
theorem nA_in {k : Nat} (hk : k < vals.length) : 0 ≤ nA vals coins k vals[k] ∧ nA vals coins k vals[k] ≤ 20000000 := by
  have h1 := shA_in hv hc hk
  unfold nA
  split <;> omega
end
theorem nA_pos {vals : List TVal} {coins : Int} {k : Nat} (hk : k < vals.length) (h : (k : Int) < restA vals coins) : nA vals coins k vals[k] = shA vals coins vals[k] + 1 := by
  unfold nA
  rw [if_pos h]
theorem nA_neg {vals : List TVal} {coins : Int} {k : Nat} (hk : k < vals.length) (h : ¬ (k : Int) < restA vals coins) : nA vals coins k vals[k] = shA vals coins vals[k] := by
  unfold nA
  rw [if_neg h, Int.add_zero]
def Bdd (k : Nat) (l : List TAcct) : Prop := l.length ≤ 7 + k ∧ ∀ x ∈ l, 1 ≤ x.1 ∧ x.1 ≤ 99 ∧ 0 ≤ x.2 ∧ x.2 ≤ 1000000 + 20000000 * k
theorem bdd_zero {l : List TAcct} (h : acctsOk l) : Bdd 0 l := by
  refine ⟨h.1, fun x hx => ?_⟩
  obtain ⟨i, hi, rfl⟩ := List.getElem_of_mem hx
  have := accts_at h hi
  omega
theorem give_len (id n : Int) (l : List TAcct) : (give id n l).length ≤ l.length + 1 := by
  induction l with
  | nil => simp [give]
  | cons x r ih =>
    unfold give
    split
    · simp; exact ih
    · split <;> simp
theorem bdd_give {k : Nat} {l : List TAcct} {id n : Int} (h : Bdd k l) (h1 : 1 ≤ id) (h2 : id ≤ 99) (h3 : 0 ≤ n) (h4 : n ≤ 20000000) : Bdd (k + 1) (give id n l) := by
  refine ⟨by have := give_len id n l; have := h.1; omega, fun x hx => ?_⟩
  rcases give_mem hx with rfl | ⟨y, hy, _, rfl⟩ | hx
  · dsimp only; omega
  · have := h.2 y hy
    dsimp only; omega
  · have := h.2 x hx
    omega
theorem bdd_perm {k : Nat} {l m : List TAcct} (h : l.Perm m) (hm : Bdd k m) : Bdd k l := ⟨by rw [h.length_eq]; exact hm.1, fun x hx => hm.2 x (h.mem_iff.1 hx)⟩
section
variable {vals : List TVal} {coins : Int} {l : List TAcct} (ha : acctsOk l) (hv : valsOk vals) (hc : 0 ≤ coins ∧ coins ≤ 10000)
include ha hv hc
theorem rwS_in : ∀ k, k ≤ vals.length → Bdd k (rwS vals coins l k) ∧ Asc (rwS vals coins l k)
  | 0, _ => ⟨bdd_zero ha, accts_asc ha⟩
  | k + 1, hk => by
    obtain ⟨h1, h2⟩ := rwS_in k (by omega)
    obtain ⟨h3, h4, _, _⟩ := vals_at hv (k := k) hk
    obtain ⟨h5, h6⟩ := nA_in hv hc (k := k) hk
    rw [rwS_succ hk]
    exact ⟨bdd_give h1 h3 h4 h5 h6, give_asc h2⟩
theorem rwI_perm : ∀ k, k ≤ vals.length → (rwI vals coins l k).Perm (rwS vals coins l k)
  | 0, _ => List.Perm.refl _
  | k + 1, hk => by
    rw [rwS_succ hk, rwI_succ hk]
    exact (updA_perm (rwI_perm k (by omega))).trans (give_perm (rwS_in ha hv hc k (by omega)).2).symm
theorem rwI_in {k : Nat} (hk : k ≤ vals.length) : Bdd k (rwI vals coins l k) ∧ Dis (rwI vals coins l k) :=
  ⟨bdd_perm (rwI_perm ha hv hc k hk) (rwS_in ha hv hc k hk).1, dis_perm (rwI_perm ha hv hc k hk) (asc_dis (rwS_in ha hv hc k hk).2)⟩
end
def rewB (l : List TAcct) (vals : List TVal) (coins : Int) : Bool := decide (acctsOk l) && decide (valsOk vals) && decide (0 ≤ coins ∧ coins ≤ 10000) && decide (acctsOk (rwS vals coins l vals.length))
def rewL (l : List TAcct) (vals : List TVal) (coins : Int) : List TAcct := if rewB l vals coins = true then rwS vals coins l vals.length else if acctsOk l then l else []
theorem rewL_le (l : List TAcct) (vals : List TVal) (coins : Int) : (rewL l vals coins).length ≤ 7 := by
  unfold rewL
  split
  · rename_i h
    simp only [rewB, Bool.and_eq_true, decide_eq_true_eq] at h
    exact h.2.1
  · split
    · rename_i h
      exact h.1
    · simp
end Go.Proofs.Ytlchfjjoendimaa
