/-
  FnStake: the plain law.
-/
import Derived.Test.YtlchfjjoendimaaEvRew
import Derived.Test.YtlchfjjoendimaaCoinsOf
import Derived.Test.YtlchfjjoendimaaToVals
namespace Go.Proofs.Ytlchfjjoendimaa
set_option maxRecDepth 100000
set_option linter.unusedVariables false
set_option linter.unusedSimpArgs false
open Go Go.RowKit
set_option maxHeartbeats 4000000
set_option linter.unusedVariables false

theorem give_sum (id n : Int) : ∀ l : List TAcct, sumCoinsOf (give id n l) = sumCoinsOf l + n
  | [] => by simp [sumCoinsOf, give]
  | x :: r => by
    unfold give
    have ih := give_sum id n r
    simp only [sumCoinsOf] at ih ⊢
    split
    · simp only [List.map_cons, List.sum_cons, ih]; omega
    · split <;> simp only [List.map_cons, List.sum_cons] <;> omega
theorem share_bd {P c : Int} (hP : 1 ≤ P) (hc : 0 ≤ c) : ∀ l : List TVal, (∀ v ∈ l, 0 ≤ v.2) →
    P * (l.map fun v => (c * v.2).tdiv P).sum ≤ c * (l.map fun v => v.2).sum ∧ c * (l.map fun v => v.2).sum ≤ P * (l.map fun v => (c * v.2).tdiv P).sum + l.length * (P - 1)
  | [], _ => by simp
  | v :: l, h => by
    obtain ⟨i1, i2⟩ := share_bd hP hc l (fun u hu => h u (List.mem_cons_of_mem _ hu))
    have h0 := h v List.mem_cons_self
    have h1 : 0 ≤ c * v.2 := Int.mul_nonneg hc h0
    simp only [List.map_cons, List.sum_cons, List.length_cons, Int.mul_add]
    rw [Int.tdiv_eq_ediv_of_nonneg h1]
    have h2 := Int.mul_ediv_add_emod (c * v.2) P
    have h3 := Int.emod_nonneg (c * v.2) (by omega : P ≠ 0)
    have h4 := Int.emod_lt_of_pos (c * v.2) (by omega : 0 < P)
    have h5 : ((l.length + 1 : Nat) : Int) * (P - 1) = l.length * (P - 1) + (P - 1) := by rw [Int.natCast_add, Int.add_mul]; simp
    rw [h5]
    generalize P * (List.map (fun v => (c * v.2).tdiv P) l).sum = X at *
    generalize c * (List.map (fun v => v.2) l).sum = Y at *
    generalize (l.length : Int) * (P - 1) = Z at *
    generalize P * (c * v.2 / P) = U at *
    constructor <;> omega
theorem rest_bd {vals : List TVal} {coins : Int} (hv : valsOk vals) (hc : 0 ≤ coins ∧ coins ≤ 10000) : 0 ≤ restA vals coins ∧ restA vals coins ≤ vals.length := by
  have hP := powerOf_pos hv
  have hp : powerOf vals = (vals.map fun v => v.2).sum := by
    unfold powerOf
    rw [if_pos hv]
    unfold powSum
    refine congrArg List.sum (List.map_congr_left fun v _ => ?_)
    simp [powC]
  obtain ⟨h1, h2⟩ := share_bd hP hc.1 vals (fun v hv' => by
    obtain ⟨k, hk, rfl⟩ := List.getElem_of_mem hv'
    obtain ⟨_, _, h3, _⟩ := vals_at hv hk
    omega)
  rw [← hp] at h1 h2
  have hs : sumK (shA vals coins) vals vals.length = (vals.map fun v => (coins * v.2).tdiv (powerOf vals)).sum := sumK_all _ (Nat.le_refl _)
  unfold restA
  rw [hs]
  generalize powerOf vals = P at *
  generalize (vals.map fun v => (coins * v.2).tdiv P).sum = S at *
  have e1 : P * S ≤ P * coins := by rw [Int.mul_comm P coins]; exact h1
  have e2 := Int.le_of_mul_le_mul_left e1 (by omega)
  have e3 : P * coins ≤ P * (S + vals.length) := by
    rw [Int.mul_add, Int.mul_comm P coins, Int.mul_comm P (vals.length : Int)]
    have e4 : (vals.length : Int) * (P - 1) ≤ vals.length * P := Int.mul_le_mul_of_nonneg_left (by omega) (by omega)
    omega
  have e5 := Int.le_of_mul_le_mul_left e3 (by omega)
  omega
theorem rwS_sum {vals : List TVal} {coins : Int} {l : List TAcct} (h0 : 0 ≤ restA vals coins) : ∀ k, k ≤ vals.length → sumCoinsOf (rwS vals coins l k) = sumCoinsOf l + sumK (shA vals coins) vals k + min (k : Int) (restA vals coins)
  | 0, _ => by
    rw [sumK_zero]
    show sumCoinsOf l = _
    omega
  | k + 1, hk => by
    have hk' : k < vals.length := hk
    rw [rwS_succ hk', give_sum, rwS_sum h0 k (by omega), sumK_succ _ hk']
    unfold nA
    split <;> omega
theorem rew_yes {l : List TAcct} {vals : List TVal} {coins : Int} (h : rewB l vals coins = true) : coinsOf (rewL l vals coins) = coinsOf l + coins ∧ acctsOk (rewL l vals coins) := by
  have hL : rewL l vals coins = rwS vals coins l vals.length := by unfold rewL; rw [if_pos h]
  simp only [rewB, Bool.and_eq_true, decide_eq_true_eq] at h
  obtain ⟨⟨⟨ha, hv⟩, hc⟩, hok⟩ := h
  rw [hL]
  refine ⟨?_, hok⟩
  have hr := rest_bd hv hc
  have hs := rwS_sum (l := l) hr.1 vals.length (Nat.le_refl _)
  unfold coinsOf
  rw [if_pos ha, if_pos hok, hs]
  have : restA vals coins = coins - sumK (shA vals coins) vals vals.length := rfl
  omega
theorem coins_nil : coinsOf [] = 0 := by
  unfold coinsOf
  split <;> rfl
theorem rew_no {l : List TAcct} {vals : List TVal} {coins : Int} (h : rewB l vals coins = false) : coinsOf (rewL l vals coins) = coinsOf l := by
  unfold rewL
  rw [h, if_neg (by simp)]
  split
  · rfl
  · rename_i ha
    rw [coins_nil]
    unfold coinsOf
    rw [if_neg ha]
theorem coins_in (l : List TAcct) : 0 ≤ coinsOf l ∧ coinsOf l ≤ 7000000 := by
  unfold coinsOf
  split
  · rename_i h
    have := sumCoinsOf_bd h l.length (Nat.le_refl _)
    rw [List.take_length] at this
    have := h.1
    omega
  · omega
theorem acctAt_get {l : List TAcct} {k : Nat} (hk : k < l.length) : acctAt l k ↔ (1 ≤ l[k].1 ∧ l[k].1 ≤ 99 ∧ 0 ≤ l[k].2 ∧ l[k].2 ≤ 1000000 ∧ (k > 0 → (l[k - 1]'(by omega)).1 < l[k].1)) := by
  unfold acctAt
  simp only [List.getD_eq_getElem?_getD, List.getElem?_eq_getElem hk, List.getElem?_eq_getElem (show k - 1 < l.length by omega), Option.getD_some]
theorem slash_ok {l : List TAcct} {ids : List Int} {part : Int} (ha : acctsOk l) (hp : 1 ≤ part) : acctsOk (l.map (upA ids part)) := by
  refine ⟨by simpa using ha.1, fun k hk => ?_⟩
  have hk' : k < l.length := by simpa using hk
  rw [acctAt_get hk]
  obtain ⟨h1, h2, h3, h4, h5⟩ := (acctAt_get hk').1 (ha.2 k hk')
  have hid : ∀ a : TAcct, (upA ids part a).1 = a.1 := fun a => by unfold upA; split <;> rfl
  simp only [List.getElem_map, hid]
  have key : ∀ a : TAcct, 0 ≤ a.2 → a.2 ≤ 1000000 → 0 ≤ (upA ids part a).2 ∧ (upA ids part a).2 ≤ 1000000 := fun a h3 h4 => by
    have := tdiv_in h3 hp
    unfold upA
    split
    · exact ⟨by dsimp only; omega, by dsimp only; omega⟩
    · exact ⟨h3, h4⟩
  exact ⟨h1, h2, (key _ h3 h4).1, (key _ h3 h4).2, h5⟩
theorem slash_sum {ids : List Int} {part : Int} : ∀ l : List TAcct, sumCoinsOf (l.map (upA ids part)) + (l.map (cutA ids part)).sum = sumCoinsOf l
  | [] => rfl
  | x :: r => by
    have ih := slash_sum (ids := ids) (part := part) r
    simp only [sumCoinsOf, List.map_cons, List.sum_cons] at ih ⊢
    have : (upA ids part x).2 + cutA ids part x = x.2 := by
      unfold upA cutA
      split
      · dsimp only; omega
      · omega
    omega
theorem slash_coins {l : List TAcct} {ids : List Int} {part : Int} (ha : acctsOk l) : coinsOf (slashL l ids part) + slashN l ids part = coinsOf l := by
  unfold slashL slashN
  rw [if_pos ha]
  by_cases hp : 1 ≤ part ∧ part ≤ 100
  · rw [if_pos hp, if_pos ⟨ha, hp⟩]
    have hok := slash_ok (ids := ids) ha hp.1
    unfold coinsOf
    rw [if_pos ha, if_pos hok]
    exact slash_sum l
  · rw [if_neg hp, if_neg (fun h => hp h.2)]
    omega
theorem tvs_mem {unit : Int} {l : List TAcct} {v : TVal} (h : v ∈ tvs unit l) : ∃ a ∈ l, unit ≤ a.2 ∧ v = (a.1, min 1000 (a.2 / unit)) := by
  unfold tvs at h
  obtain ⟨a, ha, hv⟩ := List.mem_flatMap.1 h
  split at hv
  · exact ⟨a, ha, by assumption, by simpa using hv⟩
  · cases hv
theorem tvs_asc {unit : Int} : ∀ {l : List TAcct} (_ : Asc l), (tvs unit l).Pairwise fun a b => a.1 < b.1
  | [], _ => List.Pairwise.nil
  | x :: r, h => by
    obtain ⟨h1, h2⟩ := List.pairwise_cons.1 h
    have ih := tvs_asc (unit := unit) h2
    have e : tvs unit (x :: r) = (if unit ≤ x.2 then [(x.1, min 1000 (x.2 / unit))] else []) ++ tvs unit r := by simp [tvs]
    rw [e]
    split
    · refine List.pairwise_cons.2 ⟨fun v hv => ?_, ih⟩
      obtain ⟨a, ha, _, rfl⟩ := tvs_mem hv
      exact h1 a ha
    · exact ih
theorem toVals_ok {l : List TAcct} {unit : Int} (h : toVals l unit ≠ []) : valsOk (toVals l unit) := by
  unfold toVals at h ⊢
  by_cases hc : acctsOk l ∧ 1 ≤ unit
  · rw [if_pos hc] at h ⊢
    obtain ⟨ha, hu⟩ := hc
    have hlen := tvs_le unit l
    have hl7 := ha.1
    refine ⟨⟨List.length_pos_iff.2 h, by omega⟩, fun k hk => ?_⟩
    have hasc := List.pairwise_iff_getElem.1 (tvs_asc (unit := unit) (accts_asc ha))
    obtain ⟨a, hal, hua, hv⟩ := tvs_mem (List.getElem_mem hk)
    obtain ⟨j, hj, rfl⟩ := List.getElem_of_mem hal
    obtain ⟨b1, b2, b3, b4⟩ := accts_at ha hj
    have q1 := quo_pos hu hua
    unfold valAt
    simp only [List.getD_eq_getElem?_getD, List.getElem?_eq_getElem hk, List.getElem?_eq_getElem (show k - 1 < (tvs unit l).length by omega), Option.getD_some]
    refine ⟨?_, ?_, ?_, ?_, fun h0 => hasc (k - 1) k (by omega) hk (by omega)⟩ <;> rw [hv] <;> dsimp only <;> omega
  · rw [if_neg hc] at h
    exact absurd rfl h
end Go.Proofs.Ytlchfjjoendimaa
