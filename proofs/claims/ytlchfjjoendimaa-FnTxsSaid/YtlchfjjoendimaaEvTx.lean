/-
  FnTxs: the plain law.
-/
import Derived.Test.YtlchfjjoendimaaEvTxF
namespace Go.Proofs.Ytlchfjjoendimaa
set_option maxRecDepth 100000
set_option linter.unusedVariables false
set_option linter.unusedSimpArgs false
open Go Go.RowKit
set_option maxHeartbeats 4000000
set_option linter.unusedVariables false

theorem best_none {due : List Int} {l : List TTx} : ∀ {k : Nat}, bestK due l k = none → ∀ j, j < k → ¬ (l.getD j (0, 0, 0)).2.1 = due.getD (l.getD j (0, 0, 0)).1.toNat 0
  | 0, _, j, hj => by omega
  | k + 1, h, j, hj => by
    unfold bestK at h
    split at h
    · cases h
    · rename_i hc
      rcases Nat.lt_or_ge j k with h1 | h1
      · exact best_none h j h1
      · have : j = k := by omega
        subst this
        intro hd
        exact hc ⟨hd, fun b hb => by rw [h] at hb; cases hb⟩
theorem best_max {due : List Int} {l : List TTx} : ∀ {k b : Nat}, bestK due l k = some b → ∀ j, j < k → (l.getD j (0, 0, 0)).2.1 = due.getD (l.getD j (0, 0, 0)).1.toNat 0 → (l.getD j (0, 0, 0)).2.2 ≤ (l.getD b (0, 0, 0)).2.2
  | 0, b, h, j, hj, _ => by omega
  | k + 1, b, h, j, hj, hd => by
    unfold bestK at h
    split at h
    · rename_i hc
      cases h
      rcases Nat.lt_or_ge j k with h1 | h1
      · cases hb : bestK due l k with
        | none => exact absurd hd (best_none hb j h1)
        | some b' =>
          have h2 := best_max hb j h1 hd
          have h3 := hc.2 b' hb
          omega
      · have : j = k := by omega
        subst this
        exact Int.le_refl _
    · rename_i hc
      rcases Nat.lt_or_ge j k with h1 | h1
      · exact best_max h j h1 hd
      · have : j = k := by omega
        subst this
        refine Classical.byContradiction fun hn => hc ⟨hd, fun b' hb' => ?_⟩
        rw [h] at hb'
        cases hb'
        omega
theorem pickF_list (l : List TTx) (most : Int) : ∀ (n : Nat) (due : List Int) (out : List TTx), ∃ Q, pickF l most n due out = out ++ Q ∧ ∀ i (hi : i < Q.length), ∃ b, b < l.length ∧ bestK ((Q.take i).foldl nextD due) l l.length = some b ∧ Q[i] = l.getD b (0, 0, 0) := by
  intro n
  induction n with
  | zero =>
    intro due out
    refine ⟨[], ?_, fun i hi => absurd hi (by simp)⟩
    rw [List.append_nil]
    unfold pickF
    split
    · split <;> rfl
    · rfl
  | succ n ih =>
    intro due out
    by_cases hm : (out.length : Int) < most
    · cases hb : bestK due l l.length with
      | none => exact ⟨[], by rw [List.append_nil]; exact pickF_none hb, fun i hi => absurd hi (by simp)⟩
      | some b =>
        have hlt := (bestK_lt hb).1
        obtain ⟨Q, h1, h2⟩ := ih (nextD due (l.getD b (0, 0, 0))) (out ++ [l.getD b (0, 0, 0)])
        refine ⟨l.getD b (0, 0, 0) :: Q, ?_, fun i hi => ?_⟩
        · rw [pickF_next hm hlt hb, ← getD_of hlt (0, 0, 0), h1]
          simp
        · cases i with
          | zero => exact ⟨b, hlt, hb, rfl⟩
          | succ i => exact h2 i (by simpa using hi)
    · exact ⟨[], by rw [List.append_nil]; exact pickF_stop hm, fun i hi => absurd hi (by simp)⟩
def dueP (next : List Int) (P : List TTx) (i : Nat) : List Int := (P.take i).foldl nextD (dueT next 1)
def wantP (next : List Int) (P : List TTx) (i : Nat) : List Int := 0 :: (dueP next P i).tail
theorem dueP_len (next : List Int) (P : List TTx) (i : Nat) : (dueP next P i).length = 10 := by
  unfold dueP
  have key : ∀ (q : List TTx) (d : List Int), (q.foldl nextD d).length = d.length := by
    intro q
    induction q with
    | nil => intro d; rfl
    | cons x r ih => intro d; rw [List.foldl_cons, ih]; simp [nextD]
  rw [key, dueT_len]
theorem wantP_len (next : List Int) (P : List TTx) (i : Nat) : (wantP next P i).length = 10 := by
  have := dueP_len next P i
  simp [wantP, this]
theorem pool_at {l : List TTx} (h : poolOk l) {x : TTx} (hx : x ∈ l) : 1 ≤ x.1 ∧ x.1 ≤ 9 ∧ 1 ≤ x.2.1 ∧ x.2.1 ≤ 1000 ∧ 0 ≤ x.2.2 ∧ x.2.2 ≤ 1000 := by
  obtain ⟨j, hj, rfl⟩ := List.getElem_of_mem hx
  have := h.2 j hj
  unfold txAt at this
  rw [getD_of hj] at this
  exact ⟨this.1, this.2.1, this.2.2.1, this.2.2.2.1, this.2.2.2.2.1, this.2.2.2.2.2.1⟩
theorem pick_step {l : List TTx} {next : List Int} {most : Int} (hp : poolOk l) {i : Nat} (hi : i < (pickL l next most).length) :
    (pickL l next most)[i] ∈ l ∧ (wantP next (pickL l next most) i)[(pickL l next most)[i].1.toNat]? = some (pickL l next most)[i].2.1 ∧
    (∀ x ∈ l, ∀ v, (wantP next (pickL l next most) i)[x.1.toNat]? = some v → x.2.1 = v → x.2.2 ≤ (pickL l next most)[i].2.2) ∧
    (wantP next (pickL l next most) i).set (pickL l next most)[i].1.toNat ((pickL l next most)[i].2.1 + 1) = wantP next (pickL l next most) (i + 1) := by
  obtain ⟨Q, h1, h2⟩ := pickF_list l most l.length (dueT next 1) []
  have hQ : pickL l next most = Q := by unfold pickL; rw [if_pos hp, h1, List.nil_append]
  simp only [hQ] at hi ⊢
  obtain ⟨b, hb, hbest, ht⟩ := h2 i hi
  have hd10 := dueP_len next Q i
  have hdef : (Q.take i).foldl nextD (dueT next 1) = dueP next Q i := rfl
  rw [hdef] at hbest
  obtain ⟨-, hdue⟩ := bestK_lt hbest
  have hmax := best_max hbest
  rw [← ht] at hdue
  have hmem : Q[i] ∈ l := by rw [ht, getD_of hb]; exact List.getElem_mem hb
  have hr := pool_at hp hmem
  have hn1 : 1 ≤ Q[i].1.toNat := by omega
  have hn9 : Q[i].1.toNat < (dueP next Q i).length := by omega
  have hsucc : dueP next Q (i + 1) = nextD (dueP next Q i) Q[i] := by
    unfold dueP
    rw [List.take_succ_eq_append_getElem hi, List.foldl_append]
    rfl
  refine ⟨hmem, ?_, fun x hx v hv hxv => ?_, ?_⟩
  · unfold wantP
    rw [tl_get hd10 hn1, List.getElem?_eq_getElem hn9]
    rw [getD_of hn9] at hdue
    rw [← hdue]
  · have hrx := pool_at hp hx
    unfold wantP at hv
    rw [tl_get hd10 (by omega)] at hv
    obtain ⟨j, hj, rfl⟩ := List.getElem_of_mem hx
    have h3 := hmax j hj (by rw [getD_of hj, List.getD_eq_getElem?_getD, hv, hxv]; rfl)
    rw [getD_of hj, ← ht] at h3
    exact h3
  · unfold wantP
    rw [tl_set hd10 hn1, hsucc]
    unfold nextD
    rw [← hdue]
def wI (next : List Int) (k : Nat) : List Int := 0 :: (List.range 9).map fun i => if i < k then next.getD i 1 else 1
theorem wI_zero (next : List Int) : wI next 0 = [0, 1, 1, 1, 1, 1, 1, 1, 1, 1] := rfl
theorem wI_len (next : List Int) (k : Nat) : (wI next k).length = 10 := by simp [wI]
theorem wI_succ {next : List Int} {k : Nat} (h : k < next.length) (h9 : k < 9) : (wI next k).set (k + 1) next[k] = wI next (k + 1) := by
  unfold wI
  rw [List.set_cons_succ]
  congr 1
  refine List.ext_getElem (by simp) fun j h1 h2 => ?_
  simp only [List.length_set, List.length_map, List.length_range] at h1
  rw [List.getElem_set]
  simp only [List.getElem_map, List.getElem_range]
  by_cases hkj : k = j
  · subst hkj
    rw [if_pos rfl, if_pos (by omega), getD_of h]
  · rw [if_neg hkj]
    by_cases h3 : j < k
    · rw [if_pos h3, if_pos (by omega)]
    · rw [if_neg h3, if_neg (by omega)]
theorem wI_all {next : List Int} {k : Nat} (P : List TTx) (h : next.length ≤ k) : wI next k = wantP next P 0 := by
  unfold wI wantP dueP dueT
  rw [List.take_zero]
  simp only [List.foldl_nil, List.tail_cons]
  congr 1
  refine List.map_congr_left fun i _ => ?_
  by_cases hi : i < k
  · rw [if_pos hi]
  · rw [if_neg hi, List.getD_eq_getElem?_getD, List.getElem?_eq_none (by omega)]
    rfl
theorem ins_mem (t : TTx) : ∀ l : List TTx, t ∈ insTx t l
  | [] => List.mem_singleton.2 rfl
  | x :: r => by
    unfold insTx
    split
    · exact List.mem_cons_of_mem _ (ins_mem t r)
    · split <;> exact List.mem_cons_self
theorem padd_yes {l : List TTx} {t : TTx} (h : pAddB l t = true) : poolOk (pAddL l t) ∧ t ∈ pAddL l t := by
  have hL : pAddL l t = insTx t l := by unfold pAddL; rw [if_pos h]
  simp only [pAddB, Bool.and_eq_true, decide_eq_true_eq] at h
  rw [hL]
  exact ⟨h.2, ins_mem t l⟩
theorem padd_no {l : List TTx} {t : TTx} (h : pAddB l t = false) (hp : poolOk l) : pAddL l t = l := by
  unfold pAddL
  rw [h, if_neg (by simp), if_pos hp]
theorem fee_in (l : List TTx) : 0 ≤ poolFee l ∧ poolFee l ≤ 14000 := by
  unfold poolFee
  split
  · rename_i h
    have := sumPoolFee_bd h l.length (Nat.le_refl _)
    rw [List.take_length] at this
    have := h.1
    omega
  · omega
theorem left_out {l ds : List TTx} {x : TTx} (h : x ∈ poolLeft ds l) : ¬ x ∈ ds := by
  unfold poolLeft at h
  have h2 := (List.mem_filter.1 h).2
  intro hx
  have : goneB x ds = true := List.any_eq_true.2 ⟨x, hx, by simp [doneBy]⟩
  rw [this] at h2
  cases h2
theorem pool_of {l : List TTx} (h14 : l.length ≤ 14) (hr : ∀ x ∈ l, 1 ≤ x.1 ∧ x.1 ≤ 9 ∧ 1 ≤ x.2.1 ∧ x.2.1 ≤ 1000 ∧ 0 ≤ x.2.2 ∧ x.2.2 ≤ 1000) (hs : Str l) : poolOk l := by
  refine ⟨h14, fun k hk => ?_⟩
  obtain ⟨h1, h2, h3, h4, h5, h6⟩ := hr _ (List.getElem_mem hk)
  unfold txAt
  rw [getD_of hk]
  refine ⟨h1, h2, h3, h4, h5, h6, fun h0 => ?_⟩
  rw [getD_of (show k - 1 < l.length by omega)]
  exact List.pairwise_iff_getElem.1 hs (k - 1) k (by omega) hk (by omega)
theorem left_ok {l ds : List TTx} (h : poolOk l) : poolOk (poolLeft ds l) := by
  refine pool_of (by have := poolLeft_le ds l; have := h.1; omega) (fun x hx => pool_at h (List.mem_filter.1 hx).1) ?_
  exact (pool_str h).sublist List.filter_sublist
end Go.Proofs.Ytlchfjjoendimaa
