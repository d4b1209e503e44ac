/-
  What the rounds of FnSnap leave; no program here.
-/
import Derived.Test.YteaohgacgcjkjaaDoorEvSnapC
import Derived.Test.YteaohgacgcjkjaaDoorEvTPath
namespace Go.Proofs.YteaohgacgcjkjaaDoor
set_option maxRecDepth 100000
set_option linter.unusedVariables false
set_option linter.unusedSimpArgs false
open Go Go.RowKit
set_option maxHeartbeats 4000000

/-- the path of a leaf leads to the root -/
theorem pr_path (n : Nat) : ∀ (i : Nat) (l : List ByteArray), l.length = n → i < n → n ≤ 64 → pr (leafH (l.getD i ByteArray.empty)) i n (pathL i l) = (root l, true) := by
  induction n using Nat.strongRecOn with
  | _ n ih =>
    intro i l hl hi h64
    by_cases h1 : n = 1
    · subst h1
      have e : i = 0 := by omega
      subst e
      rw [pathL_one (by omega), pr_one, root_one (by omega)]
      rfl
    · obtain ⟨s1, s2⟩ := spl_lt (n := n) (by omega) h64
      have hr : root l = nodeH (root (l.take (spl n))) (root (l.drop (spl n))) := by
        have := root_two (l := l) (by omega) (by omega)
        rwa [hl] at this
      by_cases hk : i < spl n
      · have hp : pathL i l = pathL i (l.take (spl n)) ++ [root (l.drop (spl n))] := by
          have := pathL_lo (i := i) (l := l) (by omega) (by omega) (by rw [hl]; exact hk)
          rwa [hl] at this
        have i1 := ih (spl n) s2 i (l.take (spl n)) (by rw [List.length_take]; omega) hk (by omega)
        have hg0 : (l.take (spl n)).getD i ByteArray.empty = l.getD i ByteArray.empty := by
          rw [List.getD_eq_getElem?_getD, List.getD_eq_getElem?_getD, List.getElem?_take, if_pos hk]
        rw [hg0] at i1
        rw [hp]
        have hlen : (pathL i (l.take (spl n)) ++ [root (l.drop (spl n))]).length - 1 = (pathL i (l.take (spl n))).length := by simp
        rw [pr_lo (by omega) h64 (by simp) hk, hlen, List.take_left, i1, hr]
        have hg : (pathL i (l.take (spl n)) ++ [root (l.drop (spl n))]).getD (pathL i (l.take (spl n))).length ByteArray.empty = root (l.drop (spl n)) := by
          rw [List.getD_eq_getElem?_getD, List.getElem?_append_right (Nat.le_refl _)]
          simp
        rw [hg]
      · have hp : pathL i l = pathL (i - spl n) (l.drop (spl n)) ++ [root (l.take (spl n))] := by
          have := pathL_hi (i := i) (l := l) (by omega) (by omega) (by rw [hl]; exact hk)
          rwa [hl] at this
        have i1 := ih (n - spl n) (by omega) (i - spl n) (l.drop (spl n)) (by rw [List.length_drop]; omega) (by omega) (by omega)
        have hg0 : (l.drop (spl n)).getD (i - spl n) ByteArray.empty = l.getD i ByteArray.empty := by
          rw [List.getD_eq_getElem?_getD, List.getD_eq_getElem?_getD, List.getElem?_drop]
          congr 2
          omega
        rw [hg0] at i1
        rw [hp]
        have hlen : (pathL (i - spl n) (l.drop (spl n)) ++ [root (l.take (spl n))]).length - 1 = (pathL (i - spl n) (l.drop (spl n))).length := by simp
        rw [pr_hi (by omega) h64 (by simp) hk, hlen, List.take_left, i1, hr]
        have hg : (pathL (i - spl n) (l.drop (spl n)) ++ [root (l.take (spl n))]).getD (pathL (i - spl n) (l.drop (spl n))).length ByteArray.empty = root (l.take (spl n)) := by
          rw [List.getD_eq_getElem?_getD, List.getElem?_append_right (Nat.le_refl _)]
          simp
        rw [hg]
theorem incl_path {l : List ByteArray} {i : Nat} (hi : i < l.length) (h40 : l.length ≤ 40) : inclB (tree l) (l.getD i ByteArray.empty) i l.length (pathL i l) = true := by
  unfold inclB
  rw [pathRoot_yes ⟨hi, h40⟩, pr_path l.length i l rfl hi (by omega), tree_root (by omega) h40]
  simp [fixP2]
theorem path_sz (n : Nat) : ∀ (i : Nat) (l : List ByteArray), l.length = n → ∀ x ∈ pathL i l, x.size ≤ 32 := by
  induction n using Nat.strongRecOn with
  | _ n ih =>
    intro i l hl x hx
    by_cases hn : l.length ≤ 1 ∨ 64 < l.length
    · rw [pathL, dif_pos hn] at hx; simp at hx
    · have hs := spl_lt (n := l.length) (by omega) (by omega)
      by_cases hk : i < spl l.length
      · rw [pathL_lo (by omega) (by omega) hk] at hx
        rcases List.mem_append.1 hx with h | h
        · exact ih (spl l.length) (by omega) i (l.take (spl l.length)) (by rw [List.length_take]; omega) x h
        · rw [List.mem_singleton.1 h, root_size]; omega
      · rw [pathL_hi (by omega) (by omega) hk] at hx
        rcases List.mem_append.1 hx with h | h
        · exact ih (l.length - spl l.length) (by omega) (i - spl l.length) (l.drop (spl l.length)) (by rw [List.length_drop]) x h
        · rw [List.mem_singleton.1 h, root_size]; omega
theorem path_okT {l : List ByteArray} (i : Nat) (h40 : l.length ≤ 64) : okT (pathL i l) := by
  refine ⟨?_, fun x hx => ?_⟩
  · have := pathL_len _ i l rfl; omega
  · have := path_sz _ i l rfl x hx; omega

/-- what the first pieces make up -/
theorem catK_pcs (s : ByteArray) (n : Nat) : ∀ k, k ≤ n → catK (pcs s n) k = s.extract 0 (min (10 * k) s.size)
  | 0, _ => by
    apply ba_inj
    rw [catK_zero]
    simp [emp]
  | k + 1, hk => by
    rw [catK_succ (by rw [pcs_len]; omega), catK_pcs s n k (by omega), pcs_at s (by omega)]
    by_cases h : 10 * k ≤ s.size
    · rw [Nat.min_eq_left h, ByteArray.extract_append_extract]
      congr 1 <;> omega
    · rw [Nat.min_eq_right (show s.size ≤ 10 * k by omega), Nat.min_eq_right (show s.size ≤ 10 * (k + 1) by omega), Nat.min_eq_right (show s.size ≤ 10 * k + 10 by omega)]
      have e : s.extract (10 * k) s.size = ByteArray.empty := ByteArray.extract_eq_empty_iff.2 (by omega)
      rw [e, ByteArray.append_empty]
theorem catK_cut (s : ByteArray) : catK (cutS s) (cutS s).length = s := by
  rw [cutS_len]
  unfold cutS
  rw [catK_pcs s _ _ (Nat.le_refl _), Nat.min_eq_right (by omega)]
  exact ByteArray.extract_zero_size

/-- k rounds are left -/
structure SnI (l : List ByteArray) (a k : Nat) (x : TSnap) : Prop where
  root : x.1 = tree l
  count : x.2.1 = l.length
  len1 : x.2.2.1.length = l.length
  len2 : x.2.2.2.length = l.length
  no : ∀ i, i < l.length → x.2.2.2.getD i true = false → x.2.2.1.getD i ByteArray.empty = ByteArray.empty
  yes : ∀ i, i < l.length → x.2.2.2.getD i true = true → x.2.2.1.getD i ByteArray.empty = l.getD i ByteArray.empty
  left : ∀ j, j < k → x.2.2.2.getD ((j + a) % l.length) true = false
  most : k ≤ l.length
  need : (needK x.2.2.2 l.length).length = k
theorem SnI.ok {l : List ByteArray} {a k : Nat} {x : TSnap} (h : SnI l a k x) (h1 : 1 ≤ l.length) (h40 : l.length ≤ 40) : sOk x := by
  refine ⟨?_, ?_, ?_, ?_, fun i hi hg => ?_⟩
  · rw [h.root, tree_root h1 h40, root_size]
  · rw [h.count]; omega
  · rw [h.count, h.len1]
  · rw [h.count, h.len2]
  · exact h.no i (by have := h.len2; omega) hg
theorem needK_false (n : Nat) : ∀ k, k ≤ n → (needK (List.replicate n false) k).length = k
  | 0, _ => rfl
  | k + 1, hk => by
    rw [needK_yes (by simp; omega) (by simp), List.length_append, needK_false n k (by omega)]
    rfl
theorem SnI.start {l : List ByteArray} {a : Nat} : SnI l a l.length (snew (tree l) l.length) where
  root := rfl
  count := rfl
  len1 := by simp
  len2 := by simp
  no := fun i hi _ => by
    show (List.replicate l.length ByteArray.empty).getD i ByteArray.empty = _
    simp [List.getD_eq_getElem?_getD, hi]
  yes := fun i hi h => by
    have h : (List.replicate l.length false).getD i true = true := h
    simp [List.getD_eq_getElem?_getD, hi] at h
  left := fun j hj => by
    show (List.replicate l.length false).getD _ true = false
    have : (j + a) % l.length < l.length := Nat.mod_lt _ (by omega)
    simp [List.getD_eq_getElem?_getD, this]
  most := Nat.le_refl _
  need := needK_false _ _ (Nat.le_refl _)
theorem needK_set (g : List Bool) (i : Nat) (hi : i < g.length) (hg : g.getD i true = false) : ∀ k, k ≤ g.length → (needK (g.set i true) k).length + (if i < k then 1 else 0) = (needK g k).length
  | 0, _ => rfl
  | k + 1, hk => by
    have ih := needK_set g i hi hg k (by omega)
    by_cases e : k = i
    · subst e
      rw [if_neg (by omega)] at ih
      rw [if_pos (by omega), needK_no (by simp; omega) (by simp)]
      have hgk : g[k] = false := by
        rw [List.getD_eq_getElem?_getD, List.getElem?_eq_getElem hi] at hg
        exact hg
      rw [needK_yes (by omega) hgk, List.length_append]
      simpa using ih
    · have hs : (g.set i true)[k]'(by simp; omega) = g[k] := by
        rw [List.getElem_set]
        rw [if_neg (fun e' => e e'.symm)]
      have hif : (if i < k + 1 then 1 else 0) = (if i < k then 1 else 0) := by
        by_cases h : i < k
        · rw [if_pos h, if_pos (by omega)]
        · rw [if_neg h, if_neg (by omega)]
      rw [hif]
      cases hgk : g[k] with
      | true => rw [needK_no (by simp; omega) (by rw [hs, hgk]), needK_no (by omega) hgk]; exact ih
      | false =>
        rw [needK_yes (by simp; omega) (by rw [hs, hgk]), needK_yes (by omega) hgk, List.length_append, List.length_append]
        simp only [List.length_cons, List.length_nil]
        omega
theorem getD_set {α : Type} (l : List α) (i j : Nat) (x d : α) (hi : i < l.length) : (l.set i x).getD j d = if i = j then x else l.getD j d := by
  rw [List.getD_eq_getElem?_getD, List.getD_eq_getElem?_getD, List.getElem?_set]
  by_cases h : i = j
  · subst h; simp [hi]
  · simp [h]
/-- a round -/
theorem SnI.step {l : List ByteArray} {a k : Nat} {x : TSnap} (h : SnI l a (k + 1) x) (h1 : 1 ≤ l.length) (h40 : l.length ≤ 40) :
    putOk x (((k + a) % l.length : Nat) : Int) (l.getD ((k + a) % l.length) ByteArray.empty) (pathL ((k + a) % l.length) l) ∧
    SnI l a k (putS x (((k + a) % l.length : Nat) : Int) (l.getD ((k + a) % l.length) ByteArray.empty) (pathL ((k + a) % l.length) l)) ∧
    ¬ putOk (putS x (((k + a) % l.length : Nat) : Int) (l.getD ((k + a) % l.length) ByteArray.empty) (pathL ((k + a) % l.length) l)) (((k + a) % l.length : Nat) : Int) (l.getD ((k + a) % l.length) ByteArray.empty) (pathL ((k + a) % l.length) l) := by
  have hm := h.most
  have hi : (k + a) % l.length < l.length := Nat.mod_lt _ (by omega)
  have hl := h.left k (by omega)
  have hne : ∀ j, j < k → (k + a) % l.length ≠ (j + a) % l.length := fun j hj e => by
    have h2 := Nat.sub_mod_eq_zero_of_mod_eq e
    rw [show k + a - (j + a) = k - j by omega, Nat.mod_eq_of_lt (by omega)] at h2
    omega
  generalize (k + a) % l.length = i at *
  have hp : putOk x (i : Int) (l.getD i ByteArray.empty) (pathL i l) := by
    refine ⟨h.ok h1 h40, ⟨by omega, by rw [h.count]; omega⟩, by rw [Int.toNat_natCast]; exact hl, ?_⟩
    rw [h.root, h.count]
    exact incl_path hi h40
  have hv := putS_yes hp
  rw [Int.toNat_natCast] at hv
  refine ⟨hp, ?_, ?_⟩
  · rw [hv]
    have l1 := h.len1
    have l2 := h.len2
    refine ⟨h.root, h.count, by simpa using l1, by simpa using l2, fun j hj hg => ?_, fun j hj hg => ?_, fun j hj => ?_, by omega, ?_⟩
    · dsimp only at hg ⊢
      rw [getD_set _ _ _ _ _ (by omega)] at hg ⊢
      by_cases e : i = j
      · rw [if_pos e] at hg; cases hg
      · rw [if_neg e] at hg ⊢; exact h.no j hj hg
    · dsimp only at hg ⊢
      rw [getD_set _ _ _ _ _ (by omega)] at hg ⊢
      by_cases e : i = j
      · rw [if_pos e, e]
      · rw [if_neg e] at hg ⊢; exact h.yes j hj hg
    · dsimp only
      rw [getD_set _ _ _ _ _ (by omega), if_neg (hne j hj)]
      exact h.left j (by omega)
    · dsimp only
      have h3 := needK_set x.2.2.2 i (by omega) hl l.length (by omega)
      rw [if_pos hi, h.need] at h3
      omega
  · rw [hv]
    intro hc
    have := hc.2.2.1
    dsimp only at this
    rw [Int.toNat_natCast, getD_set _ _ _ _ _ (by have := h.len2; omega), if_pos rfl] at this
    cases this
/-- a false piece is not taken -/
theorem put_bad {x : TSnap} {i : Int} {b : ByteArray} {p : List ByteArray} (h : inclB x.1 b i x.2.1 p = false) (hs : sOk x) : putS x i b p = x ∧ ¬ putOk x i b p := by
  have hn : ¬ putOk x i b p := fun hp => by
    have := hp.2.2.2
    rw [h] at this
    cases this
  exact ⟨putS_same hn hs, hn⟩
theorem needK_all {g : List Bool} (h : (needK g g.length).length = 0) : ∀ i, i < g.length → g.getD i true = true := fun i hi => by
  cases hg : g[i] with
  | true => rw [List.getD_eq_getElem?_getD, List.getElem?_eq_getElem hi]; exact hg
  | false => exact absurd (List.length_eq_zero_iff.1 h) (needK_mono hi hg _ hi)
/-- all pieces are there -/
theorem SnI.done {s : ByteArray} {a : Nat} {x : TSnap} (h : SnI (cutS s) a 0 x) (h1 : 1 ≤ (cutS s).length) (h40 : (cutS s).length ≤ 40) : doneS x = s ∧ doneB x = true := by
  have hs := h.ok h1 h40
  have hn : needK x.2.2.2 x.2.2.2.length = [] := by
    have := h.need
    rw [← h.len2] at this
    exact List.length_eq_zero_iff.1 this
  have hall := needK_all (g := x.2.2.2) (by rw [hn]; rfl)
  have he : x.2.2.1 = cutS s := by
    refine List.ext_getElem h.len1 fun i h2 h3 => ?_
    have := h.yes i h3 (hall i (by have := h.len2; omega))
    rwa [List.getD_eq_getElem?_getD, List.getElem?_eq_getElem h2, List.getD_eq_getElem?_getD, List.getElem?_eq_getElem h3] at this
  refine ⟨?_, decide_eq_true ⟨hs, hn⟩⟩
  unfold doneS
  rw [if_pos ⟨hs, hn⟩, he]
  exact catK_cut s
theorem sOk_put {x : TSnap} (i : Int) (b : ByteArray) (p : List ByteArray) (hs : sOk x) : sOk (putS x i b p) := by
  by_cases h : putOk x i b p
  · rw [putS_yes h]
    obtain ⟨h1, h2, h3, h4, h5⟩ := hs
    refine ⟨h1, h2, by simpa using h3, by simpa using h4, fun k hk hg => ?_⟩
    have hk' : k < x.2.2.2.length := by simpa using hk
    have h0 := h.2.1
    have ei : i.toNat < x.2.2.2.length := by omega
    have ei2 : i.toNat < x.2.2.1.length := by omega
    rw [getD_set _ _ _ _ _ ei] at hg
    rw [getD_set _ _ _ _ _ ei2]
    by_cases e : i.toNat = k
    · rw [if_pos e] at hg; cases hg
    · rw [if_neg e] at hg ⊢
      exact h5 k hk' hg
  · rw [putS_same h hs]; exact hs
end Go.Proofs.YteaohgacgcjkjaaDoor
