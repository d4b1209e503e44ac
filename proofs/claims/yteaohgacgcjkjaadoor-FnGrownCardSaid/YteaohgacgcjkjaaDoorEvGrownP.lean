/-
  The parts of a tree make up both its roots.
-/
import Derived.Test.YteaohgacgcjkjaaDoorEvOldPath
import Derived.Test.YteaohgacgcjkjaaDoorEvOld
namespace Go.Proofs.YteaohgacgcjkjaaDoor
set_option maxRecDepth 100000
set_option linter.unusedVariables false
set_option linter.unusedSimpArgs false
open Go Go.RowKit
set_option maxHeartbeats 4000000

theorem spl_same {m n : Nat} (h : spl n < m) (h1 : m ≤ n) (h2 : n ≤ 64) : spl m = spl n := by
  have a := spl_cases h2
  have b := spl_cases (n := m) (by omega)
  omega
/-- the parts of a tree make up both its roots -/
theorem up_parts (n : Nat) : ∀ (m : Nat) (l : List ByteArray), l.length = n → 1 ≤ m → m ≤ n → n ≤ 64 → up m n (parts m l) = (root (l.take m), root l, true) ∧ 1 ≤ (parts m l).length := by
  induction n using Nat.strongRecOn with
  | _ n ih =>
    intro m l hl h1 h2 h64
    by_cases hm : m = n
    · subst hm
      have hp : parts m l = [root l] := parts_eq hl.symm
      rw [hp]
      refine ⟨?_, by simp⟩
      rw [up_eq (by simp), List.take_of_length_le (by omega)]
      simp
    · have hn2 : 2 ≤ n := by omega
      obtain ⟨s1, s2⟩ := spl_lt hn2 h64
      have hr : root l = nodeH (root (l.take (spl n))) (root (l.drop (spl n))) := by
        have := root_two (l := l) (by omega) (by omega)
        rwa [hl] at this
      by_cases hk : m ≤ spl n
      · have hp : parts m l = parts m (l.take (spl n)) ++ [root (l.drop (spl n))] := by
          have := parts_lo (m := m) (l := l) (by omega) (by omega) (by omega) (by rw [hl]; exact hk)
          rwa [hl] at this
        obtain ⟨i1, i2⟩ := ih (spl n) s2 m (l.take (spl n)) (by rw [List.length_take]; omega) h1 hk (by omega)
        rw [hp]
        refine ⟨?_, by simp⟩
        have hlen : (parts m (l.take (spl n)) ++ [root (l.drop (spl n))]).length - 1 = (parts m (l.take (spl n))).length := by simp
        rw [up_lo (by simp) hm hn2 h64 hk, hlen, List.take_left, i1]
        have hg : (parts m (l.take (spl n)) ++ [root (l.drop (spl n))]).getD (parts m (l.take (spl n))).length ByteArray.empty = root (l.drop (spl n)) := by
          rw [List.getD_eq_getElem?_getD, List.getElem?_append_right (Nat.le_refl _)]
          simp
        rw [hg, hr, List.take_take, Nat.min_eq_left hk]
      · have hp : parts m l = [root (l.take (spl n))] ++ parts (m - spl n) (l.drop (spl n)) := by
          have := parts_hi (m := m) (l := l) (by omega) (by omega) (by omega) (by rw [hl]; exact hk)
          rwa [hl] at this
        obtain ⟨i1, i2⟩ := ih (n - spl n) (by omega) (m - spl n) (l.drop (spl n)) (by rw [List.length_drop]; omega) (by omega) (by omega) (by omega)
        rw [hp]
        refine ⟨?_, by simp⟩
        rw [up_hi (by simp) hm hn2 h64 hk]
        have hd : ([root (l.take (spl n))] ++ parts (m - spl n) (l.drop (spl n))).drop 1 = parts (m - spl n) (l.drop (spl n)) := by simp
        have hg : ([root (l.take (spl n))] ++ parts (m - spl n) (l.drop (spl n))).getD 0 ByteArray.empty = root (l.take (spl n)) := by simp
        rw [hd, hg, i1, hr]
        have hm2 : 2 ≤ m := by omega
        have hrm := root_two (l := l.take m) (by rw [List.length_take]; omega) (by rw [List.length_take]; omega)
        have hlm : (l.take m).length = m := by rw [List.length_take]; omega
        rw [hlm, spl_same (by omega) h2 h64] at hrm
        rw [List.take_take, Nat.min_eq_left (by omega), List.drop_take] at hrm
        rw [hrm]
end Go.Proofs.YteaohgacgcjkjaaDoor
