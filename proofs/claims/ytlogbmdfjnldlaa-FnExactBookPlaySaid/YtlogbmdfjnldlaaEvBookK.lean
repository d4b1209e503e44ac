/-
  A line of a book: impl's reading of it (letters first) against spec's (the sign first).
-/
import Derived.Test.YtlogbmdfjnldlaaEvBookP
namespace Go.Proofs.Ytlogbmdfjnldlaa
set_option maxRecDepth 100000
set_option linter.unusedVariables false
set_option linter.unusedSimpArgs false
open Go Go.RowKit
set_option maxHeartbeats 4000000
set_option linter.unusedVariables false

def azN (d : Nat) : Prop := 97 ≤ d ∧ d ≤ 122
instance (d : Nat) : Decidable (azN d) := by unfold azN; infer_instance
theorem letters_bl (s : ByteArray) : lettersN s = ((bl s).takeWhile fun d => decide (azN d)).length := by
  unfold lettersN bl
  rw [List.takeWhile_map, List.length_map]
  rfl
theorem lettersN_lo {s : ByteArray} {j : Nat} (h : j < lettersN s) : ∃ hj : j < (bl s).length, azN (bl s)[j] := by
  rw [letters_bl] at h
  have hp := List.takeWhile_prefix (l := bl s) fun d => decide (azN d)
  have hj : j < (bl s).length := Nat.lt_of_lt_of_le h hp.length_le
  refine ⟨hj, ?_⟩
  have h1 : ((bl s).takeWhile fun d => decide (azN d))[j] = (bl s)[j] := (List.IsPrefix.getElem hp h)
  have all : ∀ (l : List Nat), ∀ x ∈ l.takeWhile (fun d => decide (azN d)), azN x := by
    intro l
    induction l with
    | nil => intro x hx; simp at hx
    | cons y r ih =>
      intro x hx
      rw [List.takeWhile_cons] at hx
      split at hx
      · rename_i hy
        rcases List.mem_cons.1 hx with rfl | hx
        · exact of_decide_eq_true hy
        · exact ih x hx
      · cases hx
  have h2 := all _ _ (List.getElem_mem h)
  rw [h1] at h2
  exact h2
theorem lettersN_hi {s : ByteArray} (h : lettersN s < (bl s).length) : ¬ azN (bl s)[lettersN s] := by
  intro ha
  have key : ∀ (l : List Nat) (hl : (l.takeWhile fun d => decide (azN d)).length < l.length), ¬ azN l[(l.takeWhile fun d => decide (azN d)).length] := by
    intro l
    induction l with
    | nil => intro hl; simp at hl
    | cons x r ih =>
      intro hl hz
      by_cases hx : azN x
      · simp only [List.takeWhile_cons, decide_eq_true hx, if_true, List.length_cons, List.getElem_cons_succ] at hl hz
        exact ih (by omega) hz
      · simp only [List.takeWhile_cons, decide_eq_false hx, Bool.false_eq_true, if_false, List.length_nil, List.getElem_cons_zero] at hz
        exact hx hz
  have e := letters_bl s
  have h' : ((bl s).takeWhile fun d => decide (azN d)).length < (bl s).length := by rw [← e]; exact h
  have := key (bl s) h'
  simp only [← e] at this
  exact this ha
theorem sg_az {d : Nat} (h : azN d) : isSg d = false := by
  unfold azN at h
  simp only [isSg, Bool.or_eq_false_iff, decide_eq_false_iff_not]
  omega
/-- where impl finds a sign, spec finds it, too -/
theorem link_yes {line : ByteArray} (h : lettersN line < (bl line).length) (hs : isSg (bl line)[lettersN line] = true) :
    keyZ line = line.extract 0 (lettersN line) ∧ sigZ line = (bl line)[lettersN line] ∧ resZ line = line.extract (lettersN line + 1) line.size := by
  have hi : byI isSg line = lettersN line := byI_at h (fun j hj => by
    obtain ⟨hj2, ha⟩ := lettersN_lo hj
    exact sg_az ha) hs
  unfold keyZ sigZ resZ cutZ
  rw [dif_pos (by rw [hi]; exact h)]
  simp only [hi]
  exact ⟨trivial, trivial, trivial⟩
/-- where impl finds none, what spec finds is no good key -/
theorem link_no {line : ByteArray} (hs : ∀ h : lettersN line < (bl line).length, isSg (bl line)[lettersN line] = false) : sigZ line = 0 ∨ ¬ keyOk (keyZ line) := by
  unfold sigZ keyZ cutZ
  by_cases hb : byI isSg line < (bl line).length
  · right
    rw [dif_pos hb]
    dsimp only
    have hsg : isSg (bl line)[byI isSg line] = true := List.findIdx_getElem (w := hb)
    have hk : lettersN line < byI isSg line := by
      rcases Nat.lt_trichotomy (lettersN line) (byI isSg line) with h | h | h
      · exact h
      · exfalso
        have := hs (by rw [h]; exact hb)
        simp only [h] at this
        rw [hsg] at this
        cases this
      · exfalso
        obtain ⟨hj, ha⟩ := lettersN_lo h
        rw [sg_az ha] at hsg
        cases hsg
    have hlen : lettersN line < (bl line).length := Nat.lt_trans hk hb
    have hna := lettersN_hi hlen
    intro hko
    apply hna
    obtain ⟨b, hb1, hb2⟩ := bl_at hlen
    have hmem : b ∈ (line.extract 0 (byI isSg line)).data.toList := by
      rw [ByteArray.data_extract, Array.toList_extract]
      refine List.mem_of_getElem? (i := lettersN line) ?_
      simp only [List.extract_eq_take_drop, Nat.sub_zero, List.drop_zero, List.getElem?_take]
      rw [if_pos hk]
      exact hb1
    have := hko.2.2 b hmem
    rw [← hb2]
    exact this
  · left
    rw [dif_neg hb]
end Go.Proofs.Ytlogbmdfjnldlaa
