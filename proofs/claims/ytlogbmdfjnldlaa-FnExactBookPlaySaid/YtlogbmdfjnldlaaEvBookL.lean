/-
  The blank of a transfer: impl's reading against spec's.
-/
import Derived.Test.YtlogbmdfjnldlaaEvBookK
namespace Go.Proofs.Ytlogbmdfjnldlaa
set_option maxRecDepth 100000
set_option linter.unusedVariables false
set_option linter.unusedSimpArgs false
open Go Go.RowKit
set_option maxHeartbeats 4000000
set_option linter.unusedVariables false

theorem sp_az {d : Nat} (h : azN d) : isSp d = false := by
  unfold azN at h
  simp only [isSp, decide_eq_false_iff_not]
  omega
/-- where impl finds a blank behind the letters, spec finds it, too -/
theorem blank_yes {s : ByteArray} (h : lettersN s < (bl s).length) (hs : (bl s)[lettersN s] = 32) : byI isSp s = lettersN s :=
  byI_at h (fun j hj => by
    obtain ⟨hj2, ha⟩ := lettersN_lo hj
    exact sp_az ha) (by simp [isSp, hs])
/-- where it finds none, spec's word is no key -/
theorem blank_no {s : ByteArray} (hs : ∀ h : lettersN s < (bl s).length, ¬ (bl s)[lettersN s] = 32) : byI isSp s = s.size ∨ ¬ keyOk (s.extract 0 (byI isSp s)) := by
  by_cases hb : byI isSp s < (bl s).length
  · right
    have hsg : isSp (bl s)[byI isSp s] = true := List.findIdx_getElem (w := hb)
    have hk : lettersN s < byI isSp s := by
      rcases Nat.lt_trichotomy (lettersN s) (byI isSp s) with h | h | h
      · exact h
      · exfalso
        have := hs (by rw [h]; exact hb)
        simp only [h] at this
        exact this (by simpa [isSp] using hsg)
      · exfalso
        obtain ⟨hj, ha⟩ := lettersN_lo h
        rw [sp_az ha] at hsg
        cases hsg
    have hlen : lettersN s < (bl s).length := Nat.lt_trans hk hb
    have hna := lettersN_hi hlen
    intro hko
    apply hna
    obtain ⟨b, hb1, hb2⟩ := bl_at hlen
    have hmem : b ∈ (s.extract 0 (byI isSp s)).data.toList := by
      rw [ByteArray.data_extract, Array.toList_extract]
      refine List.mem_of_getElem? (i := lettersN s) ?_
      simp only [List.extract_eq_take_drop, Nat.sub_zero, List.drop_zero, List.getElem?_take]
      rw [if_pos hk]
      exact hb1
    have := hko.2.2 b hmem
    rw [← hb2]
    exact this
  · left
    have h1 := byI_le isSp s
    have h2 := bl_len s
    omega
theorem goodZ_no {l : List TItem} {line : ByteArray} (h : sigZ line = 0 ∨ ¬ keyOk (keyZ line)) : ¬ goodZ l line := fun g => by
  rcases h with h | h
  · exact g.2.1 h
  · exact h g.2.2.2.1
end Go.Proofs.Ytlogbmdfjnldlaa
