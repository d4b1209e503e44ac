/-
  Put together: EvBookL EvBookM.
-/
import Derived.Test.YtimnogjgokljbaaDoorG19
section
/-!
  The blank of a transfer: impl's reading against spec's.
-/
namespace Go.Proofs.YtimnogjgokljbaaDoor
set_option maxRecDepth 100000
set_option linter.unusedVariables false
set_option linter.unusedSimpArgs false
open Go Go.RowKit
set_option maxHeartbeats 4000000
set_option linter.unusedVariables false

theorem sp_az {d : Nat} (h : azN d) : isSp d = false := by
  unfold azN at h
  simp only [isSp, decide_eq_false_iff_not]
  omega
/-- where impl finds a blank behind the letters, spec finds it, too -/
theorem blank_yes {s : ByteArray} (h : lettersN s < (bl s).length) (hs : (bl s)[lettersN s] = 32) : byI isSp s = lettersN s :=
  byI_at h (fun j hj => by
    obtain ⟨hj2, ha⟩ := lettersN_lo hj
    exact sp_az ha) (by simp [isSp, hs])
/-- where it finds none, spec's word is no key -/
theorem blank_no {s : ByteArray} (hs : ∀ h : lettersN s < (bl s).length, ¬ (bl s)[lettersN s] = 32) : byI isSp s = s.size ∨ ¬ keyOk (s.extract 0 (byI isSp s)) := by
  by_cases hb : byI isSp s < (bl s).length
  · right
    have hsg : isSp (bl s)[byI isSp s] = true := List.findIdx_getElem (w := hb)
    have hk : lettersN s < byI isSp s := by
      rcases Nat.lt_trichotomy (lettersN s) (byI isSp s) with h | h | h
      · exact h
      · exfalso
        have := hs (by rw [h]; exact hb)
        simp only [h] at this
        exact this (by simpa [isSp] using hsg)
      · exfalso
        obtain ⟨hj, ha⟩ := lettersN_lo h
        rw [sp_az ha] at hsg
        cases hsg
    have hlen : lettersN s < (bl s).length := Nat.lt_trans hk hb
    have hna := lettersN_hi hlen
    intro hko
    apply hna
    obtain ⟨b, hb1, hb2⟩ := bl_at hlen
    have hmem : b ∈ (s.extract 0 (byI isSp s)).data.toList := by
      rw [ByteArray.data_extract, Array.toList_extract]
      refine List.mem_of_getElem? (i := lettersN s) ?_
      simp only [List.extract_eq_take_drop, Nat.sub_zero, List.drop_zero, List.getElem?_take]
      rw [if_pos hk]
      exact hb1
    have := hko.2.2 b hmem
    rw [← hb2]
    exact this
  · left
    have h1 := byI_le isSp s
    have h2 := bl_len s
    omega
theorem goodZ_no {l : List TItem} {line : ByteArray} (h : sigZ line = 0 ∨ ¬ keyOk (keyZ line)) : ¬ goodZ l line := fun g => by
  rcases h with h | h
  · exact g.2.1 h
  · exact h g.2.2.2.1
end Go.Proofs.YtimnogjgokljbaaDoor

end
section
/-!
  bookDo and BookDo of impl, where booked is known.
-/
namespace Go.Proofs.YtimnogjgokljbaaDoor
set_option maxRecDepth 100000
set_option linter.unusedVariables false
set_option linter.unusedSimpArgs false
open Go Go.RowKit
set_option maxHeartbeats 8000000
set_option linter.unusedVariables false

def okLn (line : ByteArray) : Prop := (∃ h : lettersN line < (bl line).length, isSg (bl line)[lettersN line] = true) ∧ keyOk (line.extract 0 (lettersN line))
def okTo (r : ByteArray) : Prop := (∃ h : lettersN r < (bl r).length, (bl r)[lettersN r] = 32) ∧ keyOk (r.extract 0 (lettersN r))
noncomputable def okAmt (s : ByteArray) : Bool := (readZ s).2 && decide ((readZ s).1 ≤ 1000000)
open Classical in
noncomputable def bdo (l : List TItem) (line : ByteArray) : Option (List TItem) × Bool :=
  if okLn line then
    if sigZ line = 61 then (some (setI (keyZ line) (amtZ line) l), okAmt (numZ line))
    else if sigZ line = 43 then (some (setI (keyZ line) (balI (keyZ line) l + amtZ line) l), okAmt (numZ line))
    else if okTo (resZ line) ∧ okAmt (numZ line) = true ∧ amtZ line ≤ balI (keyZ line) l then (some (outZ l line), true) else (none, false)
  else (none, false)
abbrev rOpt (x : Option (List TItem) × Bool) : Res := match x.1 with
  | some o => rTL 36 2 cItem o [rSc (.bool x.2)]
  | none => rTN [rSc (.bool x.2)]
theorem bdo_len (l : List TItem) (line : ByteArray) (o : List TItem) (h : (bdo l line).1 = some o) : o.length ≤ l.length + 2 := by
  have key : ∀ k n, (setI k n l).length ≤ l.length + 2 := fun k n => by have := setI_len k n l; omega
  unfold bdo at h
  split at h
  · split at h
    · cases h; exact key _ _
    · split at h
      · cases h; exact key _ _
      · split at h
        · cases h
          unfold outZ
          rw [if_neg (by assumption), if_neg (by assumption)]
          have h1 := setI_len (toZ line) (balI (toZ line) (setI (keyZ line) (balI (keyZ line) l - amtZ line) l) + amtZ line) (setI (keyZ line) (balI (keyZ line) l - amtZ line) l)
          have h2 := setI_len (keyZ line) (balI (keyZ line) l - amtZ line) l
          omega
        · cases h
  · cases h
/-- the two programs agree on what is good -/
theorem bdo_good {l : List TItem} {line : ByteArray} : (bdo l line).2 = true ↔ goodZ l line := by
  unfold bdo
  by_cases hl : okLn line
  · rw [if_pos hl]
    obtain ⟨⟨h1, h2⟩, h3⟩ := hl
    obtain ⟨k1, k2, k3⟩ := link_yes h1 h2
    rw [← k1] at h3
    have hs : sigZ line = 61 ∨ sigZ line = 43 ∨ sigZ line = 62 := by
      rw [k2]
      simp only [isSg, Bool.or_eq_true, decide_eq_true_eq] at h2
      omega
    unfold goodZ
    have hA : okAmt (numZ line) = true ↔ (readZ (numZ line)).2 = true ∧ amtZ line ≤ 1000000 := by
      unfold okAmt amtZ
      simp
    rcases hs with hs | hs | hs
    · rw [if_pos hs]
      dsimp only
      rw [hA]
      constructor
      · rintro ⟨a, b⟩
        exact ⟨fun h => by omega, by omega, a, h3, fun h => by omega, b⟩
      · rintro ⟨_, _, a, _, _, b⟩
        exact ⟨a, b⟩
    · rw [if_neg (by omega), if_pos hs]
      dsimp only
      rw [hA]
      constructor
      · rintro ⟨a, b⟩
        exact ⟨fun h => by omega, by omega, a, h3, fun h => by omega, b⟩
      · rintro ⟨_, _, a, _, _, b⟩
        exact ⟨a, b⟩
    · rw [if_neg (by omega), if_neg (by omega)]
      have hrl := bl_len (resZ line)
      have hT : okTo (resZ line) ↔ ¬ blaZ line = (resZ line).size ∧ keyOk (toZ line) := by
        have ht : toZ line = (resZ line).extract 0 (blaZ line) := by unfold toZ; rw [if_pos hs]
        constructor
        · rintro ⟨⟨a, b⟩, c⟩
          have hb : blaZ line = lettersN (resZ line) := blank_yes a b
          rw [ht, hb]
          exact ⟨by omega, c⟩
        · rintro ⟨a, b⟩
          refine Classical.byContradiction fun hno => ?_
          by_cases hx : ∃ h : lettersN (resZ line) < (bl (resZ line)).length, (bl (resZ line))[lettersN (resZ line)] = 32
          · obtain ⟨x1, x2⟩ := hx
            have hb : blaZ line = lettersN (resZ line) := blank_yes x1 x2
            rw [ht, hb] at b
            exact hno ⟨⟨x1, x2⟩, b⟩
          · rcases blank_no (s := resZ line) (fun h e => hx ⟨h, e⟩) with h | h
            · exact a h
            · rw [ht] at b
              exact h b
      split
      · rename_i h
        obtain ⟨a, b, c⟩ := h
        rw [hT] at a
        rw [hA] at b
        simp only [true_iff]
        exact ⟨fun h => a.1 h.2, by omega, b.1, h3, fun _ => ⟨a.2, c⟩, b.2⟩
      · rename_i h
        simp only [Bool.false_eq_true, false_iff]
        rintro ⟨a, _, b, _, c, d⟩
        exact h ⟨hT.2 ⟨fun e => a ⟨hs, e⟩, (c hs).1⟩, hA.2 ⟨b, d⟩, (c hs).2⟩
  · rw [if_neg hl]
    simp only [Bool.false_eq_true, false_iff]
    by_cases hk : ∃ h : lettersN line < (bl line).length, isSg (bl line)[lettersN line] = true
    · obtain ⟨h1, h2⟩ := hk
      obtain ⟨k1, k2, k3⟩ := link_yes h1 h2
      refine goodZ_no (.inr fun h => hl ⟨⟨h1, h2⟩, ?_⟩)
      rw [← k1]
      exact h
    · exact goodZ_no (link_no fun h => by
        cases hs : isSg (bl line)[lettersN line] with
        | false => rfl
        | true => exact absurd ⟨h, hs⟩ hk)
theorem bdo_out {l : List TItem} {line : ByteArray} (h : (bdo l line).2 = true) : (bdo l line).1 = some (outZ l line) := by
  unfold bdo at h ⊢
  split
  · rename_i hl
    rw [if_pos hl] at h
    split
    · rename_i h1
      unfold outZ
      rw [if_pos h1]
    · rename_i h1
      rw [if_neg h1] at h
      split
      · rename_i h2
        unfold outZ
        rw [if_neg h1, if_pos h2]
      · rename_i h2
        rw [if_neg h2] at h
        split
        · rfl
        · rename_i h3
          rw [if_neg h3] at h
          cases h
  · rename_i hl
    rw [if_neg hl] at h
    cases h
end Go.Proofs.YtimnogjgokljbaaDoor

end
