/-
  A row of one's own turns in place.
-/
import Derived.Test.YtimnogjgokljbaaGreatDoorHEvCut
namespace Go.Proofs.YtimnogjgokljbaaGreatDoor
set_option maxRecDepth 100000
set_option linter.unusedVariables false
set_option linter.unusedSimpArgs false
open Go Go.RowKit

section
variable {P : Program} {γ0 : Nat → Option Nat} {w0 : World} {N : Nat} {st : St} {a : Act} {w : World} {η : Nat → Value} {γ : Nat → Option Nat} {Q : Exit → Act → World → Prop}
/-- a row of one's own turns in place, and new blocks are laid -/
theorem Inv.turnW (h : Inv γ0 w0 N st a w η γ) (n : Nat) {fl : Fl} {e s : Nat} {rows rows' : List (List Leaf)} (hb0 : getB st n = some (.arr fl e s rows)) (hlen : rows'.length = rows.length) (g : Nat) (hg : γ g = some n) (w' : World)
    (hos : w'.os = w.os) (htape : w'.tape = w.tape) (hout : w'.output = w.output) (hsize : w.heap.size ≤ w'.heap.size) (hold : ∀ k, k < w.heap.size → k ≠ g → w'.heap[k]? = w.heap[k]?)
    (hB : RepB (getB (.blk n (.arr fl e s rows') :: st)) η γ w' n (.arr fl e s rows')) :
    Inv γ0 w0 N (.blk n (.arr fl e s rows') :: st) a w' η γ := by
  have hlive : ∀ k m, γ k = some m → k < w.heap.size := fun k m hk => (h.live k m hk).1
  have hk : Kp w w' γ γ := ⟨hsize, fun k hk hgk => ⟨hgk, hold k hk (fun e => by rw [e, hg] at hgk; cases hgk)⟩⟩
  have hget : ∀ m, m ≠ n → getB (.blk n (.arr fl e s rows') :: st) m = getB st m := fun m hm => if_neg (fun e => hm e.symm)
  have hn : Nm (getB st) (getB (.blk n (.arr fl e s rows') :: st)) η η (fun _ => True) := by
    intro m b' _ hb
    refine ⟨rfl, ?_⟩
    by_cases hm : m = n
    · subst hm
      rw [hb0] at hb
      cases hb
      exact ⟨fl, rows', if_pos rfl, hlen⟩
    · cases b' with
      | arr fl e s rows => exact ⟨fl, rows, by rw [hget m hm]; exact hb, rfl⟩
      | box ls => exact ⟨ls, by rw [hget m hm]; exact hb⟩
  have hgm : ∀ m b0, m ≠ n → γ b0 = some m → γ b0 = some m ∧ w'.heap[b0]? = w.heap[b0]? := fun m b0 hm hb0 => ⟨hb0, hold b0 (hlive b0 m hb0) (fun e => by rw [e, hg] at hb0; cases hb0; exact hm rfl)⟩
  refine { h with slots := fun t => (h.slots t).kp hn hk, blks := fun m b' hb => ?_, live := fun b0 m hb => ?_, low := fun b0 hb hg0 => ?_, size := Nat.le_trans h.size hsize, os := hos.trans h.os, tape := htape.trans h.tape, output := hout.trans h.output, pin := fun h9 b2 ls hb hbx => ?_, pinA := h.pinA.to fun h9 fl1 e1 s1 rows1 hbx => ⟨rfl, ?_⟩ }
  · by_cases hm : m = n
    · subst hm
      rw [getB_hit] at hb
      cases hb
      exact hB
    · rw [hget m hm] at hb
      have h1 := h.blks m b' hb
      cases b' with
      | box ls => exact RepB.kp_box hn hk h1 rfl (hgm m · hm)
      | arr fl e s rows => exact RepB.kp_arr hk h1 rfl (hgm m · hm)
  · obtain ⟨h1, h2, h3⟩ := h.live b0 m hb
    refine ⟨Nat.lt_of_lt_of_le h1 hsize, ?_, ?_⟩
    · by_cases hm : m = n
      · subst hm
        rw [hb0] at h2
        rw [getB_hit]
        exact h2
      · rw [hget m hm]; exact h2
    · by_cases hm : m = n
      · subst hm; simp [getB]
      · rw [hget m hm]; exact h3
  · obtain ⟨h1, h2⟩ := h.low b0 hb hg0
    exact ⟨h1, by rw [hold b0 (Nat.lt_of_lt_of_le hb h.size) (fun e => by rw [e, hg] at h1; cases h1)]; exact h2⟩
  · by_cases hm : (999 : Nat) = n
    · subst hm
      rw [getB_hit] at hbx
      cases hbx
    · rw [hget 999 hm] at hbx
      exact h.pin h9 b2 ls hb hbx
  · by_cases hm : (999 : Nat) = n
    · subst hm
      rw [getB_hit] at hbx
      cases hbx
      exact ⟨_, _, hb0, hlen⟩
    · rw [hget 999 hm] at hbx
      exact ⟨_, _, hbx, rfl⟩
end
end Go.Proofs.YtimnogjgokljbaaGreatDoor
