/-
  The law of ErasOk; a row of eras as an argument.
-/
import Derived.Test.YtimnogjgokljbaaEvEraZ
import Derived.Test.YtimnogjgokljbaaEvEraS
import Derived.Test.YtimnogjgokljbaaEvEraI
import Derived.Test.YtimnogjgokljbaaOpen
namespace Go.Proofs.Ytimnogjgokljbaa
set_option maxRecDepth 100000
set_option linter.unusedVariables false
set_option linter.unusedSimpArgs false
open Go Go.RowKit
set_option maxHeartbeats 8000000
set_option linter.unusedVariables false

theorem totE_in {l : List TEra} (h : totE l ≤ 1048576) : l.length ≤ 1048576 ∧ ∀ e ∈ l, e.2.length ≤ 1048576 := by
  unfold totE at h
  refine ⟨by omega, fun e he => ?_⟩
  have key : ∀ (q : List TEra), e ∈ q → e.2.length ≤ (q.map fun e => e.2.length).sum := by
    intro q
    induction q with
    | nil => intro h; cases h
    | cons x r ih =>
      intro h
      rw [List.map_cons, List.sum_cons]
      rcases List.mem_cons.1 h with rfl | h
      · omega
      · have := ih h; omega
  have := key l he
  omega
theorem cVal_onE : ∀ x : TVal, ∀ u ∈ cVal x, u.oneCell' = true := fun x u hu => by simp [cVal] at hu; rcases hu with rfl | rfl <;> rfl
/-- a slice that reads as eras -/
def EraE (w : World) (B : Nat) (cs : List Value) (e : TEra) : Prop := ∃ vl, cs = [.int .i64 e.1, vl] ∧ RdS w B 2 cVal vl e.2 ∧ e.2.length ≤ 9223372036854775807
theorem era_rep {w : World} {v : Value} {l : List TEra} (h : RdR w w.heap.size 2 (EraE w w.heap.size) v l) : RepL w none0 (.sl (eraRows l)) v ∧ ∀ e ∈ l, okEz e := by
  obtain ⟨A, c, rfl, hlc, hcm, hn⟩ := h
  by_cases hne : l = []
  · subst hne
    exact ⟨.emp hcm, fun e he => by cases he⟩
  · obtain ⟨b, off, rfl, hb, hc⟩ := hn hne
    have hex : ∀ i, ∃ vl, ∀ e, l[i]? = some e → RdS w w.heap.size 2 cVal vl e.2 ∧ e.2.length ≤ 9223372036854775807 ∧ w.cell? ⟨b, off + i * 2 + 0, none⟩ = some (.int .i64 e.1) ∧ w.cell? ⟨b, off + i * 2 + 1, none⟩ = some vl := fun i => by
      by_cases hi : i < l.length
      · obtain ⟨cs, _, ⟨vl, rfl, h2, h3⟩, h4⟩ := hc i l[i] (List.getElem?_eq_getElem hi)
        refine ⟨vl, fun e he => ?_⟩
        rw [List.getElem?_eq_getElem hi] at he
        cases he
        exact ⟨h2, h3, h4 0 _ rfl, h4 1 _ rfl⟩
      · refine ⟨undef, fun e he => ?_⟩
        rw [List.getElem?_eq_none (by omega)] at he
        cases he
    obtain ⟨f, hf⟩ := Classical.axiomOfChoice hex
    refine ⟨?_, fun e he => ?_⟩
    · have := RepL.sl (w := w) (γ := none0) (rows := eraRows l) (b := b) (off := off) (s := 2) (cap := c) (fun i j => if j = 0 then .int .i64 (l.getD i (0, [])).1 else f i) rfl hb (by rw [eraRows_len]; exact hlc) hcm (fun row hr => by
          obtain ⟨e, _, rfl⟩ := List.mem_map.1 hr
          rfl) (fun i row j x hi hj => ?_) (fun i row j x hi hj => ?_)
      · rw [eraRows_len] at this
        exact this
      · have hlt : i < l.length := by have := (List.getElem?_eq_some_iff.1 hi).1; rwa [eraRows_len] at this
        obtain ⟨h1, h2, h3, h4⟩ := hf i l[i] (List.getElem?_eq_getElem hlt)
        rw [eraRows_get hlt] at hi
        cases hi
        have hg : l.getD i (0, []) = l[i] := by rw [List.getD_eq_getElem?_getD, List.getElem?_eq_getElem hlt]; rfl
        rcases j with _ | _ | j
        · rw [if_pos rfl, hg]; exact h3
        · rw [if_neg (by omega)]; exact h4
        · simp at hj
      · have hlt : i < l.length := by have := (List.getElem?_eq_some_iff.1 hi).1; rwa [eraRows_len] at this
        obtain ⟨h1, h2, h3, h4⟩ := hf i l[i] (List.getElem?_eq_getElem hlt)
        rw [eraRows_get hlt] at hi
        cases hi
        have hg : l.getD i (0, []) = l[i] := by rw [List.getD_eq_getElem?_getD, List.getElem?_eq_getElem hlt]; rfl
        rcases j with _ | _ | j
        · cases hj
          rw [if_pos rfl, hg]
          exact .sc rfl
        · cases hj
          rw [if_neg (by omega)]
          exact h1.rep (fun _ => rfl) cVal_onE
        · simp at hj
    · obtain ⟨i, hi, rfl⟩ := List.getElem_of_mem he
      exact (hf i _ (List.getElem?_eq_getElem hi)).2.1
theorem law_eras {f : FuncId} {v : Value} {l : List TEra} {w : World} (hs : Sound Try.prog f (mdl okEZ (fun l => [aES l]) fun _ => rB true)) (h : RdR w w.heap.size 2 (EraE w w.heap.size) v l) (hl : l.length ≤ 8796093022207) (hg : GlobOk none0 w := by first | exact glob_triv | assumption) :
    Calls Try.prog f #[v] w fun e w' => e = .returned (.bool true) ∧ Below w.heap.size w w' :=
  calls_says hs (mdl_eq aES_inj l ⟨hl, (era_rep h).2⟩) (RepAs.cons (repA_list (era_rep h).1) RepAs.nil) hg
end Go.Proofs.Ytimnogjgokljbaa
