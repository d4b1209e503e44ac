/-
  PoolAdd of both, in the words of a law.
-/
import Derived.Test.YtjofodicecjeaaaEvPAddS
namespace Go.Proofs.Ytjofodicecjeaaa
set_option maxRecDepth 100000
set_option linter.unusedVariables false
set_option linter.unusedSimpArgs false
open Go Go.RowKit Go.Shelf Go.Sort
set_option maxHeartbeats 4000000

theorem pAddL_le (l : List TTx) (t : TTx) : (pAddL l t).length ≤ 1048576 := by
  unfold pAddL
  split
  · rename_i h
    simp only [pAddB, Bool.and_eq_true, decide_eq_true_eq] at h
    have := h.2.1
    omega
  · split
    · rename_i h
      have := h.1
      omega
    · simp
section
variable {v : Value} {w : World} {l : List TTx} {t : TTx}
theorem pa_args (h : RdS w w.heap.size 3 cTx v l) : RepAs w (encPA (l, t)) [v, .agg #[.int .i64 t.1, .int .i64 t.2.1, .int .i64 t.2.2]] :=
  RepAs.cons (aL_rep (fun _ => rfl) (fun x u hu => by simp [cTx] at hu; rcases hu with rfl | rfl | rfl <;> rfl) h) (RepAs.cons ⟨[.int .i64 t.1, .int .i64 t.2.1, .int .i64 t.2.2], rfl, scs_rep (l := [.int .i64 t.1, .int .i64 t.2.1, .int .i64 t.2.2]) (fun v hv => by simp at hv; rcases hv with rfl | rfl | rfl <;> rfl)⟩ RepAs.nil)
theorem poolAdd_spec (h : RdS w w.heap.size 3 cTx v l) (hn : l.length ≤ 8796093022207) : Calls Try.prog 51 #[v, .agg #[.int .i64 t.1, .int .i64 t.2.1, .int .i64 t.2.2]] w (NewT w 3 cTx (pAddL l t) [.bool (pAddB l t)]) :=
  calls_newT (fun _ => rfl) pAddS_s (mdl_eq encPA_inj (l, t) hn) (pa_args h)
theorem poolAdd_impl (h : RdS w w.heap.size 3 cTx v l) (hn : l.length ≤ 8796093022207) : Calls Try.prog 54 #[v, .agg #[.int .i64 t.1, .int .i64 t.2.1, .int .i64 t.2.2]] w (NewT w 3 cTx (pAddL l t) [.bool (pAddB l t)]) := by
  have he := mdl_eq (ok := fun x : List TTx × TTx => x.1.length ≤ 8796093022207) (g := rPAi) encPA_inj (l, t) hn
  by_cases hp : poolOk l
  · simp only [rPAi, if_pos hp] at he
    exact calls_newT (fun _ => rfl) pAddI_s he (pa_args h)
  · simp only [rPAi, if_neg hp] at he
    have e1 : pAddB l t = false := by simp [pAddB, hp]
    have e2 : pAddL l t = [] := by simp [pAddL, e1, hp]
    rw [e1, e2]
    exact calls_newTN (rest := [.bool false]) pAddI_s he (pa_args h)
end
end Go.Proofs.Ytjofodicecjeaaa
