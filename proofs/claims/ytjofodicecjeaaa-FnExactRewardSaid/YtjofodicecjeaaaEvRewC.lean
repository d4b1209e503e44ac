/-
  Reward of both, in the words of a law.
-/
import Derived.Test.YtjofodicecjeaaaEvRewI
namespace Go.Proofs.Ytjofodicecjeaaa
set_option maxRecDepth 100000
set_option linter.unusedVariables false
set_option linter.unusedSimpArgs false
open Go Go.RowKit Go.Shelf Go.Sort
set_option maxHeartbeats 4000000

section
variable {v1 v2 : Value} {w : World} {l : List TAcct} {vals : List TVal} {coins : Int}
theorem rew_args (h1 : RdS w w.heap.size 2 cAcct v1 l) (h2 : RdS w w.heap.size 2 cVal v2 vals) : RepAs w (encRw (l, vals, coins)) [v1, v2, .int .i64 coins] :=
  RepAs.cons (aL_rep (fun _ => rfl) (fun x u hu => by simp [cAcct] at hu; rcases hu with rfl | rfl <;> rfl) h1) (RepAs.cons (aL_rep (fun _ => rfl) (fun x u hu => by simp [cVal] at hu; rcases hu with rfl | rfl <;> rfl) h2) (RepAs.cons (aI_rep coins) RepAs.nil))
theorem rew_spec (h1 : RdS w w.heap.size 2 cAcct v1 l) (h2 : RdS w w.heap.size 2 cVal v2 vals) (n1 : l.length ≤ 8796093022207) (n2 : vals.length ≤ 8796093022207) :
    Calls Try.prog 61 #[v1, v2, .int .i64 coins] w (NewT w 2 cAcct (rewL l vals coins) [.bool (rewB l vals coins)]) :=
  calls_newT (fun _ => rfl) rewS_s (mdl_eq encRw_inj (l, vals, coins) ⟨n1, n2⟩) (rew_args h1 h2)
theorem rew_impl (h1 : RdS w w.heap.size 2 cAcct v1 l) (h2 : RdS w w.heap.size 2 cVal v2 vals) (n1 : l.length ≤ 8796093022207) (n2 : vals.length ≤ 8796093022207) :
    Calls Try.prog 63 #[v1, v2, .int .i64 coins] w (NewT w 2 cAcct (rewL l vals coins) [.bool (rewB l vals coins)]) := by
  have he := mdl_eq (ok := okRw) (g := rRwi) encRw_inj (l, vals, coins) ⟨n1, n2⟩
  by_cases ha : acctsOk l
  · simp only [rRwi, if_pos ha] at he
    exact calls_newT (fun _ => rfl) rewI_s he (rew_args h1 h2)
  · simp only [rRwi, if_neg ha] at he
    have e1 : rewB l vals coins = false := by simp [rewB, ha]
    have e2 : rewL l vals coins = [] := by simp [rewL, e1, ha]
    rw [e1, e2]
    exact calls_newTN (rest := [.bool false]) rewI_s he (rew_args h1 h2)
end
end Go.Proofs.Ytjofodicecjeaaa
