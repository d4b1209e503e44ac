/-
  PoolOk of spec and impl, as contracts of the evaluator.
-/
import Derived.Test.YtlchfjjoendimaaEvList
import Derived.Test.YtlchfjjoendimaaPoolOk
namespace Go.Proofs.Ytlchfjjoendimaa
set_option maxRecDepth 100000
set_option linter.unusedVariables false
set_option linter.unusedSimpArgs false
open Go Go.RowKit
set_option maxHeartbeats 4000000

noncomputable def mPool := mdl (fun l : List TTx => l.length ≤ 8796093022207) (fun l => [aL cTx l]) (fun l => rB (decide (poolOk l)))
theorem mPool_eq (l : List TTx) (h : l.length ≤ 8796093022207) : mPool [aL cTx l] = some (rB (decide (poolOk l))) := mdl_eq (by intro a b h; simpa using h) l h
theorem poolS_s : Sound Try.prog 29 mPool := Sound.listB (s := 3) (fun _ => rfl) fun v l w hl h => poolOk_spec v l w h hl
theorem poolI_s : Sound Try.prog 94 mPool := Sound.listB (s := 3) (fun _ => rfl) fun v l w hl h => poolOk_impl v l w h hl
theorem tx_at {l : List TTx} (h : poolOk l) {k : Nat} (hk : k < l.length) : 1 ≤ l[k].1 ∧ l[k].1 ≤ 9 ∧ 1 ≤ l[k].2.1 ∧ l[k].2.1 ≤ 1000 ∧ 0 ≤ l[k].2.2 ∧ l[k].2.2 ≤ 1000 := by
  have := h.2 k hk
  unfold txAt at this
  simp only [List.getD_eq_getElem?_getD, List.getElem?_eq_getElem hk, Option.getD_some] at this
  exact ⟨this.1, this.2.1, this.2.2.1, this.2.2.2.1, this.2.2.2.2.1, this.2.2.2.2.2.1⟩

end Go.Proofs.Ytlchfjjoendimaa
