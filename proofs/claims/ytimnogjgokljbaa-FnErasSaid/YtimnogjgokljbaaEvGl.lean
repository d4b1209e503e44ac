/-
  The package variables that are read, and what they hold.
-/
import Derived.Test.YtimnogjgokljbaaBase
namespace Go.Proofs.Ytimnogjgokljbaa
set_option maxRecDepth 100000
set_option linter.unusedVariables false
set_option linter.unusedSimpArgs false
open Go Go.RowKit
def globs : Nat → Option (List Value) := fun _ => none
/-- they hold it in w -/
def GlobOk (γ0 : Nat → Option Nat) (w : World) : Prop := ∀ g cs, globs g = some cs → γ0 g = none ∧ g < w.heap.size ∧ ∀ (j : Nat) (v : Value), cs[j]? = some v → v.oneCell' = true ∧ w.cell? ⟨g, j, none⟩ = some v
theorem glob_triv {γ0 : Nat → Option Nat} {w : World} : GlobOk γ0 w := fun g cs h => by cases h
end Go.Proofs.Ytimnogjgokljbaa
