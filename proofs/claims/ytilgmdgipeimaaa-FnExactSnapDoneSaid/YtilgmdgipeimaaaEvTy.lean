/-
  What the table of types says.
-/
import Derived.Test.YtilgmdgipeimaaaEv3
import Derived.Test.YtilgmdgipeimaaaProg
namespace Go.Proofs.Ytilgmdgipeimaaa
set_option maxRecDepth 100000
set_option linter.unusedVariables false
set_option linter.unusedSimpArgs false
open Go Go.RowKit

theorem TY : True
    ∧ (szT Try.prog 3 = some 1)
    ∧ (rowT Try.prog 3 = some false)
    ∧ (byT Try.prog 3 = some 8)
    ∧ (zeroT Try.prog 3 = some (.int .i64 0))
    ∧ (intT Try.prog 3 = some .i64)
    ∧ (Try.prog.underlying 3 = some (.int .i64))
    ∧ (szT Try.prog 9 = some 1)
    ∧ (rowT Try.prog 9 = some false)
    ∧ (byT Try.prog 9 = some 16)
    ∧ (zeroT Try.prog 9 = some (.string .empty))
    ∧ (isStrT Try.prog 9 = true)
    ∧ (arT Try.prog 9 = none)
    ∧ (szT Try.prog 4 = some 1)
    ∧ (rowT Try.prog 4 = some false)
    ∧ (byT Try.prog 4 = some 1)
    ∧ (zeroT Try.prog 4 = some (.bool false))
    ∧ (szT Try.prog 5 = some 1)
    ∧ (rowT Try.prog 5 = some false)
    ∧ (byT Try.prog 5 = some 1)
    ∧ (zeroT Try.prog 5 = some (.int .u8 0))
    ∧ (intT Try.prog 5 = some .u8)
    ∧ (Try.prog.underlying 5 = some (.int .u8))
    ∧ (szT Try.prog 58 = some 1)
    ∧ (rowT Try.prog 58 = some false)
    ∧ (byT Try.prog 58 = some 4)
    ∧ (zeroT Try.prog 58 = some (.int .u32 0))
    ∧ (intT Try.prog 58 = some .u32)
    ∧ (Try.prog.underlying 58 = some (.int .u32))
    ∧ (szT Try.prog 25 = some 4)
    ∧ (rowT Try.prog 25 = some true)
    ∧ (byT Try.prog 25 = some 72)
    ∧ (zeroT Try.prog 25 = some (.agg #[.string .empty, .int .i64 0, .slice none 0 0, .slice none 0 0]))
    ∧ (fldT Try.prog 25 0 = some (0, 9))
    ∧ (fldT Try.prog 25 1 = some (1, 3))
    ∧ (fldT Try.prog 25 2 = some (2, 22))
    ∧ (fldT Try.prog 25 3 = some (3, 23))
    ∧ (partsT Try.prog 25 = some fun i => ([(0, 1), (1, 1), (2, 1), (3, 1)] : List (Nat × Nat))[i]?)
    ∧ (szT Try.prog 38 = some 1)
    ∧ (rowT Try.prog 38 = some false)
    ∧ (byT Try.prog 38 = some 24)
    ∧ (zeroT Try.prog 38 = some (.slice none 0 0))
    ∧ (elT Try.prog 38 = some 3)
    ∧ (arT Try.prog 38 = none)
    ∧ (isStrT Try.prog 38 = false)
    ∧ (szT Try.prog 22 = some 1)
    ∧ (rowT Try.prog 22 = some false)
    ∧ (byT Try.prog 22 = some 24)
    ∧ (zeroT Try.prog 22 = some (.slice none 0 0))
    ∧ (elT Try.prog 22 = some 9)
    ∧ (arT Try.prog 22 = none)
    ∧ (isStrT Try.prog 22 = false)
    ∧ (szT Try.prog 23 = some 1)
    ∧ (rowT Try.prog 23 = some false)
    ∧ (byT Try.prog 23 = some 24)
    ∧ (zeroT Try.prog 23 = some (.slice none 0 0))
    ∧ (elT Try.prog 23 = some 4)
    ∧ (arT Try.prog 23 = none)
    ∧ (isStrT Try.prog 23 = false)
    ∧ (szT Try.prog 50 = some 1)
    ∧ (rowT Try.prog 50 = some false)
    ∧ (byT Try.prog 50 = some 24)
    ∧ (zeroT Try.prog 50 = some (.slice none 0 0))
    ∧ (elT Try.prog 50 = some 5)
    ∧ (arT Try.prog 50 = none)
    ∧ (isStrT Try.prog 50 = false)
    := by
  refine ⟨trivial
    , by kernel_rfl
    , by kernel_rfl
    , by kernel_rfl
    , by kernel_rfl
    , by kernel_rfl
    , by kernel_rfl
    , by kernel_rfl
    , by kernel_rfl
    , by kernel_rfl
    , by kernel_rfl
    , by kernel_rfl
    , by kernel_rfl
    , by kernel_rfl
    , by kernel_rfl
    , by kernel_rfl
    , by kernel_rfl
    , by kernel_rfl
    , by kernel_rfl
    , by kernel_rfl
    , by kernel_rfl
    , by kernel_rfl
    , by kernel_rfl
    , by kernel_rfl
    , by kernel_rfl
    , by kernel_rfl
    , by kernel_rfl
    , by kernel_rfl
    , by kernel_rfl
    , by kernel_rfl
    , by kernel_rfl
    , by kernel_rfl
    , by kernel_rfl
    , by kernel_rfl
    , by kernel_rfl
    , by kernel_rfl
    , by kernel_rfl
    , by kernel_rfl
    , by kernel_rfl
    , by kernel_rfl
    , by kernel_rfl
    , by kernel_rfl
    , by kernel_rfl
    , by kernel_rfl
    , by kernel_rfl
    , by kernel_rfl
    , by kernel_rfl
    , by kernel_rfl
    , by kernel_rfl
    , by kernel_rfl
    , by kernel_rfl
    , by kernel_rfl
    , by kernel_rfl
    , by kernel_rfl
    , by kernel_rfl
    , by kernel_rfl
    , by kernel_rfl
    , by kernel_rfl
    , by kernel_rfl
    , by kernel_rfl
    , by kernel_rfl
    , by kernel_rfl
    , by kernel_rfl
    , by kernel_rfl
    , by kernel_rfl
    , by kernel_rfl
    ⟩

end Go.Proofs.Ytilgmdgipeimaaa
