/-
  What the table of types says.
-/
import Derived.Test.YtimnogjgokljbaaEv3
import Derived.Test.YtimnogjgokljbaaProg
namespace Go.Proofs.Ytimnogjgokljbaa
set_option maxRecDepth 100000
set_option linter.unusedVariables false
set_option linter.unusedSimpArgs false
open Go Go.RowKit

theorem TY : True
    ∧ (szT Try.prog 3 = some 1)
    ∧ (rowT Try.prog 3 = some false)
    ∧ (byT Try.prog 3 = some 8)
    ∧ (zeroT Try.prog 3 = some (.int .i64 0))
    ∧ (intT Try.prog 3 = some .i64)
    ∧ (Try.prog.underlying 3 = some (.int .i64))
    ∧ (szT Try.prog 9 = some 1)
    ∧ (rowT Try.prog 9 = some false)
    ∧ (byT Try.prog 9 = some 16)
    ∧ (zeroT Try.prog 9 = some (.string .empty))
    ∧ (isStrT Try.prog 9 = true)
    ∧ (arT Try.prog 9 = none)
    ∧ (szT Try.prog 4 = some 1)
    ∧ (rowT Try.prog 4 = some false)
    ∧ (byT Try.prog 4 = some 1)
    ∧ (zeroT Try.prog 4 = some (.bool false))
    ∧ (szT Try.prog 5 = some 1)
    ∧ (rowT Try.prog 5 = some false)
    ∧ (byT Try.prog 5 = some 1)
    ∧ (zeroT Try.prog 5 = some (.int .u8 0))
    ∧ (intT Try.prog 5 = some .u8)
    ∧ (Try.prog.underlying 5 = some (.int .u8))
    ∧ (szT Try.prog 84 = some 1)
    ∧ (rowT Try.prog 84 = some false)
    ∧ (byT Try.prog 84 = some 4)
    ∧ (zeroT Try.prog 84 = some (.int .u32 0))
    ∧ (intT Try.prog 84 = some .u32)
    ∧ (Try.prog.underlying 84 = some (.int .u32))
    ∧ (szT Try.prog 76 = some 1)
    ∧ (rowT Try.prog 76 = some false)
    ∧ (byT Try.prog 76 = some 8)
    ∧ (zeroT Try.prog 76 = some (.int .u64 0))
    ∧ (intT Try.prog 76 = some .u64)
    ∧ (Try.prog.underlying 76 = some (.int .u64))
    ∧ (szT Try.prog 57 = some 2)
    ∧ (rowT Try.prog 57 = some true)
    ∧ (byT Try.prog 57 = some 16)
    ∧ (zeroT Try.prog 57 = some (.agg #[.int .i64 0, .int .i64 0]))
    ∧ (fldT Try.prog 57 0 = some (0, 3))
    ∧ (fldT Try.prog 57 1 = some (1, 3))
    ∧ (eqTab Try.prog 57 = some [(0, 0), (1, 0)])
    ∧ (partsT Try.prog 57 = some fun i => ([(0, 1), (1, 1)] : List (Nat × Nat))[i]?)
    ∧ (szT Try.prog 52 = some 2)
    ∧ (rowT Try.prog 52 = some true)
    ∧ (byT Try.prog 52 = some 32)
    ∧ (zeroT Try.prog 52 = some (.agg #[.int .i64 0, .slice none 0 0]))
    ∧ (fldT Try.prog 52 0 = some (0, 3))
    ∧ (fldT Try.prog 52 1 = some (1, 24))
    ∧ (partsT Try.prog 52 = some fun i => ([(0, 1), (1, 1)] : List (Nat × Nat))[i]?)
    ∧ (szT Try.prog 74 = some 3)
    ∧ (rowT Try.prog 74 = some true)
    ∧ (byT Try.prog 74 = some 40)
    ∧ (zeroT Try.prog 74 = some (.agg #[.slice none 0 0, .int .i64 0, .int .i64 0]))
    ∧ (fldT Try.prog 74 0 = some (0, 41))
    ∧ (fldT Try.prog 74 1 = some (1, 3))
    ∧ (fldT Try.prog 74 2 = some (2, 3))
    ∧ (partsT Try.prog 74 = some fun i => ([(0, 1), (1, 1), (2, 1)] : List (Nat × Nat))[i]?)
    ∧ (szT Try.prog 61 = some 2)
    ∧ (rowT Try.prog 61 = some true)
    ∧ (byT Try.prog 61 = some 16)
    ∧ (zeroT Try.prog 61 = some (.agg #[.int .i64 0, .int .i64 0]))
    ∧ (fldT Try.prog 61 0 = some (0, 3))
    ∧ (fldT Try.prog 61 1 = some (1, 3))
    ∧ (eqTab Try.prog 61 = some [(0, 0), (1, 0)])
    ∧ (partsT Try.prog 61 = some fun i => ([(0, 1), (1, 1)] : List (Nat × Nat))[i]?)
    ∧ (szT Try.prog 50 = some 2)
    ∧ (rowT Try.prog 50 = some true)
    ∧ (byT Try.prog 50 = some 32)
    ∧ (zeroT Try.prog 50 = some (.agg #[.int .i64 0, .slice none 0 0]))
    ∧ (fldT Try.prog 50 0 = some (0, 3))
    ∧ (fldT Try.prog 50 1 = some (1, 34))
    ∧ (partsT Try.prog 50 = some fun i => ([(0, 1), (1, 1)] : List (Nat × Nat))[i]?)
    ∧ (szT Try.prog 66 = some 1)
    ∧ (rowT Try.prog 66 = some false)
    ∧ (byT Try.prog 66 = some 24)
    ∧ (zeroT Try.prog 66 = some (.slice none 0 0))
    ∧ (elT Try.prog 66 = some 3)
    ∧ (arT Try.prog 66 = none)
    ∧ (isStrT Try.prog 66 = false)
    ∧ (szT Try.prog 41 = some 1)
    ∧ (rowT Try.prog 41 = some false)
    ∧ (byT Try.prog 41 = some 24)
    ∧ (zeroT Try.prog 41 = some (.slice none 0 0))
    ∧ (elT Try.prog 41 = some 5)
    ∧ (arT Try.prog 41 = none)
    ∧ (isStrT Try.prog 41 = false)
    ∧ (szT Try.prog 24 = some 1)
    ∧ (rowT Try.prog 24 = some false)
    ∧ (byT Try.prog 24 = some 24)
    ∧ (zeroT Try.prog 24 = some (.slice none 0 0))
    ∧ (elT Try.prog 24 = some 57)
    ∧ (arT Try.prog 24 = none)
    ∧ (isStrT Try.prog 24 = false)
    ∧ (szT Try.prog 27 = some 1)
    ∧ (rowT Try.prog 27 = some false)
    ∧ (byT Try.prog 27 = some 24)
    ∧ (zeroT Try.prog 27 = some (.slice none 0 0))
    ∧ (elT Try.prog 27 = some 52)
    ∧ (arT Try.prog 27 = none)
    ∧ (isStrT Try.prog 27 = false)
    ∧ (szT Try.prog 34 = some 1)
    ∧ (rowT Try.prog 34 = some false)
    ∧ (byT Try.prog 34 = some 24)
    ∧ (zeroT Try.prog 34 = some (.slice none 0 0))
    ∧ (elT Try.prog 34 = some 61)
    ∧ (arT Try.prog 34 = none)
    ∧ (isStrT Try.prog 34 = false)
    ∧ (szT Try.prog 22 = some 1)
    ∧ (rowT Try.prog 22 = some false)
    ∧ (byT Try.prog 22 = some 24)
    ∧ (zeroT Try.prog 22 = some (.slice none 0 0))
    ∧ (elT Try.prog 22 = some 50)
    ∧ (arT Try.prog 22 = none)
    ∧ (isStrT Try.prog 22 = false)
    := by
  refine ⟨trivial
    , by kernel_rfl
    , by kernel_rfl
    , by kernel_rfl
    , by kernel_rfl
    , by kernel_rfl
    , by kernel_rfl
    , by kernel_rfl
    , by kernel_rfl
    , by kernel_rfl
    , by kernel_rfl
    , by kernel_rfl
    , by kernel_rfl
    , by kernel_rfl
    , by kernel_rfl
    , by kernel_rfl
    , by kernel_rfl
    , by kernel_rfl
    , by kernel_rfl
    , by kernel_rfl
    , by kernel_rfl
    , by kernel_rfl
    , by kernel_rfl
    , by kernel_rfl
    , by kernel_rfl
    , by kernel_rfl
    , by kernel_rfl
    , by kernel_rfl
    , by kernel_rfl
    , by kernel_rfl
    , by kernel_rfl
    , by kernel_rfl
    , by kernel_rfl
    , by kernel_rfl
    , by kernel_rfl
    , by kernel_rfl
    , by kernel_rfl
    , by kernel_rfl
    , by kernel_rfl
    , by kernel_rfl
    , by kernel_rfl
    , by kernel_rfl
    , by kernel_rfl
    , by kernel_rfl
    , by kernel_rfl
    , by kernel_rfl
    , by kernel_rfl
    , by kernel_rfl
    , by kernel_rfl
    , by kernel_rfl
    , by kernel_rfl
    , by kernel_rfl
    , by kernel_rfl
    , by kernel_rfl
    , by kernel_rfl
    , by kernel_rfl
    , by kernel_rfl
    , by kernel_rfl
    , by kernel_rfl
    , by kernel_rfl
    , by kernel_rfl
    , by kernel_rfl
    , by kernel_rfl
    , by kernel_rfl
    , by kernel_rfl
    , by kernel_rfl
    , by kernel_rfl
    , by kernel_rfl
    , by kernel_rfl
    , by kernel_rfl
    , by kernel_rfl
    , by kernel_rfl
    , by kernel_rfl
    , by kernel_rfl
    , by kernel_rfl
    , by kernel_rfl
    , by kernel_rfl
    , by kernel_rfl
    , by kernel_rfl
    , by kernel_rfl
    , by kernel_rfl
    , by kernel_rfl
    , by kernel_rfl
    , by kernel_rfl
    , by kernel_rfl
    , by kernel_rfl
    , by kernel_rfl
    , by kernel_rfl
    , by kernel_rfl
    , by kernel_rfl
    , by kernel_rfl
    , by kernel_rfl
    , by kernel_rfl
    , by kernel_rfl
    , by kernel_rfl
    , by kernel_rfl
    , by kernel_rfl
    , by kernel_rfl
    , by kernel_rfl
    , by kernel_rfl
    , by kernel_rfl
    , by kernel_rfl
    , by kernel_rfl
    , by kernel_rfl
    , by kernel_rfl
    , by kernel_rfl
    , by kernel_rfl
    , by kernel_rfl
    , by kernel_rfl
    , by kernel_rfl
    , by kernel_rfl
    , by kernel_rfl
    , by kernel_rfl
    , by kernel_rfl
    , by kernel_rfl
    ⟩

end Go.Proofs.Ytimnogjgokljbaa
