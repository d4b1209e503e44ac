/-
  What the table of types says.
-/
import Derived.Test.YtfnjkoimejkhlaaEv3
import Derived.Test.YtfnjkoimejkhlaaProg
namespace Go.Proofs.Ytfnjkoimejkhlaa
set_option maxRecDepth 100000
set_option linter.unusedVariables false
set_option linter.unusedSimpArgs false
open Go Go.RowKit

theorem TY : True
    ∧ (szT Try.prog 3 = some 1)
    ∧ (rowT Try.prog 3 = some false)
    ∧ (byT Try.prog 3 = some 8)
    ∧ (zeroT Try.prog 3 = some (.int .i64 0))
    ∧ (intT Try.prog 3 = some .i64)
    ∧ (Try.prog.underlying 3 = some (.int .i64))
    ∧ (szT Try.prog 9 = some 1)
    ∧ (rowT Try.prog 9 = some false)
    ∧ (byT Try.prog 9 = some 16)
    ∧ (zeroT Try.prog 9 = some (.string .empty))
    ∧ (isStrT Try.prog 9 = true)
    ∧ (arT Try.prog 9 = none)
    ∧ (szT Try.prog 4 = some 1)
    ∧ (rowT Try.prog 4 = some false)
    ∧ (byT Try.prog 4 = some 1)
    ∧ (zeroT Try.prog 4 = some (.bool false))
    ∧ (szT Try.prog 5 = some 1)
    ∧ (rowT Try.prog 5 = some false)
    ∧ (byT Try.prog 5 = some 1)
    ∧ (zeroT Try.prog 5 = some (.int .u8 0))
    ∧ (intT Try.prog 5 = some .u8)
    ∧ (Try.prog.underlying 5 = some (.int .u8))
    ∧ (szT Try.prog 150 = some 1)
    ∧ (rowT Try.prog 150 = some false)
    ∧ (byT Try.prog 150 = some 4)
    ∧ (zeroT Try.prog 150 = some (.int .u32 0))
    ∧ (intT Try.prog 150 = some .u32)
    ∧ (Try.prog.underlying 150 = some (.int .u32))
    ∧ (szT Try.prog 142 = some 1)
    ∧ (rowT Try.prog 142 = some false)
    ∧ (byT Try.prog 142 = some 8)
    ∧ (zeroT Try.prog 142 = some (.int .u64 0))
    ∧ (intT Try.prog 142 = some .u64)
    ∧ (Try.prog.underlying 142 = some (.int .u64))
    ∧ (szT Try.prog 101 = some 2)
    ∧ (rowT Try.prog 101 = some true)
    ∧ (byT Try.prog 101 = some 16)
    ∧ (zeroT Try.prog 101 = some (.agg #[.int .i64 0, .int .i64 0]))
    ∧ (fldT Try.prog 101 0 = some (0, 3))
    ∧ (fldT Try.prog 101 1 = some (1, 3))
    ∧ (eqTab Try.prog 101 = some [(0, 0), (1, 0)])
    ∧ (partsT Try.prog 101 = some fun i => ([(0, 1), (1, 1)] : List (Nat × Nat))[i]?)
    ∧ (szT Try.prog 121 = some 2)
    ∧ (rowT Try.prog 121 = some true)
    ∧ (byT Try.prog 121 = some 32)
    ∧ (zeroT Try.prog 121 = some (.agg #[.int .i64 0, .slice none 0 0]))
    ∧ (fldT Try.prog 121 0 = some (0, 3))
    ∧ (fldT Try.prog 121 1 = some (1, 40))
    ∧ (partsT Try.prog 121 = some fun i => ([(0, 1), (1, 1)] : List (Nat × Nat))[i]?)
    ∧ (szT Try.prog 87 = some 3)
    ∧ (rowT Try.prog 87 = some true)
    ∧ (byT Try.prog 87 = some 24)
    ∧ (zeroT Try.prog 87 = some (.agg #[.int .i64 0, .int .i64 0, .int .i64 0]))
    ∧ (fldT Try.prog 87 0 = some (0, 3))
    ∧ (fldT Try.prog 87 1 = some (1, 3))
    ∧ (fldT Try.prog 87 2 = some (2, 3))
    ∧ (eqTab Try.prog 87 = some [(0, 0), (1, 0), (2, 0)])
    ∧ (partsT Try.prog 87 = some fun i => ([(0, 1), (1, 1), (2, 1)] : List (Nat × Nat))[i]?)
    ∧ (szT Try.prog 110 = some 2)
    ∧ (rowT Try.prog 110 = some true)
    ∧ (byT Try.prog 110 = some 16)
    ∧ (zeroT Try.prog 110 = some (.agg #[.int .i64 0, .int .i64 0]))
    ∧ (fldT Try.prog 110 0 = some (0, 3))
    ∧ (fldT Try.prog 110 1 = some (1, 3))
    ∧ (eqTab Try.prog 110 = some [(0, 0), (1, 0)])
    ∧ (partsT Try.prog 110 = some fun i => ([(0, 1), (1, 1)] : List (Nat × Nat))[i]?)
    ∧ (szT Try.prog 95 = some 2)
    ∧ (rowT Try.prog 95 = some true)
    ∧ (byT Try.prog 95 = some 24)
    ∧ (zeroT Try.prog 95 = some (.agg #[.string .empty, .int .i64 0]))
    ∧ (fldT Try.prog 95 0 = some (0, 9))
    ∧ (fldT Try.prog 95 1 = some (1, 3))
    ∧ (eqTab Try.prog 95 = some [(0, 2), (1, 0)])
    ∧ (partsT Try.prog 95 = some fun i => ([(0, 1), (1, 1)] : List (Nat × Nat))[i]?)
    ∧ (szT Try.prog 139 = some 3)
    ∧ (rowT Try.prog 139 = some true)
    ∧ (byT Try.prog 139 = some 40)
    ∧ (zeroT Try.prog 139 = some (.agg #[.slice none 0 0, .int .i64 0, .int .i64 0]))
    ∧ (fldT Try.prog 139 0 = some (0, 79))
    ∧ (fldT Try.prog 139 1 = some (1, 3))
    ∧ (fldT Try.prog 139 2 = some (2, 3))
    ∧ (partsT Try.prog 139 = some fun i => ([(0, 1), (1, 1), (2, 1)] : List (Nat × Nat))[i]?)
    ∧ (szT Try.prog 37 = some 1)
    ∧ (rowT Try.prog 37 = some false)
    ∧ (byT Try.prog 37 = some 24)
    ∧ (zeroT Try.prog 37 = some (.slice none 0 0))
    ∧ (elT Try.prog 37 = some 3)
    ∧ (arT Try.prog 37 = none)
    ∧ (isStrT Try.prog 37 = false)
    ∧ (szT Try.prog 79 = some 1)
    ∧ (rowT Try.prog 79 = some false)
    ∧ (byT Try.prog 79 = some 24)
    ∧ (zeroT Try.prog 79 = some (.slice none 0 0))
    ∧ (elT Try.prog 79 = some 5)
    ∧ (arT Try.prog 79 = none)
    ∧ (isStrT Try.prog 79 = false)
    ∧ (szT Try.prog 40 = some 1)
    ∧ (rowT Try.prog 40 = some false)
    ∧ (byT Try.prog 40 = some 24)
    ∧ (zeroT Try.prog 40 = some (.slice none 0 0))
    ∧ (elT Try.prog 40 = some 101)
    ∧ (arT Try.prog 40 = none)
    ∧ (isStrT Try.prog 40 = false)
    ∧ (szT Try.prog 61 = some 1)
    ∧ (rowT Try.prog 61 = some false)
    ∧ (byT Try.prog 61 = some 24)
    ∧ (zeroT Try.prog 61 = some (.slice none 0 0))
    ∧ (elT Try.prog 61 = some 121)
    ∧ (arT Try.prog 61 = none)
    ∧ (isStrT Try.prog 61 = false)
    ∧ (szT Try.prog 25 = some 1)
    ∧ (rowT Try.prog 25 = some false)
    ∧ (byT Try.prog 25 = some 24)
    ∧ (zeroT Try.prog 25 = some (.slice none 0 0))
    ∧ (elT Try.prog 25 = some 87)
    ∧ (arT Try.prog 25 = none)
    ∧ (isStrT Try.prog 25 = false)
    ∧ (szT Try.prog 49 = some 1)
    ∧ (rowT Try.prog 49 = some false)
    ∧ (byT Try.prog 49 = some 24)
    ∧ (zeroT Try.prog 49 = some (.slice none 0 0))
    ∧ (elT Try.prog 49 = some 110)
    ∧ (arT Try.prog 49 = none)
    ∧ (isStrT Try.prog 49 = false)
    ∧ (szT Try.prog 32 = some 1)
    ∧ (rowT Try.prog 32 = some false)
    ∧ (byT Try.prog 32 = some 24)
    ∧ (zeroT Try.prog 32 = some (.slice none 0 0))
    ∧ (elT Try.prog 32 = some 95)
    ∧ (arT Try.prog 32 = none)
    ∧ (isStrT Try.prog 32 = false)
    ∧ (szT Try.prog 125 = some 10)
    ∧ (rowT Try.prog 125 = some true)
    ∧ (byT Try.prog 125 = some 80)
    ∧ (zeroT Try.prog 125 = some (.agg #[.int .i64 0, .int .i64 0, .int .i64 0, .int .i64 0, .int .i64 0, .int .i64 0, .int .i64 0, .int .i64 0, .int .i64 0, .int .i64 0]))
    ∧ (arT Try.prog 125 = some (10, 3))
    ∧ (partsT Try.prog 125 = some fun i => some (i * 1, 1))
    := by
  refine ⟨trivial
    , by kernel_rfl
    , by kernel_rfl
    , by kernel_rfl
    , by kernel_rfl
    , by kernel_rfl
    , by kernel_rfl
    , by kernel_rfl
    , by kernel_rfl
    , by kernel_rfl
    , by kernel_rfl
    , by kernel_rfl
    , by kernel_rfl
    , by kernel_rfl
    , by kernel_rfl
    , by kernel_rfl
    , by kernel_rfl
    , by kernel_rfl
    , by kernel_rfl
    , by kernel_rfl
    , by kernel_rfl
    , by kernel_rfl
    , by kernel_rfl
    , by kernel_rfl
    , by kernel_rfl
    , by kernel_rfl
    , by kernel_rfl
    , by kernel_rfl
    , by kernel_rfl
    , by kernel_rfl
    , by kernel_rfl
    , by kernel_rfl
    , by kernel_rfl
    , by kernel_rfl
    , by kernel_rfl
    , by kernel_rfl
    , by kernel_rfl
    , by kernel_rfl
    , by kernel_rfl
    , by kernel_rfl
    , by kernel_rfl
    , by kernel_rfl
    , by kernel_rfl
    , by kernel_rfl
    , by kernel_rfl
    , by kernel_rfl
    , by kernel_rfl
    , by kernel_rfl
    , by kernel_rfl
    , by kernel_rfl
    , by kernel_rfl
    , by kernel_rfl
    , by kernel_rfl
    , by kernel_rfl
    , by kernel_rfl
    , by kernel_rfl
    , by kernel_rfl
    , by kernel_rfl
    , by kernel_rfl
    , by kernel_rfl
    , by kernel_rfl
    , by kernel_rfl
    , by kernel_rfl
    , by kernel_rfl
    , by kernel_rfl
    , by kernel_rfl
    , by kernel_rfl
    , by kernel_rfl
    , by kernel_rfl
    , by kernel_rfl
    , by kernel_rfl
    , by kernel_rfl
    , by kernel_rfl
    , by kernel_rfl
    , by kernel_rfl
    , by kernel_rfl
    , by kernel_rfl
    , by kernel_rfl
    , by kernel_rfl
    , by kernel_rfl
    , by kernel_rfl
    , by kernel_rfl
    , by kernel_rfl
    , by kernel_rfl
    , by kernel_rfl
    , by kernel_rfl
    , by kernel_rfl
    , by kernel_rfl
    , by kernel_rfl
    , by kernel_rfl
    , by kernel_rfl
    , by kernel_rfl
    , by kernel_rfl
    , by kernel_rfl
    , by kernel_rfl
    , by kernel_rfl
    , by kernel_rfl
    , by kernel_rfl
    , by kernel_rfl
    , by kernel_rfl
    , by kernel_rfl
    , by kernel_rfl
    , by kernel_rfl
    , by kernel_rfl
    , by kernel_rfl
    , by kernel_rfl
    , by kernel_rfl
    , by kernel_rfl
    , by kernel_rfl
    , by kernel_rfl
    , by kernel_rfl
    , by kernel_rfl
    , by kernel_rfl
    , by kernel_rfl
    , by kernel_rfl
    , by kernel_rfl
    , by kernel_rfl
    , by kernel_rfl
    , by kernel_rfl
    , by kernel_rfl
    , by kernel_rfl
    , by kernel_rfl
    , by kernel_rfl
    , by kernel_rfl
    , by kernel_rfl
    , by kernel_rfl
    , by kernel_rfl
    , by kernel_rfl
    , by kernel_rfl
    , by kernel_rfl
    , by kernel_rfl
    , by kernel_rfl
    , by kernel_rfl
    , by kernel_rfl
    , by kernel_rfl
    , by kernel_rfl
    , by kernel_rfl
    , by kernel_rfl
    ⟩

end Go.Proofs.Ytfnjkoimejkhlaa
