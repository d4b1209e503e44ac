/-
  What the table of types says.
-/
import Derived.Test.YteaohgacgcjkjaaEv3
import Derived.Test.YteaohgacgcjkjaaProg
namespace Go.Proofs.Yteaohgacgcjkjaa
set_option maxRecDepth 100000
set_option linter.unusedVariables false
set_option linter.unusedSimpArgs false
open Go Go.RowKit

theorem TY : True
    ∧ (szT Try.prog 3 = some 1)
    ∧ (rowT Try.prog 3 = some false)
    ∧ (byT Try.prog 3 = some 8)
    ∧ (zeroT Try.prog 3 = some (.int .i64 0))
    ∧ (intT Try.prog 3 = some .i64)
    ∧ (Try.prog.underlying 3 = some (.int .i64))
    ∧ (szT Try.prog 9 = some 1)
    ∧ (rowT Try.prog 9 = some false)
    ∧ (byT Try.prog 9 = some 16)
    ∧ (zeroT Try.prog 9 = some (.string .empty))
    ∧ (isStrT Try.prog 9 = true)
    ∧ (arT Try.prog 9 = none)
    ∧ (szT Try.prog 4 = some 1)
    ∧ (rowT Try.prog 4 = some false)
    ∧ (byT Try.prog 4 = some 1)
    ∧ (zeroT Try.prog 4 = some (.bool false))
    ∧ (szT Try.prog 5 = some 1)
    ∧ (rowT Try.prog 5 = some false)
    ∧ (byT Try.prog 5 = some 1)
    ∧ (zeroT Try.prog 5 = some (.int .u8 0))
    ∧ (intT Try.prog 5 = some .u8)
    ∧ (Try.prog.underlying 5 = some (.int .u8))
    ∧ (szT Try.prog 136 = some 1)
    ∧ (rowT Try.prog 136 = some false)
    ∧ (byT Try.prog 136 = some 4)
    ∧ (zeroT Try.prog 136 = some (.int .u32 0))
    ∧ (intT Try.prog 136 = some .u32)
    ∧ (Try.prog.underlying 136 = some (.int .u32))
    ∧ (szT Try.prog 120 = some 1)
    ∧ (rowT Try.prog 120 = some false)
    ∧ (byT Try.prog 120 = some 8)
    ∧ (zeroT Try.prog 120 = some (.int .u64 0))
    ∧ (intT Try.prog 120 = some .u64)
    ∧ (Try.prog.underlying 120 = some (.int .u64))
    ∧ (szT Try.prog 70 = some 2)
    ∧ (rowT Try.prog 70 = some true)
    ∧ (byT Try.prog 70 = some 16)
    ∧ (zeroT Try.prog 70 = some (.agg #[.int .i64 0, .int .i64 0]))
    ∧ (fldT Try.prog 70 0 = some (0, 3))
    ∧ (fldT Try.prog 70 1 = some (1, 3))
    ∧ (eqTab Try.prog 70 = some [(0, 0), (1, 0)])
    ∧ (partsT Try.prog 70 = some fun i => ([(0, 1), (1, 1)] : List (Nat × Nat))[i]?)
    ∧ (szT Try.prog 93 = some 2)
    ∧ (rowT Try.prog 93 = some true)
    ∧ (byT Try.prog 93 = some 24)
    ∧ (zeroT Try.prog 93 = some (.agg #[.string .empty, .bool false]))
    ∧ (fldT Try.prog 93 0 = some (0, 9))
    ∧ (fldT Try.prog 93 1 = some (1, 4))
    ∧ (eqTab Try.prog 93 = some [(0, 2), (1, 1)])
    ∧ (partsT Try.prog 93 = some fun i => ([(0, 1), (1, 1)] : List (Nat × Nat))[i]?)
    ∧ (szT Try.prog 45 = some 6)
    ∧ (rowT Try.prog 45 = some true)
    ∧ (byT Try.prog 45 = some 80)
    ∧ (zeroT Try.prog 45 = some (.agg #[.int .i64 0, .int .i64 0, .string .empty, .string .empty, .string .empty, .string .empty]))
    ∧ (fldT Try.prog 45 0 = some (0, 3))
    ∧ (fldT Try.prog 45 1 = some (1, 3))
    ∧ (fldT Try.prog 45 2 = some (2, 9))
    ∧ (fldT Try.prog 45 3 = some (3, 9))
    ∧ (fldT Try.prog 45 4 = some (4, 9))
    ∧ (fldT Try.prog 45 5 = some (5, 9))
    ∧ (eqTab Try.prog 45 = some [(0, 0), (1, 0), (2, 2), (3, 2), (4, 2), (5, 2)])
    ∧ (partsT Try.prog 45 = some fun i => ([(0, 1), (1, 1), (2, 1), (3, 1), (4, 1), (5, 1)] : List (Nat × Nat))[i]?)
    ∧ (szT Try.prog 43 = some 3)
    ∧ (rowT Try.prog 43 = some true)
    ∧ (byT Try.prog 43 = some 24)
    ∧ (zeroT Try.prog 43 = some (.agg #[.int .i64 0, .int .i64 0, .int .i64 0]))
    ∧ (fldT Try.prog 43 0 = some (0, 3))
    ∧ (fldT Try.prog 43 1 = some (1, 3))
    ∧ (fldT Try.prog 43 2 = some (2, 3))
    ∧ (eqTab Try.prog 43 = some [(0, 0), (1, 0), (2, 0)])
    ∧ (partsT Try.prog 43 = some fun i => ([(0, 1), (1, 1), (2, 1)] : List (Nat × Nat))[i]?)
    ∧ (szT Try.prog 90 = some 2)
    ∧ (rowT Try.prog 90 = some true)
    ∧ (byT Try.prog 90 = some 16)
    ∧ (zeroT Try.prog 90 = some (.agg #[.int .i64 0, .int .i64 0]))
    ∧ (fldT Try.prog 90 0 = some (0, 3))
    ∧ (fldT Try.prog 90 1 = some (1, 3))
    ∧ (eqTab Try.prog 90 = some [(0, 0), (1, 0)])
    ∧ (partsT Try.prog 90 = some fun i => ([(0, 1), (1, 1)] : List (Nat × Nat))[i]?)
    ∧ (szT Try.prog 65 = some 2)
    ∧ (rowT Try.prog 65 = some true)
    ∧ (byT Try.prog 65 = some 32)
    ∧ (zeroT Try.prog 65 = some (.agg #[.int .i64 0, .slice none 0 0]))
    ∧ (fldT Try.prog 65 0 = some (0, 3))
    ∧ (fldT Try.prog 65 1 = some (1, 31))
    ∧ (partsT Try.prog 65 = some fun i => ([(0, 1), (1, 1)] : List (Nat × Nat))[i]?)
    ∧ (szT Try.prog 48 = some 12)
    ∧ (rowT Try.prog 48 = some true)
    ∧ (byT Try.prog 48 = some 144)
    ∧ (zeroT Try.prog 48 = some (.agg #[.int .i64 0, .int .i64 0, .int .i64 0, .int .i64 0, .int .i64 0, .int .i64 0, .int .i64 0, .string .empty, .string .empty, .string .empty, .string .empty, .slice none 0 0]))
    ∧ (fldT Try.prog 48 0 = some (0, 3))
    ∧ (fldT Try.prog 48 1 = some (1, 3))
    ∧ (fldT Try.prog 48 2 = some (2, 43))
    ∧ (fldT Try.prog 48 3 = some (5, 45))
    ∧ (fldT Try.prog 48 4 = some (11, 46))
    ∧ (partsT Try.prog 48 = some fun i => ([(0, 1), (1, 1), (2, 3), (5, 6), (11, 1)] : List (Nat × Nat))[i]?)
    ∧ (szT Try.prog 109 = some 3)
    ∧ (rowT Try.prog 109 = some true)
    ∧ (byT Try.prog 109 = some 40)
    ∧ (zeroT Try.prog 109 = some (.agg #[.slice none 0 0, .int .i64 0, .int .i64 0]))
    ∧ (fldT Try.prog 109 0 = some (0, 29))
    ∧ (fldT Try.prog 109 1 = some (1, 3))
    ∧ (fldT Try.prog 109 2 = some (2, 3))
    ∧ (partsT Try.prog 109 = some fun i => ([(0, 1), (1, 1), (2, 1)] : List (Nat × Nat))[i]?)
    ∧ (szT Try.prog 125 = some 2)
    ∧ (rowT Try.prog 125 = some true)
    ∧ (byT Try.prog 125 = some 16)
    ∧ (zeroT Try.prog 125 = some (.agg #[.int .i64 0, .int .i64 0]))
    ∧ (fldT Try.prog 125 0 = some (0, 3))
    ∧ (fldT Try.prog 125 1 = some (1, 3))
    ∧ (eqTab Try.prog 125 = some [(0, 0), (1, 0)])
    ∧ (partsT Try.prog 125 = some fun i => ([(0, 1), (1, 1)] : List (Nat × Nat))[i]?)
    ∧ (szT Try.prog 62 = some 2)
    ∧ (rowT Try.prog 62 = some true)
    ∧ (byT Try.prog 62 = some 32)
    ∧ (zeroT Try.prog 62 = some (.agg #[.int .i64 0, .slice none 0 0]))
    ∧ (fldT Try.prog 62 0 = some (0, 3))
    ∧ (fldT Try.prog 62 1 = some (1, 60))
    ∧ (partsT Try.prog 62 = some fun i => ([(0, 1), (1, 1)] : List (Nat × Nat))[i]?)
    ∧ (szT Try.prog 76 = some 1)
    ∧ (rowT Try.prog 76 = some false)
    ∧ (byT Try.prog 76 = some 24)
    ∧ (zeroT Try.prog 76 = some (.slice none 0 0))
    ∧ (elT Try.prog 76 = some 3)
    ∧ (arT Try.prog 76 = none)
    ∧ (isStrT Try.prog 76 = false)
    ∧ (szT Try.prog 29 = some 1)
    ∧ (rowT Try.prog 29 = some false)
    ∧ (byT Try.prog 29 = some 24)
    ∧ (zeroT Try.prog 29 = some (.slice none 0 0))
    ∧ (elT Try.prog 29 = some 5)
    ∧ (arT Try.prog 29 = none)
    ∧ (isStrT Try.prog 29 = false)
    ∧ (szT Try.prog 31 = some 1)
    ∧ (rowT Try.prog 31 = some false)
    ∧ (byT Try.prog 31 = some 24)
    ∧ (zeroT Try.prog 31 = some (.slice none 0 0))
    ∧ (elT Try.prog 31 = some 70)
    ∧ (arT Try.prog 31 = none)
    ∧ (isStrT Try.prog 31 = false)
    ∧ (szT Try.prog 46 = some 1)
    ∧ (rowT Try.prog 46 = some false)
    ∧ (byT Try.prog 46 = some 24)
    ∧ (zeroT Try.prog 46 = some (.slice none 0 0))
    ∧ (elT Try.prog 46 = some 90)
    ∧ (arT Try.prog 46 = none)
    ∧ (isStrT Try.prog 46 = false)
    ∧ (szT Try.prog 25 = some 1)
    ∧ (rowT Try.prog 25 = some false)
    ∧ (byT Try.prog 25 = some 24)
    ∧ (zeroT Try.prog 25 = some (.slice none 0 0))
    ∧ (elT Try.prog 25 = some 65)
    ∧ (arT Try.prog 25 = none)
    ∧ (isStrT Try.prog 25 = false)
    ∧ (szT Try.prog 60 = some 1)
    ∧ (rowT Try.prog 60 = some false)
    ∧ (byT Try.prog 60 = some 24)
    ∧ (zeroT Try.prog 60 = some (.slice none 0 0))
    ∧ (elT Try.prog 60 = some 125)
    ∧ (arT Try.prog 60 = none)
    ∧ (isStrT Try.prog 60 = false)
    ∧ (szT Try.prog 22 = some 1)
    ∧ (rowT Try.prog 22 = some false)
    ∧ (byT Try.prog 22 = some 24)
    ∧ (zeroT Try.prog 22 = some (.slice none 0 0))
    ∧ (elT Try.prog 22 = some 62)
    ∧ (arT Try.prog 22 = none)
    ∧ (isStrT Try.prog 22 = false)
    := by
  refine ⟨trivial
    , by kernel_rfl
    , by kernel_rfl
    , by kernel_rfl
    , by kernel_rfl
    , by kernel_rfl
    , by kernel_rfl
    , by kernel_rfl
    , by kernel_rfl
    , by kernel_rfl
    , by kernel_rfl
    , by kernel_rfl
    , by kernel_rfl
    , by kernel_rfl
    , by kernel_rfl
    , by kernel_rfl
    , by kernel_rfl
    , by kernel_rfl
    , by kernel_rfl
    , by kernel_rfl
    , by kernel_rfl
    , by kernel_rfl
    , by kernel_rfl
    , by kernel_rfl
    , by kernel_rfl
    , by kernel_rfl
    , by kernel_rfl
    , by kernel_rfl
    , by kernel_rfl
    , by kernel_rfl
    , by kernel_rfl
    , by kernel_rfl
    , by kernel_rfl
    , by kernel_rfl
    , by kernel_rfl
    , by kernel_rfl
    , by kernel_rfl
    , by kernel_rfl
    , by kernel_rfl
    , by kernel_rfl
    , by kernel_rfl
    , by kernel_rfl
    , by kernel_rfl
    , by kernel_rfl
    , by kernel_rfl
    , by kernel_rfl
    , by kernel_rfl
    , by kernel_rfl
    , by kernel_rfl
    , by kernel_rfl
    , by kernel_rfl
    , by kernel_rfl
    , by kernel_rfl
    , by kernel_rfl
    , by kernel_rfl
    , by kernel_rfl
    , by kernel_rfl
    , by kernel_rfl
    , by kernel_rfl
    , by kernel_rfl
    , by kernel_rfl
    , by kernel_rfl
    , by kernel_rfl
    , by kernel_rfl
    , by kernel_rfl
    , by kernel_rfl
    , by kernel_rfl
    , by kernel_rfl
    , by kernel_rfl
    , by kernel_rfl
    , by kernel_rfl
    , by kernel_rfl
    , by kernel_rfl
    , by kernel_rfl
    , by kernel_rfl
    , by kernel_rfl
    , by kernel_rfl
    , by kernel_rfl
    , by kernel_rfl
    , by kernel_rfl
    , by kernel_rfl
    , by kernel_rfl
    , by kernel_rfl
    , by kernel_rfl
    , by kernel_rfl
    , by kernel_rfl
    , by kernel_rfl
    , by kernel_rfl
    , by kernel_rfl
    , by kernel_rfl
    , by kernel_rfl
    , by kernel_rfl
    , by kernel_rfl
    , by kernel_rfl
    , by kernel_rfl
    , by kernel_rfl
    , by kernel_rfl
    , by kernel_rfl
    , by kernel_rfl
    , by kernel_rfl
    , by kernel_rfl
    , by kernel_rfl
    , by kernel_rfl
    , by kernel_rfl
    , by kernel_rfl
    , by kernel_rfl
    , by kernel_rfl
    , by kernel_rfl
    , by kernel_rfl
    , by kernel_rfl
    , by kernel_rfl
    , by kernel_rfl
    , by kernel_rfl
    , by kernel_rfl
    , by kernel_rfl
    , by kernel_rfl
    , by kernel_rfl
    , by kernel_rfl
    , by kernel_rfl
    , by kernel_rfl
    , by kernel_rfl
    , by kernel_rfl
    , by kernel_rfl
    , by kernel_rfl
    , by kernel_rfl
    , by kernel_rfl
    , by kernel_rfl
    , by kernel_rfl
    , by kernel_rfl
    , by kernel_rfl
    , by kernel_rfl
    , by kernel_rfl
    , by kernel_rfl
    , by kernel_rfl
    , by kernel_rfl
    , by kernel_rfl
    , by kernel_rfl
    , by kernel_rfl
    , by kernel_rfl
    , by kernel_rfl
    , by kernel_rfl
    , by kernel_rfl
    , by kernel_rfl
    , by kernel_rfl
    , by kernel_rfl
    , by kernel_rfl
    , by kernel_rfl
    , by kernel_rfl
    , by kernel_rfl
    , by kernel_rfl
    , by kernel_rfl
    , by kernel_rfl
    , by kernel_rfl
    , by kernel_rfl
    , by kernel_rfl
    , by kernel_rfl
    , by kernel_rfl
    , by kernel_rfl
    , by kernel_rfl
    , by kernel_rfl
    , by kernel_rfl
    , by kernel_rfl
    , by kernel_rfl
    , by kernel_rfl
    , by kernel_rfl
    , by kernel_rfl
    , by kernel_rfl
    , by kernel_rfl
    , by kernel_rfl
    ⟩

end Go.Proofs.Yteaohgacgcjkjaa
