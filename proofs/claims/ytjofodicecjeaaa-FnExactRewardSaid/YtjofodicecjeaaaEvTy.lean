/-
  What the table of types says.
-/
import Derived.Test.YtjofodicecjeaaaEv3
import Derived.Test.YtjofodicecjeaaaProg
namespace Go.Proofs.Ytjofodicecjeaaa
set_option maxRecDepth 100000
set_option linter.unusedVariables false
set_option linter.unusedSimpArgs false
open Go Go.RowKit

theorem TY : True
    ∧ (szT Try.prog 3 = some 1)
    ∧ (rowT Try.prog 3 = some false)
    ∧ (byT Try.prog 3 = some 8)
    ∧ (zeroT Try.prog 3 = some (.int .i64 0))
    ∧ (intT Try.prog 3 = some .i64)
    ∧ (Try.prog.underlying 3 = some (.int .i64))
    ∧ (szT Try.prog 9 = some 1)
    ∧ (rowT Try.prog 9 = some false)
    ∧ (byT Try.prog 9 = some 16)
    ∧ (zeroT Try.prog 9 = some (.string .empty))
    ∧ (isStrT Try.prog 9 = true)
    ∧ (arT Try.prog 9 = none)
    ∧ (szT Try.prog 4 = some 1)
    ∧ (rowT Try.prog 4 = some false)
    ∧ (byT Try.prog 4 = some 1)
    ∧ (zeroT Try.prog 4 = some (.bool false))
    ∧ (szT Try.prog 5 = some 1)
    ∧ (rowT Try.prog 5 = some false)
    ∧ (byT Try.prog 5 = some 1)
    ∧ (zeroT Try.prog 5 = some (.int .u8 0))
    ∧ (intT Try.prog 5 = some .u8)
    ∧ (Try.prog.underlying 5 = some (.int .u8))
    ∧ (szT Try.prog 200 = some 1)
    ∧ (rowT Try.prog 200 = some false)
    ∧ (byT Try.prog 200 = some 4)
    ∧ (zeroT Try.prog 200 = some (.int .u32 0))
    ∧ (intT Try.prog 200 = some .u32)
    ∧ (Try.prog.underlying 200 = some (.int .u32))
    ∧ (szT Try.prog 177 = some 1)
    ∧ (rowT Try.prog 177 = some false)
    ∧ (byT Try.prog 177 = some 8)
    ∧ (zeroT Try.prog 177 = some (.int .u64 0))
    ∧ (intT Try.prog 177 = some .u64)
    ∧ (Try.prog.underlying 177 = some (.int .u64))
    ∧ (szT Try.prog 106 = some 2)
    ∧ (rowT Try.prog 106 = some true)
    ∧ (byT Try.prog 106 = some 16)
    ∧ (zeroT Try.prog 106 = some (.agg #[.int .i64 0, .int .i64 0]))
    ∧ (fldT Try.prog 106 0 = some (0, 3))
    ∧ (fldT Try.prog 106 1 = some (1, 3))
    ∧ (eqTab Try.prog 106 = some [(0, 0), (1, 0)])
    ∧ (partsT Try.prog 106 = some fun i => ([(0, 1), (1, 1)] : List (Nat × Nat))[i]?)
    ∧ (szT Try.prog 144 = some 2)
    ∧ (rowT Try.prog 144 = some true)
    ∧ (byT Try.prog 144 = some 24)
    ∧ (zeroT Try.prog 144 = some (.agg #[.string .empty, .bool false]))
    ∧ (fldT Try.prog 144 0 = some (0, 9))
    ∧ (fldT Try.prog 144 1 = some (1, 4))
    ∧ (eqTab Try.prog 144 = some [(0, 2), (1, 1)])
    ∧ (partsT Try.prog 144 = some fun i => ([(0, 1), (1, 1)] : List (Nat × Nat))[i]?)
    ∧ (szT Try.prog 59 = some 6)
    ∧ (rowT Try.prog 59 = some true)
    ∧ (byT Try.prog 59 = some 80)
    ∧ (zeroT Try.prog 59 = some (.agg #[.int .i64 0, .int .i64 0, .string .empty, .string .empty, .string .empty, .string .empty]))
    ∧ (fldT Try.prog 59 0 = some (0, 3))
    ∧ (fldT Try.prog 59 1 = some (1, 3))
    ∧ (fldT Try.prog 59 2 = some (2, 9))
    ∧ (fldT Try.prog 59 3 = some (3, 9))
    ∧ (fldT Try.prog 59 4 = some (4, 9))
    ∧ (fldT Try.prog 59 5 = some (5, 9))
    ∧ (eqTab Try.prog 59 = some [(0, 0), (1, 0), (2, 2), (3, 2), (4, 2), (5, 2)])
    ∧ (partsT Try.prog 59 = some fun i => ([(0, 1), (1, 1), (2, 1), (3, 1), (4, 1), (5, 1)] : List (Nat × Nat))[i]?)
    ∧ (szT Try.prog 58 = some 3)
    ∧ (rowT Try.prog 58 = some true)
    ∧ (byT Try.prog 58 = some 24)
    ∧ (zeroT Try.prog 58 = some (.agg #[.int .i64 0, .int .i64 0, .int .i64 0]))
    ∧ (fldT Try.prog 58 0 = some (0, 3))
    ∧ (fldT Try.prog 58 1 = some (1, 3))
    ∧ (fldT Try.prog 58 2 = some (2, 3))
    ∧ (eqTab Try.prog 58 = some [(0, 0), (1, 0), (2, 0)])
    ∧ (partsT Try.prog 58 = some fun i => ([(0, 1), (1, 1), (2, 1)] : List (Nat × Nat))[i]?)
    ∧ (szT Try.prog 135 = some 2)
    ∧ (rowT Try.prog 135 = some true)
    ∧ (byT Try.prog 135 = some 16)
    ∧ (zeroT Try.prog 135 = some (.agg #[.int .i64 0, .int .i64 0]))
    ∧ (fldT Try.prog 135 0 = some (0, 3))
    ∧ (fldT Try.prog 135 1 = some (1, 3))
    ∧ (eqTab Try.prog 135 = some [(0, 0), (1, 0)])
    ∧ (partsT Try.prog 135 = some fun i => ([(0, 1), (1, 1)] : List (Nat × Nat))[i]?)
    ∧ (szT Try.prog 101 = some 2)
    ∧ (rowT Try.prog 101 = some true)
    ∧ (byT Try.prog 101 = some 32)
    ∧ (zeroT Try.prog 101 = some (.agg #[.int .i64 0, .slice none 0 0]))
    ∧ (fldT Try.prog 101 0 = some (0, 3))
    ∧ (fldT Try.prog 101 1 = some (1, 29))
    ∧ (partsT Try.prog 101 = some fun i => ([(0, 1), (1, 1)] : List (Nat × Nat))[i]?)
    ∧ (szT Try.prog 80 = some 3)
    ∧ (rowT Try.prog 80 = some true)
    ∧ (byT Try.prog 80 = some 24)
    ∧ (zeroT Try.prog 80 = some (.agg #[.int .i64 0, .int .i64 0, .int .i64 0]))
    ∧ (fldT Try.prog 80 0 = some (0, 3))
    ∧ (fldT Try.prog 80 1 = some (1, 3))
    ∧ (fldT Try.prog 80 2 = some (2, 3))
    ∧ (eqTab Try.prog 80 = some [(0, 0), (1, 0), (2, 0)])
    ∧ (partsT Try.prog 80 = some fun i => ([(0, 1), (1, 1), (2, 1)] : List (Nat × Nat))[i]?)
    ∧ (szT Try.prog 160 = some 2)
    ∧ (rowT Try.prog 160 = some true)
    ∧ (byT Try.prog 160 = some 16)
    ∧ (zeroT Try.prog 160 = some (.agg #[.int .i64 0, .int .i64 0]))
    ∧ (fldT Try.prog 160 0 = some (0, 3))
    ∧ (fldT Try.prog 160 1 = some (1, 3))
    ∧ (eqTab Try.prog 160 = some [(0, 0), (1, 0)])
    ∧ (partsT Try.prog 160 = some fun i => ([(0, 1), (1, 1)] : List (Nat × Nat))[i]?)
    ∧ (szT Try.prog 62 = some 12)
    ∧ (rowT Try.prog 62 = some true)
    ∧ (byT Try.prog 62 = some 144)
    ∧ (zeroT Try.prog 62 = some (.agg #[.int .i64 0, .int .i64 0, .int .i64 0, .int .i64 0, .int .i64 0, .int .i64 0, .int .i64 0, .string .empty, .string .empty, .string .empty, .string .empty, .slice none 0 0]))
    ∧ (fldT Try.prog 62 0 = some (0, 3))
    ∧ (fldT Try.prog 62 1 = some (1, 3))
    ∧ (fldT Try.prog 62 2 = some (2, 58))
    ∧ (fldT Try.prog 62 3 = some (5, 59))
    ∧ (fldT Try.prog 62 4 = some (11, 60))
    ∧ (partsT Try.prog 62 = some fun i => ([(0, 1), (1, 1), (2, 3), (5, 6), (11, 1)] : List (Nat × Nat))[i]?)
    ∧ (szT Try.prog 170 = some 3)
    ∧ (rowT Try.prog 170 = some true)
    ∧ (byT Try.prog 170 = some 40)
    ∧ (zeroT Try.prog 170 = some (.agg #[.slice none 0 0, .int .i64 0, .int .i64 0]))
    ∧ (fldT Try.prog 170 0 = some (0, 43))
    ∧ (fldT Try.prog 170 1 = some (1, 3))
    ∧ (fldT Try.prog 170 2 = some (2, 3))
    ∧ (partsT Try.prog 170 = some fun i => ([(0, 1), (1, 1), (2, 1)] : List (Nat × Nat))[i]?)
    ∧ (szT Try.prog 112 = some 2)
    ∧ (rowT Try.prog 112 = some true)
    ∧ (byT Try.prog 112 = some 16)
    ∧ (zeroT Try.prog 112 = some (.agg #[.int .i64 0, .int .i64 0]))
    ∧ (fldT Try.prog 112 0 = some (0, 3))
    ∧ (fldT Try.prog 112 1 = some (1, 3))
    ∧ (eqTab Try.prog 112 = some [(0, 0), (1, 0)])
    ∧ (partsT Try.prog 112 = some fun i => ([(0, 1), (1, 1)] : List (Nat × Nat))[i]?)
    ∧ (szT Try.prog 52 = some 6)
    ∧ (rowT Try.prog 52 = some true)
    ∧ (byT Try.prog 52 = some 80)
    ∧ (zeroT Try.prog 52 = some (.agg #[.int .i64 0, .int .i64 0, .string .empty, .string .empty, .string .empty, .string .empty]))
    ∧ (fldT Try.prog 52 0 = some (0, 3))
    ∧ (fldT Try.prog 52 1 = some (1, 3))
    ∧ (fldT Try.prog 52 2 = some (2, 9))
    ∧ (fldT Try.prog 52 3 = some (3, 9))
    ∧ (fldT Try.prog 52 4 = some (4, 9))
    ∧ (fldT Try.prog 52 5 = some (5, 9))
    ∧ (eqTab Try.prog 52 = some [(0, 0), (1, 0), (2, 2), (3, 2), (4, 2), (5, 2)])
    ∧ (partsT Try.prog 52 = some fun i => ([(0, 1), (1, 1), (2, 1), (3, 1), (4, 1), (5, 1)] : List (Nat × Nat))[i]?)
    ∧ (szT Try.prog 50 = some 3)
    ∧ (rowT Try.prog 50 = some true)
    ∧ (byT Try.prog 50 = some 24)
    ∧ (zeroT Try.prog 50 = some (.agg #[.int .i64 0, .int .i64 0, .int .i64 0]))
    ∧ (fldT Try.prog 50 0 = some (0, 3))
    ∧ (fldT Try.prog 50 1 = some (1, 3))
    ∧ (fldT Try.prog 50 2 = some (2, 3))
    ∧ (eqTab Try.prog 50 = some [(0, 0), (1, 0), (2, 0)])
    ∧ (partsT Try.prog 50 = some fun i => ([(0, 1), (1, 1), (2, 1)] : List (Nat × Nat))[i]?)
    ∧ (szT Try.prog 174 = some 2)
    ∧ (rowT Try.prog 174 = some true)
    ∧ (byT Try.prog 174 = some 16)
    ∧ (zeroT Try.prog 174 = some (.agg #[.int .i64 0, .int .i64 0]))
    ∧ (fldT Try.prog 174 0 = some (0, 3))
    ∧ (fldT Try.prog 174 1 = some (1, 3))
    ∧ (eqTab Try.prog 174 = some [(0, 0), (1, 0)])
    ∧ (partsT Try.prog 174 = some fun i => ([(0, 1), (1, 1)] : List (Nat × Nat))[i]?)
    ∧ (szT Try.prog 98 = some 2)
    ∧ (rowT Try.prog 98 = some true)
    ∧ (byT Try.prog 98 = some 32)
    ∧ (zeroT Try.prog 98 = some (.agg #[.int .i64 0, .slice none 0 0]))
    ∧ (fldT Try.prog 98 0 = some (0, 3))
    ∧ (fldT Try.prog 98 1 = some (1, 36))
    ∧ (partsT Try.prog 98 = some fun i => ([(0, 1), (1, 1)] : List (Nat × Nat))[i]?)
    ∧ (szT Try.prog 74 = some 3)
    ∧ (rowT Try.prog 74 = some true)
    ∧ (byT Try.prog 74 = some 24)
    ∧ (zeroT Try.prog 74 = some (.agg #[.int .i64 0, .int .i64 0, .int .i64 0]))
    ∧ (fldT Try.prog 74 0 = some (0, 3))
    ∧ (fldT Try.prog 74 1 = some (1, 3))
    ∧ (fldT Try.prog 74 2 = some (2, 3))
    ∧ (eqTab Try.prog 74 = some [(0, 0), (1, 0), (2, 0)])
    ∧ (partsT Try.prog 74 = some fun i => ([(0, 1), (1, 1), (2, 1)] : List (Nat × Nat))[i]?)
    ∧ (szT Try.prog 162 = some 2)
    ∧ (rowT Try.prog 162 = some true)
    ∧ (byT Try.prog 162 = some 16)
    ∧ (zeroT Try.prog 162 = some (.agg #[.int .i64 0, .int .i64 0]))
    ∧ (fldT Try.prog 162 0 = some (0, 3))
    ∧ (fldT Try.prog 162 1 = some (1, 3))
    ∧ (eqTab Try.prog 162 = some [(0, 0), (1, 0)])
    ∧ (partsT Try.prog 162 = some fun i => ([(0, 1), (1, 1)] : List (Nat × Nat))[i]?)
    ∧ (szT Try.prog 55 = some 12)
    ∧ (rowT Try.prog 55 = some true)
    ∧ (byT Try.prog 55 = some 144)
    ∧ (zeroT Try.prog 55 = some (.agg #[.int .i64 0, .int .i64 0, .int .i64 0, .int .i64 0, .int .i64 0, .int .i64 0, .int .i64 0, .string .empty, .string .empty, .string .empty, .string .empty, .slice none 0 0]))
    ∧ (fldT Try.prog 55 0 = some (0, 3))
    ∧ (fldT Try.prog 55 1 = some (1, 3))
    ∧ (fldT Try.prog 55 2 = some (2, 50))
    ∧ (fldT Try.prog 55 3 = some (5, 52))
    ∧ (fldT Try.prog 55 4 = some (11, 53))
    ∧ (partsT Try.prog 55 = some fun i => ([(0, 1), (1, 1), (2, 3), (5, 6), (11, 1)] : List (Nat × Nat))[i]?)
    ∧ (szT Try.prog 117 = some 1)
    ∧ (rowT Try.prog 117 = some false)
    ∧ (byT Try.prog 117 = some 24)
    ∧ (zeroT Try.prog 117 = some (.slice none 0 0))
    ∧ (elT Try.prog 117 = some 3)
    ∧ (arT Try.prog 117 = none)
    ∧ (isStrT Try.prog 117 = false)
    ∧ (szT Try.prog 43 = some 1)
    ∧ (rowT Try.prog 43 = some false)
    ∧ (byT Try.prog 43 = some 24)
    ∧ (zeroT Try.prog 43 = some (.slice none 0 0))
    ∧ (elT Try.prog 43 = some 5)
    ∧ (arT Try.prog 43 = none)
    ∧ (isStrT Try.prog 43 = false)
    ∧ (szT Try.prog 29 = some 1)
    ∧ (rowT Try.prog 29 = some false)
    ∧ (byT Try.prog 29 = some 24)
    ∧ (zeroT Try.prog 29 = some (.slice none 0 0))
    ∧ (elT Try.prog 29 = some 106)
    ∧ (arT Try.prog 29 = none)
    ∧ (isStrT Try.prog 29 = false)
    ∧ (szT Try.prog 60 = some 1)
    ∧ (rowT Try.prog 60 = some false)
    ∧ (byT Try.prog 60 = some 24)
    ∧ (zeroT Try.prog 60 = some (.slice none 0 0))
    ∧ (elT Try.prog 60 = some 135)
    ∧ (arT Try.prog 60 = none)
    ∧ (isStrT Try.prog 60 = false)
    ∧ (szT Try.prog 25 = some 1)
    ∧ (rowT Try.prog 25 = some false)
    ∧ (byT Try.prog 25 = some 24)
    ∧ (zeroT Try.prog 25 = some (.slice none 0 0))
    ∧ (elT Try.prog 25 = some 101)
    ∧ (arT Try.prog 25 = none)
    ∧ (isStrT Try.prog 25 = false)
    ∧ (szT Try.prog 76 = some 1)
    ∧ (rowT Try.prog 76 = some false)
    ∧ (byT Try.prog 76 = some 24)
    ∧ (zeroT Try.prog 76 = some (.slice none 0 0))
    ∧ (elT Try.prog 76 = some 80)
    ∧ (arT Try.prog 76 = none)
    ∧ (isStrT Try.prog 76 = false)
    ∧ (szT Try.prog 89 = some 1)
    ∧ (rowT Try.prog 89 = some false)
    ∧ (byT Try.prog 89 = some 24)
    ∧ (zeroT Try.prog 89 = some (.slice none 0 0))
    ∧ (elT Try.prog 89 = some 160)
    ∧ (arT Try.prog 89 = none)
    ∧ (isStrT Try.prog 89 = false)
    ∧ (szT Try.prog 36 = some 1)
    ∧ (rowT Try.prog 36 = some false)
    ∧ (byT Try.prog 36 = some 24)
    ∧ (zeroT Try.prog 36 = some (.slice none 0 0))
    ∧ (elT Try.prog 36 = some 112)
    ∧ (arT Try.prog 36 = none)
    ∧ (isStrT Try.prog 36 = false)
    ∧ (szT Try.prog 53 = some 1)
    ∧ (rowT Try.prog 53 = some false)
    ∧ (byT Try.prog 53 = some 24)
    ∧ (zeroT Try.prog 53 = some (.slice none 0 0))
    ∧ (elT Try.prog 53 = some 174)
    ∧ (arT Try.prog 53 = none)
    ∧ (isStrT Try.prog 53 = false)
    ∧ (szT Try.prog 22 = some 1)
    ∧ (rowT Try.prog 22 = some false)
    ∧ (byT Try.prog 22 = some 24)
    ∧ (zeroT Try.prog 22 = some (.slice none 0 0))
    ∧ (elT Try.prog 22 = some 98)
    ∧ (arT Try.prog 22 = none)
    ∧ (isStrT Try.prog 22 = false)
    ∧ (szT Try.prog 72 = some 1)
    ∧ (rowT Try.prog 72 = some false)
    ∧ (byT Try.prog 72 = some 24)
    ∧ (zeroT Try.prog 72 = some (.slice none 0 0))
    ∧ (elT Try.prog 72 = some 74)
    ∧ (arT Try.prog 72 = none)
    ∧ (isStrT Try.prog 72 = false)
    ∧ (szT Try.prog 87 = some 1)
    ∧ (rowT Try.prog 87 = some false)
    ∧ (byT Try.prog 87 = some 24)
    ∧ (zeroT Try.prog 87 = some (.slice none 0 0))
    ∧ (elT Try.prog 87 = some 162)
    ∧ (arT Try.prog 87 = none)
    ∧ (isStrT Try.prog 87 = false)
    := by
  refine ⟨trivial
    , by kernel_rfl
    , by kernel_rfl
    , by kernel_rfl
    , by kernel_rfl
    , by kernel_rfl
    , by kernel_rfl
    , by kernel_rfl
    , by kernel_rfl
    , by kernel_rfl
    , by kernel_rfl
    , by kernel_rfl
    , by kernel_rfl
    , by kernel_rfl
    , by kernel_rfl
    , by kernel_rfl
    , by kernel_rfl
    , by kernel_rfl
    , by kernel_rfl
    , by kernel_rfl
    , by kernel_rfl
    , by kernel_rfl
    , by kernel_rfl
    , by kernel_rfl
    , by kernel_rfl
    , by kernel_rfl
    , by kernel_rfl
    , by kernel_rfl
    , by kernel_rfl
    , by kernel_rfl
    , by kernel_rfl
    , by kernel_rfl
    , by kernel_rfl
    , by kernel_rfl
    , by kernel_rfl
    , by kernel_rfl
    , by kernel_rfl
    , by kernel_rfl
    , by kernel_rfl
    , by kernel_rfl
    , by kernel_rfl
    , by kernel_rfl
    , by kernel_rfl
    , by kernel_rfl
    , by kernel_rfl
    , by kernel_rfl
    , by kernel_rfl
    , by kernel_rfl
    , by kernel_rfl
    , by kernel_rfl
    , by kernel_rfl
    , by kernel_rfl
    , by kernel_rfl
    , by kernel_rfl
    , by kernel_rfl
    , by kernel_rfl
    , by kernel_rfl
    , by kernel_rfl
    , by kernel_rfl
    , by kernel_rfl
    , by kernel_rfl
    , by kernel_rfl
    , by kernel_rfl
    , by kernel_rfl
    , by kernel_rfl
    , by kernel_rfl
    , by kernel_rfl
    , by kernel_rfl
    , by kernel_rfl
    , by kernel_rfl
    , by kernel_rfl
    , by kernel_rfl
    , by kernel_rfl
    , by kernel_rfl
    , by kernel_rfl
    , by kernel_rfl
    , by kernel_rfl
    , by kernel_rfl
    , by kernel_rfl
    , by kernel_rfl
    , by kernel_rfl
    , by kernel_rfl
    , by kernel_rfl
    , by kernel_rfl
    , by kernel_rfl
    , by kernel_rfl
    , by kernel_rfl
    , by kernel_rfl
    , by kernel_rfl
    , by kernel_rfl
    , by kernel_rfl
    , by kernel_rfl
    , by kernel_rfl
    , by kernel_rfl
    , by kernel_rfl
    , by kernel_rfl
    , by kernel_rfl
    , by kernel_rfl
    , by kernel_rfl
    , by kernel_rfl
    , by kernel_rfl
    , by kernel_rfl
    , by kernel_rfl
    , by kernel_rfl
    , by kernel_rfl
    , by kernel_rfl
    , by kernel_rfl
    , by kernel_rfl
    , by kernel_rfl
    , by kernel_rfl
    , by kernel_rfl
    , by kernel_rfl
    , by kernel_rfl
    , by kernel_rfl
    , by kernel_rfl
    , by kernel_rfl
    , by kernel_rfl
    , by kernel_rfl
    , by kernel_rfl
    , by kernel_rfl
    , by kernel_rfl
    , by kernel_rfl
    , by kernel_rfl
    , by kernel_rfl
    , by kernel_rfl
    , by kernel_rfl
    , by kernel_rfl
    , by kernel_rfl
    , by kernel_rfl
    , by kernel_rfl
    , by kernel_rfl
    , by kernel_rfl
    , by kernel_rfl
    , by kernel_rfl
    , by kernel_rfl
    , by kernel_rfl
    , by kernel_rfl
    , by kernel_rfl
    , by kernel_rfl
    , by kernel_rfl
    , by kernel_rfl
    , by kernel_rfl
    , by kernel_rfl
    , by kernel_rfl
    , by kernel_rfl
    , by kernel_rfl
    , by kernel_rfl
    , by kernel_rfl
    , by kernel_rfl
    , by kernel_rfl
    , by kernel_rfl
    , by kernel_rfl
    , by kernel_rfl
    , by kernel_rfl
    , by kernel_rfl
    , by kernel_rfl
    , by kernel_rfl
    , by kernel_rfl
    , by kernel_rfl
    , by kernel_rfl
    , by kernel_rfl
    , by kernel_rfl
    , by kernel_rfl
    , by kernel_rfl
    , by kernel_rfl
    , by kernel_rfl
    , by kernel_rfl
    , by kernel_rfl
    , by kernel_rfl
    , by kernel_rfl
    , by kernel_rfl
    , by kernel_rfl
    , by kernel_rfl
    , by kernel_rfl
    , by kernel_rfl
    , by kernel_rfl
    , by kernel_rfl
    , by kernel_rfl
    , by kernel_rfl
    , by kernel_rfl
    , by kernel_rfl
    , by kernel_rfl
    , by kernel_rfl
    , by kernel_rfl
    , by kernel_rfl
    , by kernel_rfl
    , by kernel_rfl
    , by kernel_rfl
    , by kernel_rfl
    , by kernel_rfl
    , by kernel_rfl
    , by kernel_rfl
    , by kernel_rfl
    , by kernel_rfl
    , by kernel_rfl
    , by kernel_rfl
    , by kernel_rfl
    , by kernel_rfl
    , by kernel_rfl
    , by kernel_rfl
    , by kernel_rfl
    , by kernel_rfl
    , by kernel_rfl
    , by kernel_rfl
    , by kernel_rfl
    , by kernel_rfl
    , by kernel_rfl
    , by kernel_rfl
    , by kernel_rfl
    , by kernel_rfl
    , by kernel_rfl
    , by kernel_rfl
    , by kernel_rfl
    , by kernel_rfl
    , by kernel_rfl
    , by kernel_rfl
    , by kernel_rfl
    , by kernel_rfl
    , by kernel_rfl
    , by kernel_rfl
    , by kernel_rfl
    , by kernel_rfl
    , by kernel_rfl
    , by kernel_rfl
    , by kernel_rfl
    , by kernel_rfl
    , by kernel_rfl
    , by kernel_rfl
    , by kernel_rfl
    , by kernel_rfl
    , by kernel_rfl
    , by kernel_rfl
    , by kernel_rfl
    , by kernel_rfl
    , by kernel_rfl
    , by kernel_rfl
    , by kernel_rfl
    , by kernel_rfl
    , by kernel_rfl
    , by kernel_rfl
    , by kernel_rfl
    , by kernel_rfl
    , by kernel_rfl
    , by kernel_rfl
    , by kernel_rfl
    , by kernel_rfl
    , by kernel_rfl
    , by kernel_rfl
    , by kernel_rfl
    , by kernel_rfl
    , by kernel_rfl
    , by kernel_rfl
    , by kernel_rfl
    , by kernel_rfl
    , by kernel_rfl
    , by kernel_rfl
    , by kernel_rfl
    , by kernel_rfl
    , by kernel_rfl
    , by kernel_rfl
    , by kernel_rfl
    , by kernel_rfl
    , by kernel_rfl
    , by kernel_rfl
    , by kernel_rfl
    , by kernel_rfl
    , by kernel_rfl
    , by kernel_rfl
    , by kernel_rfl
    , by kernel_rfl
    , by kernel_rfl
    , by kernel_rfl
    , by kernel_rfl
    , by kernel_rfl
    , by kernel_rfl
    , by kernel_rfl
    , by kernel_rfl
    ⟩

end Go.Proofs.Ytjofodicecjeaaa
