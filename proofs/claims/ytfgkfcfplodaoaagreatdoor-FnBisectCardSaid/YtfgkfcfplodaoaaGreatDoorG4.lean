/-
  Put together: PEvTy PIval.
-/
import Derived.Test.YtfgkfcfplodaoaaGreatDoorHPEv3
import Derived.Test.YtfgkfcfplodaoaaGreatDoorProg
import Derived.Test.YtfgkfcfplodaoaaGreatDoorG0
section
/-!
  What the table of types says.
-/
namespace Go.Proofs.YtfgkfcfplodaoaaGreatDoor
set_option maxRecDepth 100000
set_option linter.unusedVariables false
set_option linter.unusedSimpArgs false
open Go Go.RowKit

theorem TY : True
    ∧ (szT Tryz.prog 3 = some 1)
    ∧ (rowT Tryz.prog 3 = some false)
    ∧ (byT Tryz.prog 3 = some 8)
    ∧ (zeroT Tryz.prog 3 = some (.int .i64 0))
    ∧ (intT Tryz.prog 3 = some .i64)
    ∧ (Tryz.prog.underlying 3 = some (.int .i64))
    ∧ (szT Tryz.prog 9 = some 1)
    ∧ (rowT Tryz.prog 9 = some false)
    ∧ (byT Tryz.prog 9 = some 16)
    ∧ (zeroT Tryz.prog 9 = some (.string .empty))
    ∧ (isStrT Tryz.prog 9 = true)
    ∧ (arT Tryz.prog 9 = none)
    ∧ (szT Tryz.prog 4 = some 1)
    ∧ (rowT Tryz.prog 4 = some false)
    ∧ (byT Tryz.prog 4 = some 1)
    ∧ (zeroT Tryz.prog 4 = some (.bool false))
    ∧ (szT Tryz.prog 5 = some 1)
    ∧ (rowT Tryz.prog 5 = some false)
    ∧ (byT Tryz.prog 5 = some 1)
    ∧ (zeroT Tryz.prog 5 = some (.int .u8 0))
    ∧ (intT Tryz.prog 5 = some .u8)
    ∧ (Tryz.prog.underlying 5 = some (.int .u8))
    ∧ (szT Tryz.prog 231 = some 1)
    ∧ (rowT Tryz.prog 231 = some false)
    ∧ (byT Tryz.prog 231 = some 4)
    ∧ (zeroT Tryz.prog 231 = some (.int .u32 0))
    ∧ (intT Tryz.prog 231 = some .u32)
    ∧ (Tryz.prog.underlying 231 = some (.int .u32))
    ∧ (szT Tryz.prog 148 = some 1)
    ∧ (rowT Tryz.prog 148 = some false)
    ∧ (byT Tryz.prog 148 = some 8)
    ∧ (zeroT Tryz.prog 148 = some (.int .u64 0))
    ∧ (intT Tryz.prog 148 = some .u64)
    ∧ (Tryz.prog.underlying 148 = some (.int .u64))
    ∧ (szT Tryz.prog 76 = some 2)
    ∧ (rowT Tryz.prog 76 = some true)
    ∧ (byT Tryz.prog 76 = some 16)
    ∧ (zeroT Tryz.prog 76 = some (.agg #[.int .i64 0, .int .i64 0]))
    ∧ (fldT Tryz.prog 76 0 = some (0, 3))
    ∧ (fldT Tryz.prog 76 1 = some (1, 3))
    ∧ (eqTab Tryz.prog 76 = some [(0, 0), (1, 0)])
    ∧ (partsT Tryz.prog 76 = some fun i => ([(0, 1), (1, 1)] : List (Nat × Nat))[i]?)
    ∧ (szT Tryz.prog 30 = some 6)
    ∧ (rowT Tryz.prog 30 = some true)
    ∧ (byT Tryz.prog 30 = some 80)
    ∧ (zeroT Tryz.prog 30 = some (.agg #[.int .i64 0, .int .i64 0, .string .empty, .string .empty, .string .empty, .string .empty]))
    ∧ (fldT Tryz.prog 30 0 = some (0, 3))
    ∧ (fldT Tryz.prog 30 1 = some (1, 3))
    ∧ (fldT Tryz.prog 30 2 = some (2, 9))
    ∧ (fldT Tryz.prog 30 3 = some (3, 9))
    ∧ (fldT Tryz.prog 30 4 = some (4, 9))
    ∧ (fldT Tryz.prog 30 5 = some (5, 9))
    ∧ (eqTab Tryz.prog 30 = some [(0, 0), (1, 0), (2, 2), (3, 2), (4, 2), (5, 2)])
    ∧ (partsT Tryz.prog 30 = some fun i => ([(0, 1), (1, 1), (2, 1), (3, 1), (4, 1), (5, 1)] : List (Nat × Nat))[i]?)
    ∧ (szT Tryz.prog 130 = some 5)
    ∧ (rowT Tryz.prog 130 = some true)
    ∧ (byT Tryz.prog 130 = some 48)
    ∧ (zeroT Tryz.prog 130 = some (.agg #[.int .i64 0, .int .i64 0, .int .i64 0, .string .empty, .int .i64 0]))
    ∧ (fldT Tryz.prog 130 0 = some (0, 3))
    ∧ (fldT Tryz.prog 130 1 = some (1, 3))
    ∧ (fldT Tryz.prog 130 2 = some (2, 3))
    ∧ (fldT Tryz.prog 130 3 = some (3, 9))
    ∧ (fldT Tryz.prog 130 4 = some (4, 3))
    ∧ (eqTab Tryz.prog 130 = some [(0, 0), (1, 0), (2, 0), (3, 2), (4, 0)])
    ∧ (partsT Tryz.prog 130 = some fun i => ([(0, 1), (1, 1), (2, 1), (3, 1), (4, 1)] : List (Nat × Nat))[i]?)
    ∧ (szT Tryz.prog 127 = some 2)
    ∧ (rowT Tryz.prog 127 = some true)
    ∧ (byT Tryz.prog 127 = some 24)
    ∧ (zeroT Tryz.prog 127 = some (.agg #[.int .i64 0, .string .empty]))
    ∧ (fldT Tryz.prog 127 0 = some (0, 3))
    ∧ (fldT Tryz.prog 127 1 = some (1, 9))
    ∧ (eqTab Tryz.prog 127 = some [(0, 0), (1, 2)])
    ∧ (partsT Tryz.prog 127 = some fun i => ([(0, 1), (1, 1)] : List (Nat × Nat))[i]?)
    ∧ (szT Tryz.prog 34 = some 4)
    ∧ (rowT Tryz.prog 34 = some true)
    ∧ (byT Tryz.prog 34 = some 56)
    ∧ (zeroT Tryz.prog 34 = some (.agg #[.int .i64 0, .int .i64 0, .string .empty, .slice none 0 0]))
    ∧ (fldT Tryz.prog 34 0 = some (0, 3))
    ∧ (fldT Tryz.prog 34 1 = some (1, 3))
    ∧ (fldT Tryz.prog 34 2 = some (2, 9))
    ∧ (fldT Tryz.prog 34 3 = some (3, 32))
    ∧ (partsT Tryz.prog 34 = some fun i => ([(0, 1), (1, 1), (2, 1), (3, 1)] : List (Nat × Nat))[i]?)
    ∧ (szT Tryz.prog 46 = some 2)
    ∧ (rowT Tryz.prog 46 = some true)
    ∧ (byT Tryz.prog 46 = some 16)
    ∧ (zeroT Tryz.prog 46 = some (.agg #[.int .i64 0, .int .i64 0]))
    ∧ (fldT Tryz.prog 46 0 = some (0, 3))
    ∧ (fldT Tryz.prog 46 1 = some (1, 3))
    ∧ (eqTab Tryz.prog 46 = some [(0, 0), (1, 0)])
    ∧ (partsT Tryz.prog 46 = some fun i => ([(0, 1), (1, 1)] : List (Nat × Nat))[i]?)
    ∧ (szT Tryz.prog 41 = some 7)
    ∧ (rowT Tryz.prog 41 = some true)
    ∧ (byT Tryz.prog 41 = some 104)
    ∧ (zeroT Tryz.prog 41 = some (.agg #[.int .i64 0, .int .i64 0, .string .empty, .string .empty, .string .empty, .string .empty, .slice none 0 0]))
    ∧ (fldT Tryz.prog 41 0 = some (0, 30))
    ∧ (fldT Tryz.prog 41 1 = some (6, 31))
    ∧ (partsT Tryz.prog 41 = some fun i => ([(0, 6), (6, 1)] : List (Nat × Nat))[i]?)
    ∧ (szT Tryz.prog 88 = some 2)
    ∧ (rowT Tryz.prog 88 = some true)
    ∧ (byT Tryz.prog 88 = some 32)
    ∧ (zeroT Tryz.prog 88 = some (.agg #[.slice none 0 0, .int .i64 0]))
    ∧ (fldT Tryz.prog 88 0 = some (0, 86))
    ∧ (fldT Tryz.prog 88 1 = some (1, 3))
    ∧ (partsT Tryz.prog 88 = some fun i => ([(0, 1), (1, 1)] : List (Nat × Nat))[i]?)
    ∧ (szT Tryz.prog 209 = some 4)
    ∧ (rowT Tryz.prog 209 = some true)
    ∧ (byT Tryz.prog 209 = some 32)
    ∧ (zeroT Tryz.prog 209 = some (.agg #[.int .i64 0, .bool false, .int .i64 0, .int .i64 0]))
    ∧ (fldT Tryz.prog 209 0 = some (0, 3))
    ∧ (fldT Tryz.prog 209 1 = some (1, 4))
    ∧ (fldT Tryz.prog 209 2 = some (2, 3))
    ∧ (fldT Tryz.prog 209 3 = some (3, 3))
    ∧ (eqTab Tryz.prog 209 = some [(0, 0), (1, 1), (2, 0), (3, 0)])
    ∧ (partsT Tryz.prog 209 = some fun i => ([(0, 1), (1, 1), (2, 1), (3, 1)] : List (Nat × Nat))[i]?)
    ∧ (szT Tryz.prog 91 = some 2)
    ∧ (rowT Tryz.prog 91 = some true)
    ∧ (byT Tryz.prog 91 = some 32)
    ∧ (zeroT Tryz.prog 91 = some (.agg #[.slice none 0 0, .int .i64 0]))
    ∧ (fldT Tryz.prog 91 0 = some (0, 89))
    ∧ (fldT Tryz.prog 91 1 = some (1, 3))
    ∧ (partsT Tryz.prog 91 = some fun i => ([(0, 1), (1, 1)] : List (Nat × Nat))[i]?)
    ∧ (szT Tryz.prog 36 = some 12)
    ∧ (rowT Tryz.prog 36 = some true)
    ∧ (byT Tryz.prog 36 = some 184)
    ∧ (zeroT Tryz.prog 36 = some (.agg #[.int .i64 0, .int .i64 0, .string .empty, .string .empty, .string .empty, .string .empty, .slice none 0 0, .slice none 0 0, .int .i64 0, .int .i64 0, .string .empty, .slice none 0 0]))
    ∧ (fldT Tryz.prog 36 0 = some (0, 30))
    ∧ (fldT Tryz.prog 36 1 = some (6, 31))
    ∧ (fldT Tryz.prog 36 2 = some (7, 31))
    ∧ (fldT Tryz.prog 36 3 = some (8, 34))
    ∧ (partsT Tryz.prog 36 = some fun i => ([(0, 6), (6, 1), (7, 1), (8, 4)] : List (Nat × Nat))[i]?)
    ∧ (szT Tryz.prog 93 = some 15)
    ∧ (rowT Tryz.prog 93 = some true)
    ∧ (byT Tryz.prog 93 = some 200)
    ∧ (zeroT Tryz.prog 93 = some (.agg #[.int .i64 0, .int .i64 0, .int .i64 0, .int .i64 0, .int .i64 0, .string .empty, .string .empty, .string .empty, .string .empty, .slice none 0 0, .slice none 0 0, .int .i64 0, .slice none 0 0, .int .i64 0, .int .i64 0]))
    ∧ (fldT Tryz.prog 93 0 = some (0, 46))
    ∧ (fldT Tryz.prog 93 1 = some (2, 3))
    ∧ (fldT Tryz.prog 93 2 = some (3, 41))
    ∧ (fldT Tryz.prog 93 3 = some (10, 88))
    ∧ (fldT Tryz.prog 93 4 = some (12, 91))
    ∧ (fldT Tryz.prog 93 5 = some (14, 3))
    ∧ (partsT Tryz.prog 93 = some fun i => ([(0, 2), (2, 1), (3, 7), (10, 2), (12, 2), (14, 1)] : List (Nat × Nat))[i]?)
    ∧ (szT Tryz.prog 95 = some 17)
    ∧ (rowT Tryz.prog 95 = some true)
    ∧ (byT Tryz.prog 95 = some 232)
    ∧ (zeroT Tryz.prog 95 = some (.agg #[.slice none 0 0, .int .i64 0, .int .i64 0, .int .i64 0, .int .i64 0, .int .i64 0, .string .empty, .string .empty, .string .empty, .string .empty, .slice none 0 0, .slice none 0 0, .int .i64 0, .slice none 0 0, .int .i64 0, .int .i64 0, .bool false]))
    ∧ (fldT Tryz.prog 95 0 = some (0, 25))
    ∧ (fldT Tryz.prog 95 1 = some (1, 93))
    ∧ (fldT Tryz.prog 95 2 = some (16, 4))
    ∧ (partsT Tryz.prog 95 = some fun i => ([(0, 1), (1, 15), (16, 1)] : List (Nat × Nat))[i]?)
    ∧ (szT Tryz.prog 164 = some 3)
    ∧ (rowT Tryz.prog 164 = some true)
    ∧ (byT Tryz.prog 164 = some 40)
    ∧ (zeroT Tryz.prog 164 = some (.agg #[.slice none 0 0, .int .i64 0, .int .i64 0]))
    ∧ (fldT Tryz.prog 164 0 = some (0, 22))
    ∧ (fldT Tryz.prog 164 1 = some (1, 3))
    ∧ (fldT Tryz.prog 164 2 = some (2, 3))
    ∧ (partsT Tryz.prog 164 = some fun i => ([(0, 1), (1, 1), (2, 1)] : List (Nat × Nat))[i]?)
    ∧ (szT Tryz.prog 100 = some 17)
    ∧ (rowT Tryz.prog 100 = some true)
    ∧ (byT Tryz.prog 100 = some 232)
    ∧ (zeroT Tryz.prog 100 = some (.agg #[.slice none 0 0, .bool false, .int .i64 0, .int .i64 0, .int .i64 0, .int .i64 0, .int .i64 0, .string .empty, .string .empty, .string .empty, .string .empty, .slice none 0 0, .slice none 0 0, .int .i64 0, .slice none 0 0, .int .i64 0, .int .i64 0]))
    ∧ (fldT Tryz.prog 100 0 = some (0, 25))
    ∧ (fldT Tryz.prog 100 1 = some (1, 4))
    ∧ (fldT Tryz.prog 100 2 = some (2, 93))
    ∧ (partsT Tryz.prog 100 = some fun i => ([(0, 1), (1, 1), (2, 15)] : List (Nat × Nat))[i]?)
    ∧ (szT Tryz.prog 176 = some 2)
    ∧ (rowT Tryz.prog 176 = some true)
    ∧ (byT Tryz.prog 176 = some 16)
    ∧ (zeroT Tryz.prog 176 = some (.agg #[.int .i64 0, .int .i64 0]))
    ∧ (fldT Tryz.prog 176 0 = some (0, 3))
    ∧ (fldT Tryz.prog 176 1 = some (1, 3))
    ∧ (eqTab Tryz.prog 176 = some [(0, 0), (1, 0)])
    ∧ (partsT Tryz.prog 176 = some fun i => ([(0, 1), (1, 1)] : List (Nat × Nat))[i]?)
    ∧ (szT Tryz.prog 57 = some 6)
    ∧ (rowT Tryz.prog 57 = some true)
    ∧ (byT Tryz.prog 57 = some 80)
    ∧ (zeroT Tryz.prog 57 = some (.agg #[.int .i64 0, .int .i64 0, .string .empty, .string .empty, .string .empty, .string .empty]))
    ∧ (fldT Tryz.prog 57 0 = some (0, 3))
    ∧ (fldT Tryz.prog 57 1 = some (1, 3))
    ∧ (fldT Tryz.prog 57 2 = some (2, 9))
    ∧ (fldT Tryz.prog 57 3 = some (3, 9))
    ∧ (fldT Tryz.prog 57 4 = some (4, 9))
    ∧ (fldT Tryz.prog 57 5 = some (5, 9))
    ∧ (eqTab Tryz.prog 57 = some [(0, 0), (1, 0), (2, 2), (3, 2), (4, 2), (5, 2)])
    ∧ (partsT Tryz.prog 57 = some fun i => ([(0, 1), (1, 1), (2, 1), (3, 1), (4, 1), (5, 1)] : List (Nat × Nat))[i]?)
    ∧ (szT Tryz.prog 228 = some 2)
    ∧ (rowT Tryz.prog 228 = some true)
    ∧ (byT Tryz.prog 228 = some 24)
    ∧ (zeroT Tryz.prog 228 = some (.agg #[.int .i64 0, .string .empty]))
    ∧ (fldT Tryz.prog 228 0 = some (0, 3))
    ∧ (fldT Tryz.prog 228 1 = some (1, 9))
    ∧ (eqTab Tryz.prog 228 = some [(0, 0), (1, 2)])
    ∧ (partsT Tryz.prog 228 = some fun i => ([(0, 1), (1, 1)] : List (Nat × Nat))[i]?)
    ∧ (szT Tryz.prog 137 = some 4)
    ∧ (rowT Tryz.prog 137 = some true)
    ∧ (byT Tryz.prog 137 = some 56)
    ∧ (zeroT Tryz.prog 137 = some (.agg #[.int .i64 0, .int .i64 0, .string .empty, .slice none 0 0]))
    ∧ (fldT Tryz.prog 137 0 = some (0, 3))
    ∧ (fldT Tryz.prog 137 1 = some (1, 3))
    ∧ (fldT Tryz.prog 137 2 = some (2, 9))
    ∧ (fldT Tryz.prog 137 3 = some (3, 135))
    ∧ (partsT Tryz.prog 137 = some fun i => ([(0, 1), (1, 1), (2, 1), (3, 1)] : List (Nat × Nat))[i]?)
    ∧ (szT Tryz.prog 56 = some 2)
    ∧ (rowT Tryz.prog 56 = some true)
    ∧ (byT Tryz.prog 56 = some 16)
    ∧ (zeroT Tryz.prog 56 = some (.agg #[.int .i64 0, .int .i64 0]))
    ∧ (fldT Tryz.prog 56 0 = some (0, 3))
    ∧ (fldT Tryz.prog 56 1 = some (1, 3))
    ∧ (eqTab Tryz.prog 56 = some [(0, 0), (1, 0)])
    ∧ (partsT Tryz.prog 56 = some fun i => ([(0, 1), (1, 1)] : List (Nat × Nat))[i]?)
    ∧ (szT Tryz.prog 60 = some 7)
    ∧ (rowT Tryz.prog 60 = some true)
    ∧ (byT Tryz.prog 60 = some 104)
    ∧ (zeroT Tryz.prog 60 = some (.agg #[.int .i64 0, .int .i64 0, .string .empty, .string .empty, .string .empty, .string .empty, .slice none 0 0]))
    ∧ (fldT Tryz.prog 60 0 = some (0, 57))
    ∧ (fldT Tryz.prog 60 1 = some (6, 58))
    ∧ (partsT Tryz.prog 60 = some fun i => ([(0, 6), (6, 1)] : List (Nat × Nat))[i]?)
    ∧ (szT Tryz.prog 139 = some 12)
    ∧ (rowT Tryz.prog 139 = some true)
    ∧ (byT Tryz.prog 139 = some 184)
    ∧ (zeroT Tryz.prog 139 = some (.agg #[.int .i64 0, .int .i64 0, .string .empty, .string .empty, .string .empty, .string .empty, .slice none 0 0, .slice none 0 0, .int .i64 0, .int .i64 0, .string .empty, .slice none 0 0]))
    ∧ (fldT Tryz.prog 139 0 = some (0, 57))
    ∧ (fldT Tryz.prog 139 1 = some (6, 58))
    ∧ (fldT Tryz.prog 139 2 = some (7, 58))
    ∧ (fldT Tryz.prog 139 3 = some (8, 137))
    ∧ (partsT Tryz.prog 139 = some fun i => ([(0, 6), (6, 1), (7, 1), (8, 4)] : List (Nat × Nat))[i]?)
    ∧ (szT Tryz.prog 42 = some 1)
    ∧ (rowT Tryz.prog 42 = some false)
    ∧ (byT Tryz.prog 42 = some 24)
    ∧ (zeroT Tryz.prog 42 = some (.slice none 0 0))
    ∧ (elT Tryz.prog 42 = some 3)
    ∧ (arT Tryz.prog 42 = none)
    ∧ (isStrT Tryz.prog 42 = false)
    ∧ (szT Tryz.prog 83 = some 1)
    ∧ (rowT Tryz.prog 83 = some false)
    ∧ (byT Tryz.prog 83 = some 24)
    ∧ (zeroT Tryz.prog 83 = some (.slice none 0 0))
    ∧ (elT Tryz.prog 83 = some 9)
    ∧ (arT Tryz.prog 83 = none)
    ∧ (isStrT Tryz.prog 83 = false)
    ∧ (szT Tryz.prog 22 = some 1)
    ∧ (rowT Tryz.prog 22 = some false)
    ∧ (byT Tryz.prog 22 = some 24)
    ∧ (zeroT Tryz.prog 22 = some (.slice none 0 0))
    ∧ (elT Tryz.prog 22 = some 5)
    ∧ (arT Tryz.prog 22 = none)
    ∧ (isStrT Tryz.prog 22 = false)
    ∧ (szT Tryz.prog 31 = some 1)
    ∧ (rowT Tryz.prog 31 = some false)
    ∧ (byT Tryz.prog 31 = some 24)
    ∧ (zeroT Tryz.prog 31 = some (.slice none 0 0))
    ∧ (elT Tryz.prog 31 = some 76)
    ∧ (arT Tryz.prog 31 = none)
    ∧ (isStrT Tryz.prog 31 = false)
    ∧ (szT Tryz.prog 86 = some 1)
    ∧ (rowT Tryz.prog 86 = some false)
    ∧ (byT Tryz.prog 86 = some 24)
    ∧ (zeroT Tryz.prog 86 = some (.slice none 0 0))
    ∧ (elT Tryz.prog 86 = some 30)
    ∧ (arT Tryz.prog 86 = none)
    ∧ (isStrT Tryz.prog 86 = false)
    ∧ (szT Tryz.prog 32 = some 1)
    ∧ (rowT Tryz.prog 32 = some false)
    ∧ (byT Tryz.prog 32 = some 24)
    ∧ (zeroT Tryz.prog 32 = some (.slice none 0 0))
    ∧ (elT Tryz.prog 32 = some 127)
    ∧ (arT Tryz.prog 32 = none)
    ∧ (isStrT Tryz.prog 32 = false)
    ∧ (szT Tryz.prog 89 = some 1)
    ∧ (rowT Tryz.prog 89 = some false)
    ∧ (byT Tryz.prog 89 = some 24)
    ∧ (zeroT Tryz.prog 89 = some (.slice none 0 0))
    ∧ (elT Tryz.prog 89 = some 209)
    ∧ (arT Tryz.prog 89 = none)
    ∧ (isStrT Tryz.prog 89 = false)
    ∧ (szT Tryz.prog 25 = some 1)
    ∧ (rowT Tryz.prog 25 = some false)
    ∧ (byT Tryz.prog 25 = some 24)
    ∧ (zeroT Tryz.prog 25 = some (.slice none 0 0))
    ∧ (elT Tryz.prog 25 = some 36)
    ∧ (arT Tryz.prog 25 = none)
    ∧ (isStrT Tryz.prog 25 = false)
    ∧ (szT Tryz.prog 58 = some 1)
    ∧ (rowT Tryz.prog 58 = some false)
    ∧ (byT Tryz.prog 58 = some 24)
    ∧ (zeroT Tryz.prog 58 = some (.slice none 0 0))
    ∧ (elT Tryz.prog 58 = some 176)
    ∧ (arT Tryz.prog 58 = none)
    ∧ (isStrT Tryz.prog 58 = false)
    ∧ (szT Tryz.prog 135 = some 1)
    ∧ (rowT Tryz.prog 135 = some false)
    ∧ (byT Tryz.prog 135 = some 24)
    ∧ (zeroT Tryz.prog 135 = some (.slice none 0 0))
    ∧ (elT Tryz.prog 135 = some 228)
    ∧ (arT Tryz.prog 135 = none)
    ∧ (isStrT Tryz.prog 135 = false)
    ∧ (szT Tryz.prog 61 = some 1)
    ∧ (rowT Tryz.prog 61 = some false)
    ∧ (byT Tryz.prog 61 = some 24)
    ∧ (zeroT Tryz.prog 61 = some (.slice none 0 0))
    ∧ (elT Tryz.prog 61 = some 139)
    ∧ (arT Tryz.prog 61 = none)
    ∧ (isStrT Tryz.prog 61 = false)
    ∧ (szT Tryz.prog 232 = some 8)
    ∧ (rowT Tryz.prog 232 = some true)
    ∧ (byT Tryz.prog 232 = some 32)
    ∧ (zeroT Tryz.prog 232 = some (.agg #[.int .u32 0, .int .u32 0, .int .u32 0, .int .u32 0, .int .u32 0, .int .u32 0, .int .u32 0, .int .u32 0]))
    ∧ (arT Tryz.prog 232 = some (8, 231))
    ∧ (partsT Tryz.prog 232 = some fun i => some (i * 1, 1))
    ∧ (szT Tryz.prog 252 = some 64)
    ∧ (rowT Tryz.prog 252 = some true)
    ∧ (byT Tryz.prog 252 = some 256)
    ∧ (zeroT Tryz.prog 252 = some (.agg #[.int .u32 0, .int .u32 0, .int .u32 0, .int .u32 0, .int .u32 0, .int .u32 0, .int .u32 0, .int .u32 0, .int .u32 0, .int .u32 0, .int .u32 0, .int .u32 0, .int .u32 0, .int .u32 0, .int .u32 0, .int .u32 0, .int .u32 0, .int .u32 0, .int .u32 0, .int .u32 0, .int .u32 0, .int .u32 0, .int .u32 0, .int .u32 0, .int .u32 0, .int .u32 0, .int .u32 0, .int .u32 0, .int .u32 0, .int .u32 0, .int .u32 0, .int .u32 0, .int .u32 0, .int .u32 0, .int .u32 0, .int .u32 0, .int .u32 0, .int .u32 0, .int .u32 0, .int .u32 0, .int .u32 0, .int .u32 0, .int .u32 0, .int .u32 0, .int .u32 0, .int .u32 0, .int .u32 0, .int .u32 0, .int .u32 0, .int .u32 0, .int .u32 0, .int .u32 0, .int .u32 0, .int .u32 0, .int .u32 0, .int .u32 0, .int .u32 0, .int .u32 0, .int .u32 0, .int .u32 0, .int .u32 0, .int .u32 0, .int .u32 0, .int .u32 0]))
    ∧ (arT Tryz.prog 252 = some (64, 231))
    ∧ (partsT Tryz.prog 252 = some fun i => some (i * 1, 1))
    := by
  refine ⟨trivial
    , by kernel_rfl
    , by kernel_rfl
    , by kernel_rfl
    , by kernel_rfl
    , by kernel_rfl
    , by kernel_rfl
    , by kernel_rfl
    , by kernel_rfl
    , by kernel_rfl
    , by kernel_rfl
    , by kernel_rfl
    , by kernel_rfl
    , by kernel_rfl
    , by kernel_rfl
    , by kernel_rfl
    , by kernel_rfl
    , by kernel_rfl
    , by kernel_rfl
    , by kernel_rfl
    , by kernel_rfl
    , by kernel_rfl
    , by kernel_rfl
    , by kernel_rfl
    , by kernel_rfl
    , by kernel_rfl
    , by kernel_rfl
    , by kernel_rfl
    , by kernel_rfl
    , by kernel_rfl
    , by kernel_rfl
    , by kernel_rfl
    , by kernel_rfl
    , by kernel_rfl
    , by kernel_rfl
    , by kernel_rfl
    , by kernel_rfl
    , by kernel_rfl
    , by kernel_rfl
    , by kernel_rfl
    , by kernel_rfl
    , by kernel_rfl
    , by kernel_rfl
    , by kernel_rfl
    , by kernel_rfl
    , by kernel_rfl
    , by kernel_rfl
    , by kernel_rfl
    , by kernel_rfl
    , by kernel_rfl
    , by kernel_rfl
    , by kernel_rfl
    , by kernel_rfl
    , by kernel_rfl
    , by kernel_rfl
    , by kernel_rfl
    , by kernel_rfl
    , by kernel_rfl
    , by kernel_rfl
    , by kernel_rfl
    , by kernel_rfl
    , by kernel_rfl
    , by kernel_rfl
    , by kernel_rfl
    , by kernel_rfl
    , by kernel_rfl
    , by kernel_rfl
    , by kernel_rfl
    , by kernel_rfl
    , by kernel_rfl
    , by kernel_rfl
    , by kernel_rfl
    , by kernel_rfl
    , by kernel_rfl
    , by kernel_rfl
    , by kernel_rfl
    , by kernel_rfl
    , by kernel_rfl
    , by kernel_rfl
    , by kernel_rfl
    , by kernel_rfl
    , by kernel_rfl
    , by kernel_rfl
    , by kernel_rfl
    , by kernel_rfl
    , by kernel_rfl
    , by kernel_rfl
    , by kernel_rfl
    , by kernel_rfl
    , by kernel_rfl
    , by kernel_rfl
    , by kernel_rfl
    , by kernel_rfl
    , by kernel_rfl
    , by kernel_rfl
    , by kernel_rfl
    , by kernel_rfl
    , by kernel_rfl
    , by kernel_rfl
    , by kernel_rfl
    , by kernel_rfl
    , by kernel_rfl
    , by kernel_rfl
    , by kernel_rfl
    , by kernel_rfl
    , by kernel_rfl
    , by kernel_rfl
    , by kernel_rfl
    , by kernel_rfl
    , by kernel_rfl
    , by kernel_rfl
    , by kernel_rfl
    , by kernel_rfl
    , by kernel_rfl
    , by kernel_rfl
    , by kernel_rfl
    , by kernel_rfl
    , by kernel_rfl
    , by kernel_rfl
    , by kernel_rfl
    , by kernel_rfl
    , by kernel_rfl
    , by kernel_rfl
    , by kernel_rfl
    , by kernel_rfl
    , by kernel_rfl
    , by kernel_rfl
    , by kernel_rfl
    , by kernel_rfl
    , by kernel_rfl
    , by kernel_rfl
    , by kernel_rfl
    , by kernel_rfl
    , by kernel_rfl
    , by kernel_rfl
    , by kernel_rfl
    , by kernel_rfl
    , by kernel_rfl
    , by kernel_rfl
    , by kernel_rfl
    , by kernel_rfl
    , by kernel_rfl
    , by kernel_rfl
    , by kernel_rfl
    , by kernel_rfl
    , by kernel_rfl
    , by kernel_rfl
    , by kernel_rfl
    , by kernel_rfl
    , by kernel_rfl
    , by kernel_rfl
    , by kernel_rfl
    , by kernel_rfl
    , by kernel_rfl
    , by kernel_rfl
    , by kernel_rfl
    , by kernel_rfl
    , by kernel_rfl
    , by kernel_rfl
    , by kernel_rfl
    , by kernel_rfl
    , by kernel_rfl
    , by kernel_rfl
    , by kernel_rfl
    , by kernel_rfl
    , by kernel_rfl
    , by kernel_rfl
    , by kernel_rfl
    , by kernel_rfl
    , by kernel_rfl
    , by kernel_rfl
    , by kernel_rfl
    , by kernel_rfl
    , by kernel_rfl
    , by kernel_rfl
    , by kernel_rfl
    , by kernel_rfl
    , by kernel_rfl
    , by kernel_rfl
    , by kernel_rfl
    , by kernel_rfl
    , by kernel_rfl
    , by kernel_rfl
    , by kernel_rfl
    , by kernel_rfl
    , by kernel_rfl
    , by kernel_rfl
    , by kernel_rfl
    , by kernel_rfl
    , by kernel_rfl
    , by kernel_rfl
    , by kernel_rfl
    , by kernel_rfl
    , by kernel_rfl
    , by kernel_rfl
    , by kernel_rfl
    , by kernel_rfl
    , by kernel_rfl
    , by kernel_rfl
    , by kernel_rfl
    , by kernel_rfl
    , by kernel_rfl
    , by kernel_rfl
    , by kernel_rfl
    , by kernel_rfl
    , by kernel_rfl
    , by kernel_rfl
    , by kernel_rfl
    , by kernel_rfl
    , by kernel_rfl
    , by kernel_rfl
    , by kernel_rfl
    , by kernel_rfl
    , by kernel_rfl
    , by kernel_rfl
    , by kernel_rfl
    , by kernel_rfl
    , by kernel_rfl
    , by kernel_rfl
    , by kernel_rfl
    , by kernel_rfl
    , by kernel_rfl
    , by kernel_rfl
    , by kernel_rfl
    , by kernel_rfl
    , by kernel_rfl
    , by kernel_rfl
    , by kernel_rfl
    , by kernel_rfl
    , by kernel_rfl
    , by kernel_rfl
    , by kernel_rfl
    , by kernel_rfl
    , by kernel_rfl
    , by kernel_rfl
    , by kernel_rfl
    , by kernel_rfl
    , by kernel_rfl
    , by kernel_rfl
    , by kernel_rfl
    , by kernel_rfl
    , by kernel_rfl
    , by kernel_rfl
    , by kernel_rfl
    , by kernel_rfl
    , by kernel_rfl
    , by kernel_rfl
    , by kernel_rfl
    , by kernel_rfl
    , by kernel_rfl
    , by kernel_rfl
    , by kernel_rfl
    , by kernel_rfl
    , by kernel_rfl
    , by kernel_rfl
    , by kernel_rfl
    , by kernel_rfl
    , by kernel_rfl
    , by kernel_rfl
    , by kernel_rfl
    , by kernel_rfl
    , by kernel_rfl
    , by kernel_rfl
    , by kernel_rfl
    , by kernel_rfl
    , by kernel_rfl
    , by kernel_rfl
    , by kernel_rfl
    , by kernel_rfl
    , by kernel_rfl
    , by kernel_rfl
    , by kernel_rfl
    , by kernel_rfl
    , by kernel_rfl
    , by kernel_rfl
    , by kernel_rfl
    , by kernel_rfl
    , by kernel_rfl
    , by kernel_rfl
    , by kernel_rfl
    , by kernel_rfl
    , by kernel_rfl
    , by kernel_rfl
    , by kernel_rfl
    , by kernel_rfl
    , by kernel_rfl
    , by kernel_rfl
    , by kernel_rfl
    , by kernel_rfl
    , by kernel_rfl
    , by kernel_rfl
    , by kernel_rfl
    , by kernel_rfl
    , by kernel_rfl
    , by kernel_rfl
    , by kernel_rfl
    , by kernel_rfl
    , by kernel_rfl
    , by kernel_rfl
    , by kernel_rfl
    , by kernel_rfl
    , by kernel_rfl
    , by kernel_rfl
    , by kernel_rfl
    , by kernel_rfl
    , by kernel_rfl
    , by kernel_rfl
    , by kernel_rfl
    , by kernel_rfl
    , by kernel_rfl
    , by kernel_rfl
    , by kernel_rfl
    , by kernel_rfl
    , by kernel_rfl
    , by kernel_rfl
    , by kernel_rfl
    ⟩

end Go.Proofs.YtfgkfcfplodaoaaGreatDoor

end
section
/-!
  Slices that own a block; intervals of blocks. No program is named here.
-/
namespace Go.Proofs.YtfgkfcfplodaoaaGreatDoor
set_option maxRecDepth 100000
set_option linter.unusedVariables false
set_option linter.unusedSimpArgs false
open Go.RowKit

/-- The block b holds from off on the elements of l, s cells each, and may be written; it is not older than B0. -/
def OwnAt {α : Type} (w : World) (B0 s : Nat) (f : α → List Value) (b off : Nat) (l : List α) : Prop :=
  B0 ≤ b ∧ b < w.heap.size ∧ (∀ o, w.frozen? ⟨b, o, none⟩ = false) ∧ ∀ i x, l[i]? = some x → ∀ j u, (f x)[j]? = some u → w.cell? ⟨b, off + i * s + j, none⟩ = some u

section
variable {α : Type} {w w' : World} {B0 s b off : Nat} {f : α → List Value} {l : List α}
theorem OwnS.at_ {v : Value} (h : OwnS w B0 s f v l) (hne : l ≠ []) : ∃ b off c, v = .slice (some ⟨b, off, none⟩) l.length c ∧ l.length ≤ c ∧ c ≤ maxLen ∧ OwnAt w B0 s f b off l := by
  obtain ⟨A, c, hv, h1, h2, hn⟩ := h
  obtain ⟨b, off, rfl, h3⟩ := hn hne
  exact ⟨b, off, c, hv, h1, h2, h3⟩
theorem OwnAt.slice {c : Nat} (h : OwnAt w B0 s f b off l) (h1 : l.length ≤ c) (h2 : c ≤ maxLen) : OwnS w B0 s f (.slice (some ⟨b, off, none⟩) l.length c) l :=
  ⟨_, c, rfl, h1, h2, fun _ => ⟨b, off, rfl, h⟩⟩
theorem OwnAt.cell (h : OwnAt w B0 s f b off l) {i : Nat} (hi : i < l.length) {j : Nat} {u : Value} (hu : (f l[i])[j]? = some u) : w.cell? ⟨b, off + i * s + j, none⟩ = some u :=
  h.2.2.2 i _ (List.getElem?_eq_getElem hi) j u hu
theorem OwnAt.below (h : OwnAt w B0 s f b off l) (hb : Below w.heap.size w w') : OwnAt w' B0 s f b off l :=
  ⟨h.1, Nat.lt_of_lt_of_le h.2.1 hb.size, fun o => (hb.frozen (p := ⟨b, o, none⟩) h.2.1).trans (h.2.2.1 o), fun i x hx j u hu => (hb.cell (p := ⟨b, _, none⟩) h.2.1).trans (h.2.2.2 i x hx j u hu)⟩
theorem OwnAt.drewN (h : OwnAt w B0 s f b off l) (n : Nat) : OwnAt (w.drewN n) B0 s f b off l := h.below (below_drewN (Below.refl _ _) n)

theorem OwnAt.old (h : OwnAt w B0 s f b off l) (hf : ∀ x, (f x).length = s) {i : Nat} (hi : i < l.length) {j : Nat} (hj : j < s) : ∃ u, w.cell? ⟨b, off + i * s + j, none⟩ = some u :=
  ⟨_, h.2.2.2 i _ (List.getElem?_eq_getElem hi) j _ (List.getElem?_eq_getElem (by rw [hf]; exact hj))⟩

end

/-- but for the blocks from lo on, below hi, nothing that was there has turned -/
structure Only (lo hi : Nat) (w w' : World) : Prop where
  os : w'.os = w.os
  tape : w'.tape = w.tape
  output : w'.output = w.output
  size : w.heap.size ≤ w'.heap.size
  block : ∀ k, k < w.heap.size → k < lo ∨ hi ≤ k → w'.heap[k]? = w.heap[k]?

theorem Only.below {lo hi B : Nat} {w w' : World} (h : Only lo hi w w') (hB : B ≤ lo) (hs : B ≤ w.heap.size) : Below B w w' :=
  ⟨h.os, h.tape, h.output, h.size, fun k hk => h.block k (by omega) (.inl (by omega))⟩

theorem Only.set (w : World) (b o : Nat) (u : Value) : Only b (b + 1) w (w.setCell ⟨b, o, none⟩ u) :=
  ⟨rfl, rfl, rfl, by simp [World.setCell], fun k _ hd => Below.heap_setCell w _ u k (by simp; omega)⟩

section
variable {α : Type} {w w' : World} {lo hi lo' hi' s B : Nat} {f : α → List Value} {v : Value} {l : List α}

/-- a slice of one's own whose block lies from lo on, below hi -/
def OwnI {α : Type} (w : World) (lo hi s : Nat) (f : α → List Value) (v : Value) (l : List α) : Prop :=
  OwnS w lo s f v l ∧ ∀ g, l ≠ [] → v.ownBlock = some g → g < hi

theorem OwnI.kp (h : OwnI w lo hi s f v l) (k : Keeps w w') : OwnI w' lo hi s f v l := ⟨h.1.keeps k, h.2⟩
theorem OwnI.on (h : OwnI w lo hi s f v l) (k : Only lo' hi' w w') (hd : hi ≤ lo' ∨ hi' ≤ lo) : OwnI w' lo hi s f v l := by
  obtain ⟨⟨A, c, rfl, h1, h2, hn⟩, hb⟩ := h
  refine ⟨⟨A, c, rfl, h1, h2, fun hne => ?_⟩, hb⟩
  obtain ⟨b, off, rfl, hlo, hlt, hf, hc⟩ := hn hne
  have hbh := hb b hne rfl
  have hk := k.block b hlt (by rcases hd with hd | hd; exact .inl (by omega); exact .inr (by omega))
  exact ⟨b, off, rfl, hlo, Nat.lt_of_lt_of_le hlt k.size, fun o => (World.frozen?_of_block (a := ⟨b, o, none⟩) hk).trans (hf o), fun i x hx j u hu => (World.cell?_of_block (a := ⟨b, _, none⟩) hk).trans (hc i x hx j u hu)⟩
theorem RdS.kp (h : RdS w B s f v l) (k : Keeps w w') (hB : B ≤ w.heap.size) : RdS w' B s f v l := h.below (Below.mono k hB)
theorem RdS.on (h : RdS w B s f v l) (k : Only lo' hi' w w') (hB : B ≤ lo') (hs : B ≤ w.heap.size) : RdS w' B s f v l := h.below (k.below hB hs)

end

/-- a variable in memory: block b holds the cells cs -/
def BoxAt (w : World) (b : Nat) (cs : List Value) : Prop := b < w.heap.size ∧ ∀ j u, cs[j]? = some u → w.cell? ⟨b, j, none⟩ = some u
theorem BoxAt.new (w : World) (t : TypeId) (cs : List Value) : BoxAt (w.alloc (.cells cs.toArray t)) w.heap.size cs :=
  ⟨by simp, fun j u h => by rw [World.cell?_alloc_at _ _ _ _ rfl]; simpa using h⟩
theorem BoxAt.kp {w w' : World} {b : Nat} {cs : List Value} (h : BoxAt w b cs) (k : Keeps w w') : BoxAt w' b cs :=
  ⟨Nat.lt_of_lt_of_le h.1 (Below.size k), fun j u hu => (Below.cell k (p := ⟨b, j, none⟩) h.1).trans (h.2 j u hu)⟩
theorem BoxAt.on {w w' : World} {b lo hi : Nat} {cs : List Value} (h : BoxAt w b cs) (k : Only lo hi w w') (hd : b < lo ∨ hi ≤ b) : BoxAt w' b cs :=
  ⟨Nat.lt_of_lt_of_le h.1 k.size, fun j u hu => (World.cell?_of_block (a := ⟨b, j, none⟩) (k.block b h.1 hd)).trans (h.2 j u hu)⟩

end Go.Proofs.YtfgkfcfplodaoaaGreatDoor

end
