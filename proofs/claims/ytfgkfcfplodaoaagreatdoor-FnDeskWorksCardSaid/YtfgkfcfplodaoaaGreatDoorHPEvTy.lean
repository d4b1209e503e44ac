
import Derived.Test.YtfgkfcfplodaoaaGreatDoorHPEv3
set_option linter.unusedSimpArgs false
set_option linter.unusedVariables false
set_option maxRecDepth 100000
namespace Go.Proofs.YtfgkfcfplodaoaaGreatDoor
open Go Go.RowKit
theorem TY : True
    ∧ (szT Tryz.prog 3 = some 1)
    ∧ (rowT Tryz.prog 3 = some false)
    ∧ (byT Tryz.prog 3 = some 8)
    ∧ (zeroT Tryz.prog 3 = some (.int .i64 0))
    ∧ (intT Tryz.prog 3 = some .i64)
    ∧ (Tryz.prog.underlying 3 = some (.int .i64))
    ∧ (szT Tryz.prog 9 = some 1)
    ∧ (rowT Tryz.prog 9 = some false)
    ∧ (byT Tryz.prog 9 = some 16)
    ∧ (zeroT Tryz.prog 9 = some (.string .empty))
    ∧ (isStrT Tryz.prog 9 = true)
    ∧ (arT Tryz.prog 9 = none)
    ∧ (szT Tryz.prog 4 = some 1)
    ∧ (rowT Tryz.prog 4 = some false)
    ∧ (byT Tryz.prog 4 = some 1)
    ∧ (zeroT Tryz.prog 4 = some (.bool false))
    ∧ (szT Tryz.prog 5 = some 1)
    ∧ (rowT Tryz.prog 5 = some false)
    ∧ (byT Tryz.prog 5 = some 1)
    ∧ (zeroT Tryz.prog 5 = some (.int .u8 0))
    ∧ (intT Tryz.prog 5 = some .u8)
    ∧ (Tryz.prog.underlying 5 = some (.int .u8))
    ∧ (szT Tryz.prog 231 = some 1)
    ∧ (rowT Tryz.prog 231 = some false)
    ∧ (byT Tryz.prog 231 = some 4)
    ∧ (zeroT Tryz.prog 231 = some (.int .u32 0))
    ∧ (intT Tryz.prog 231 = some .u32)
    ∧ (Tryz.prog.underlying 231 = some (.int .u32))
    ∧ (szT Tryz.prog 148 = some 1)
    ∧ (rowT Tryz.prog 148 = some false)
    ∧ (byT Tryz.prog 148 = some 8)
    ∧ (zeroT Tryz.prog 148 = some (.int .u64 0))
    ∧ (intT Tryz.prog 148 = some .u64)
    ∧ (Tryz.prog.underlying 148 = some (.int .u64))
    ∧ (szT Tryz.prog 76 = some 2)
    ∧ (rowT Tryz.prog 76 = some true)
    ∧ (byT Tryz.prog 76 = some 16)
    ∧ (zeroT Tryz.prog 76 = some (.agg #[.int .i64 0, .int .i64 0]))
    ∧ (fldT Tryz.prog 76 0 = some (0, 3))
    ∧ (fldT Tryz.prog 76 1 = some (1, 3))
    ∧ (eqTab Tryz.prog 76 = some [(0, 0), (1, 0)])
    ∧ (partsT Tryz.prog 76 = some fun i => ([(0, 1), (1, 1)] : List (Nat × Nat))[i]?)
    ∧ (szT Tryz.prog 30 = some 6)
    ∧ (rowT Tryz.prog 30 = some true)
    ∧ (byT Tryz.prog 30 = some 80)
    ∧ (zeroT Tryz.prog 30 = some (.agg #[.int .i64 0, .int .i64 0, .string .empty, .string .empty, .string .empty, .string .empty]))
    ∧ (fldT Tryz.prog 30 0 = some (0, 3))
    ∧ (fldT Tryz.prog 30 1 = some (1, 3))
    ∧ (fldT Tryz.prog 30 2 = some (2, 9))
    ∧ (fldT Tryz.prog 30 3 = some (3, 9))
    ∧ (fldT Tryz.prog 30 4 = some (4, 9))
    ∧ (fldT Tryz.prog 30 5 = some (5, 9))
    ∧ (eqTab Tryz.prog 30 = some [(0, 0), (1, 0), (2, 2), (3, 2), (4, 2), (5, 2)])
    ∧ (partsT Tryz.prog 30 = some fun i => ([(0, 1), (1, 1), (2, 1), (3, 1), (4, 1), (5, 1)] : List (Nat × Nat))[i]?)
    ∧ (szT Tryz.prog 130 = some 5)
    ∧ (rowT Tryz.prog 130 = some true)
    ∧ (byT Tryz.prog 130 = some 48)
    ∧ (zeroT Tryz.prog 130 = some (.agg #[.int .i64 0, .int .i64 0, .int .i64 0, .string .empty, .int .i64 0]))
    ∧ (fldT Tryz.prog 130 0 = some (0, 3))
    ∧ (fldT Tryz.prog 130 1 = some (1, 3))
    ∧ (fldT Tryz.prog 130 2 = some (2, 3))
    ∧ (fldT Tryz.prog 130 3 = some (3, 9))
    ∧ (fldT Tryz.prog 130 4 = some (4, 3))
    ∧ (eqTab Tryz.prog 130 = some [(0, 0), (1, 0), (2, 0), (3, 2), (4, 0)])
    ∧ (partsT Tryz.prog 130 = some fun i => ([(0, 1), (1, 1), (2, 1), (3, 1), (4, 1)] : List (Nat × Nat))[i]?)
    ∧ (szT Tryz.prog 127 = some 2)
    ∧ (rowT Tryz.prog 127 = some true)
    ∧ (byT Tryz.prog 127 = some 24)
    ∧ (zeroT Tryz.prog 127 = some (.agg #[.int .i64 0, .string .empty]))
    ∧ (fldT Tryz.prog 127 0 = some (0, 3))
    ∧ (fldT Tryz.prog 127 1 = some (1, 9))
    ∧ (eqTab Tryz.prog 127 = some [(0, 0), (1, 2)])
    ∧ (partsT Tryz.prog 127 = some fun i => ([(0, 1), (1, 1)] : List (Nat × Nat))[i]?)
    ∧ (szT Tryz.prog 34 = some 4)
    ∧ (rowT Tryz.prog 34 = some true)
    ∧ (byT Tryz.prog 34 = some 56)
    ∧ (zeroT Tryz.prog 34 = some (.agg #[.int .i64 0, .int .i64 0, .string .empty, .slice none 0 0]))
    ∧ (fldT Tryz.prog 34 0 = some (0, 3))
    ∧ (fldT Tryz.prog 34 1 = some (1, 3))
    ∧ (fldT Tryz.prog 34 2 = some (2, 9))
    ∧ (fldT Tryz.prog 34 3 = some (3, 32))
    ∧ (partsT Tryz.prog 34 = some fun i => ([(0, 1), (1, 1), (2, 1), (3, 1)] : List (Nat × Nat))[i]?)
    ∧ (szT Tryz.prog 46 = some 2)
    ∧ (rowT Tryz.prog 46 = some true)
    ∧ (byT Tryz.prog 46 = some 16)
    ∧ (zeroT Tryz.prog 46 = some (.agg #[.int .i64 0, .int .i64 0]))
    ∧ (fldT Tryz.prog 46 0 = some (0, 3))
    ∧ (fldT Tryz.prog 46 1 = some (1, 3))
    ∧ (eqTab Tryz.prog 46 = some [(0, 0), (1, 0)])
    ∧ (partsT Tryz.prog 46 = some fun i => ([(0, 1), (1, 1)] : List (Nat × Nat))[i]?)
    ∧ (szT Tryz.prog 41 = some 7)
    ∧ (rowT Tryz.prog 41 = some true)
    ∧ (byT Tryz.prog 41 = some 104)
    ∧ (zeroT Tryz.prog 41 = some (.agg #[.int .i64 0, .int .i64 0, .string .empty, .string .empty, .string .empty, .string .empty, .slice none 0 0]))
    ∧ (fldT Tryz.prog 41 0 = some (0, 30))
    ∧ (fldT Tryz.prog 41 1 = some (6, 31))
    ∧ (partsT Tryz.prog 41 = some fun i => ([(0, 6), (6, 1)] : List (Nat × Nat))[i]?)
    ∧ (szT Tryz.prog 88 = some 2)
    ∧ (rowT Tryz.prog 88 = some true)
    ∧ (byT Tryz.prog 88 = some 32)
    ∧ (zeroT Tryz.prog 88 = some (.agg #[.slice none 0 0, .int .i64 0]))
    ∧ (fldT Tryz.prog 88 0 = some (0, 86))
    ∧ (fldT Tryz.prog 88 1 = some (1, 3))
    ∧ (partsT Tryz.prog 88 = some fun i => ([(0, 1), (1, 1)] : List (Nat × Nat))[i]?)
    ∧ (szT Tryz.prog 209 = some 4)
    ∧ (rowT Tryz.prog 209 = some true)
    ∧ (byT Tryz.prog 209 = some 32)
    ∧ (zeroT Tryz.prog 209 = some (.agg #[.int .i64 0, .bool false, .int .i64 0, .int .i64 0]))
    ∧ (fldT Tryz.prog 209 0 = some (0, 3))
    ∧ (fldT Tryz.prog 209 1 = some (1, 4))
    ∧ (fldT Tryz.prog 209 2 = some (2, 3))
    ∧ (fldT Tryz.prog 209 3 = some (3, 3))
    ∧ (eqTab Tryz.prog 209 = some [(0, 0), (1, 1), (2, 0), (3, 0)])
    ∧ (partsT Tryz.prog 209 = some fun i => ([(0, 1), (1, 1), (2, 1), (3, 1)] : List (Nat × Nat))[i]?)
    ∧ (szT Tryz.prog 91 = some 2)
    ∧ (rowT Tryz.prog 91 = some true)
    ∧ (byT Tryz.prog 91 = some 32)
    ∧ (zeroT Tryz.prog 91 = some (.agg #[.slice none 0 0, .int .i64 0]))
    ∧ (fldT Tryz.prog 91 0 = some (0, 89))
    ∧ (fldT Tryz.prog 91 1 = some (1, 3))
    ∧ (partsT Tryz.prog 91 = some fun i => ([(0, 1), (1, 1)] : List (Nat × Nat))[i]?)
    ∧ (szT Tryz.prog 36 = some 12)
    ∧ (rowT Tryz.prog 36 = some true)
    ∧ (byT Tryz.prog 36 = some 184)
    ∧ (zeroT Tryz.prog 36 = some (.agg #[.int .i64 0, .int .i64 0, .string .empty, .string .empty, .string .empty, .string .empty, .slice none 0 0, .slice none 0 0, .int .i64 0, .int .i64 0, .string .empty, .slice none 0 0]))
    ∧ (fldT Tryz.prog 36 0 = some (0, 30))
    ∧ (fldT Tryz.prog 36 1 = some (6, 31))
    ∧ (fldT Tryz.prog 36 2 = some (7, 31))
    ∧ (fldT Tryz.prog 36 3 = some (8, 34))
    ∧ (partsT Tryz.prog 36 = some fun i => ([(0, 6), (6, 1), (7, 1), (8, 4)] : List (Nat × Nat))[i]?)
    ∧ (szT Tryz.prog 93 = some 15)
    ∧ (rowT Tryz.prog 93 = some true)
    ∧ (byT Tryz.prog 93 = some 200)
    ∧ (zeroT Tryz.prog 93 = some (.agg #[.int .i64 0, .int .i64 0, .int .i64 0, .int .i64 0, .int .i64 0, .string .empty, .string .empty, .string .empty, .string .empty, .slice none 0 0, .slice none 0 0, .int .i64 0, .slice none 0 0, .int .i64 0, .int .i64 0]))
    ∧ (fldT Tryz.prog 93 0 = some (0, 46))
    ∧ (fldT Tryz.prog 93 1 = some (2, 3))
    ∧ (fldT Tryz.prog 93 2 = some (3, 41))
    ∧ (fldT Tryz.prog 93 3 = some (10, 88))
    ∧ (fldT Tryz.prog 93 4 = some (12, 91))
    ∧ (fldT Tryz.prog 93 5 = some (14, 3))
    ∧ (partsT Tryz.prog 93 = some fun i => ([(0, 2), (2, 1), (3, 7), (10, 2), (12, 2), (14, 1)] : List (Nat × Nat))[i]?)
    ∧ (szT Tryz.prog 95 = some 17)
    ∧ (rowT Tryz.prog 95 = some true)
    ∧ (byT Tryz.prog 95 = some 232)
    ∧ (zeroT Tryz.prog 95 = some (.agg #[.slice none 0 0, .int .i64 0, .int .i64 0, .int .i64 0, .int .i64 0, .int .i64 0, .string .empty, .string .empty, .string .empty, .string .empty, .slice none 0 0, .slice none 0 0, .int .i64 0, .slice none 0 0, .int .i64 0, .int .i64 0, .bool false]))
    ∧ (fldT Tryz.prog 95 0 = some (0, 25))
    ∧ (fldT Tryz.prog 95 1 = some (1, 93))
    ∧ (fldT Tryz.prog 95 2 = some (16, 4))
    ∧ (partsT Tryz.prog 95 = some fun i => ([(0, 1), (1, 15), (16, 1)] : List (Nat × Nat))[i]?)
    ∧ (szT Tryz.prog 164 = some 3)
    ∧ (rowT Tryz.prog 164 = some true)
    ∧ (byT Tryz.prog 164 = some 40)
    ∧ (zeroT Tryz.prog 164 = some (.agg #[.slice none 0 0, .int .i64 0, .int .i64 0]))
    ∧ (fldT Tryz.prog 164 0 = some (0, 22))
    ∧ (fldT Tryz.prog 164 1 = some (1, 3))
    ∧ (fldT Tryz.prog 164 2 = some (2, 3))
    ∧ (partsT Tryz.prog 164 = some fun i => ([(0, 1), (1, 1), (2, 1)] : List (Nat × Nat))[i]?)
    ∧ (szT Tryz.prog 100 = some 17)
    ∧ (rowT Tryz.prog 100 = some true)
    ∧ (byT Tryz.prog 100 = some 232)
    ∧ (zeroT Tryz.prog 100 = some (.agg #[.slice none 0 0, .bool false, .int .i64 0, .int .i64 0, .int .i64 0, .int .i64 0, .int .i64 0, .string .empty, .string .empty, .string .empty, .string .empty, .slice none 0 0, .slice none 0 0, .int .i64 0, .slice none 0 0, .int .i64 0, .int .i64 0]))
    ∧ (fldT Tryz.prog 100 0 = some (0, 25))
    ∧ (fldT Tryz.prog 100 1 = some (1, 4))
    ∧ (fldT Tryz.prog 100 2 = some (2, 93))
    ∧ (partsT Tryz.prog 100 = some fun i => ([(0, 1), (1, 1), (2, 15)] : List (Nat × Nat))[i]?)
    ∧ (szT Tryz.prog 176 = some 2)
    ∧ (rowT Tryz.prog 176 = some true)
    ∧ (byT Tryz.prog 176 = some 16)
    ∧ (zeroT Tryz.prog 176 = some (.agg #[.int .i64 0, .int .i64 0]))
    ∧ (fldT Tryz.prog 176 0 = some (0, 3))
    ∧ (fldT Tryz.prog 176 1 = some (1, 3))
    ∧ (eqTab Tryz.prog 176 = some [(0, 0), (1, 0)])
    ∧ (partsT Tryz.prog 176 = some fun i => ([(0, 1), (1, 1)] : List (Nat × Nat))[i]?)
    ∧ (szT Tryz.prog 57 = some 6)
    ∧ (rowT Tryz.prog 57 = some true)
    ∧ (byT Tryz.prog 57 = some 80)
    ∧ (zeroT Tryz.prog 57 = some (.agg #[.int .i64 0, .int .i64 0, .string .empty, .string .empty, .string .empty, .string .empty]))
    ∧ (fldT Tryz.prog 57 0 = some (0, 3))
    ∧ (fldT Tryz.prog 57 1 = some (1, 3))
    ∧ (fldT Tryz.prog 57 2 = some (2, 9))
    ∧ (fldT Tryz.prog 57 3 = some (3, 9))
    ∧ (fldT Tryz.prog 57 4 = some (4, 9))
    ∧ (fldT Tryz.prog 57 5 = some (5, 9))
    ∧ (eqTab Tryz.prog 57 = some [(0, 0), (1, 0), (2, 2), (3, 2), (4, 2), (5, 2)])
    ∧ (partsT Tryz.prog 57 = some fun i => ([(0, 1), (1, 1), (2, 1), (3, 1), (4, 1), (5, 1)] : List (Nat × Nat))[i]?)
    ∧ (szT Tryz.prog 228 = some 2)
    ∧ (rowT Tryz.prog 228 = some true)
    ∧ (byT Tryz.prog 228 = some 24)
    ∧ (zeroT Tryz.prog 228 = some (.agg #[.int .i64 0, .string .empty]))
    ∧ (fldT Tryz.prog 228 0 = some (0, 3))
    ∧ (fldT Tryz.prog 228 1 = some (1, 9))
    ∧ (eqTab Tryz.prog 228 = some [(0, 0), (1, 2)])
    ∧ (partsT Tryz.prog 228 = some fun i => ([(0, 1), (1, 1)] : List (Nat × Nat))[i]?)
    ∧ (szT Tryz.prog 137 = some 4)
    ∧ (rowT Tryz.prog 137 = some true)
    ∧ (byT Tryz.prog 137 = some 56)
    ∧ (zeroT Tryz.prog 137 = some (.agg #[.int .i64 0, .int .i64 0, .string .empty, .slice none 0 0]))
    ∧ (fldT Tryz.prog 137 0 = some (0, 3))
    ∧ (fldT Tryz.prog 137 1 = some (1, 3))
    ∧ (fldT Tryz.prog 137 2 = some (2, 9))
    ∧ (fldT Tryz.prog 137 3 = some (3, 135))
    ∧ (partsT Tryz.prog 137 = some fun i => ([(0, 1), (1, 1), (2, 1), (3, 1)] : List (Nat × Nat))[i]?)
    ∧ (szT Tryz.prog 56 = some 2)
    ∧ (rowT Tryz.prog 56 = some true)
    ∧ (byT Tryz.prog 56 = some 16)
    ∧ (zeroT Tryz.prog 56 = some (.agg #[.int .i64 0, .int .i64 0]))
    ∧ (fldT Tryz.prog 56 0 = some (0, 3))
    ∧ (fldT Tryz.prog 56 1 = some (1, 3))
    ∧ (eqTab Tryz.prog 56 = some [(0, 0), (1, 0)])
    ∧ (partsT Tryz.prog 56 = some fun i => ([(0, 1), (1, 1)] : List (Nat × Nat))[i]?)
    ∧ (szT Tryz.prog 60 = some 7)
    ∧ (rowT Tryz.prog 60 = some true)
    ∧ (byT Tryz.prog 60 = some 104)
    ∧ (zeroT Tryz.prog 60 = some (.agg #[.int .i64 0, .int .i64 0, .string .empty, .string .empty, .string .empty, .string .empty, .slice none 0 0]))
    ∧ (fldT Tryz.prog 60 0 = some (0, 57))
    ∧ (fldT Tryz.prog 60 1 = some (6, 58))
    ∧ (partsT Tryz.prog 60 = some fun i => ([(0, 6), (6, 1)] : List (Nat × Nat))[i]?)
    ∧ (szT Tryz.prog 139 = some 12)
    ∧ (rowT Tryz.prog 139 = some true)
    ∧ (byT Tryz.prog 139 = some 184)
    ∧ (zeroT Tryz.prog 139 = some (.agg #[.int .i64 0, .int .i64 0, .string .empty, .string .empty, .string .empty, .string .empty, .slice none 0 0, .slice none 0 0, .int .i64 0, .int .i64 0, .string .empty, .slice none 0 0]))
    ∧ (fldT Tryz.prog 139 0 = some (0, 57))
    ∧ (fldT Tryz.prog 139 1 = some (6, 58))
    ∧ (fldT Tryz.prog 139 2 = some (7, 58))
    ∧ (fldT Tryz.prog 139 3 = some (8, 137))
    ∧ (partsT Tryz.prog 139 = some fun i => ([(0, 6), (6, 1), (7, 1), (8, 4)] : List (Nat × Nat))[i]?)
    ∧ (szT Tryz.prog 42 = some 1)
    ∧ (rowT Tryz.prog 42 = some false)
    ∧ (byT Tryz.prog 42 = some 24)
    ∧ (zeroT Tryz.prog 42 = some (.slice none 0 0))
    ∧ (elT Tryz.prog 42 = some 3)
    ∧ (arT Tryz.prog 42 = none)
    ∧ (isStrT Tryz.prog 42 = false)
    ∧ (szT Tryz.prog 83 = some 1)
    ∧ (rowT Tryz.prog 83 = some false)
    ∧ (byT Tryz.prog 83 = some 24)
    ∧ (zeroT Tryz.prog 83 = some (.slice none 0 0))
    ∧ (elT Tryz.prog 83 = some 9)
    ∧ (arT Tryz.prog 83 = none)
    ∧ (isStrT Tryz.prog 83 = false)
    ∧ (szT Tryz.prog 22 = some 1)
    ∧ (rowT Tryz.prog 22 = some false)
    ∧ (byT Tryz.prog 22 = some 24)
    ∧ (zeroT Tryz.prog 22 = some (.slice none 0 0))
    ∧ (elT Tryz.prog 22 = some 5)
    ∧ (arT Tryz.prog 22 = none)
    ∧ (isStrT Tryz.prog 22 = false)
    ∧ (szT Tryz.prog 31 = some 1)
    ∧ (rowT Tryz.prog 31 = some false)
    ∧ (byT Tryz.prog 31 = some 24)
    ∧ (zeroT Tryz.prog 31 = some (.slice none 0 0))
    ∧ (elT Tryz.prog 31 = some 76)
    ∧ (arT Tryz.prog 31 = none)
    ∧ (isStrT Tryz.prog 31 = false)
    ∧ (szT Tryz.prog 86 = some 1)
    ∧ (rowT Tryz.prog 86 = some false)
    ∧ (byT Tryz.prog 86 = some 24)
    ∧ (zeroT Tryz.prog 86 = some (.slice none 0 0))
    ∧ (elT Tryz.prog 86 = some 30)
    ∧ (arT Tryz.prog 86 = none)
    ∧ (isStrT Tryz.prog 86 = false)
    ∧ (szT Tryz.prog 32 = some 1)
    ∧ (rowT Tryz.prog 32 = some false)
    ∧ (byT Tryz.prog 32 = some 24)
    ∧ (zeroT Tryz.prog 32 = some (.slice none 0 0))
    ∧ (elT Tryz.prog 32 = some 127)
    ∧ (arT Tryz.prog 32 = none)
    ∧ (isStrT Tryz.prog 32 = false)
    ∧ (szT Tryz.prog 89 = some 1)
    ∧ (rowT Tryz.prog 89 = some false)
    ∧ (byT Tryz.prog 89 = some 24)
    ∧ (zeroT Tryz.prog 89 = some (.slice none 0 0))
    ∧ (elT Tryz.prog 89 = some 209)
    ∧ (arT Tryz.prog 89 = none)
    ∧ (isStrT Tryz.prog 89 = false)
    ∧ (szT Tryz.prog 25 = some 1)
    ∧ (rowT Tryz.prog 25 = some false)
    ∧ (byT Tryz.prog 25 = some 24)
    ∧ (zeroT Tryz.prog 25 = some (.slice none 0 0))
    ∧ (elT Tryz.prog 25 = some 36)
    ∧ (arT Tryz.prog 25 = none)
    ∧ (isStrT Tryz.prog 25 = false)
    ∧ (szT Tryz.prog 58 = some 1)
    ∧ (rowT Tryz.prog 58 = some false)
    ∧ (byT Tryz.prog 58 = some 24)
    ∧ (zeroT Tryz.prog 58 = some (.slice none 0 0))
    ∧ (elT Tryz.prog 58 = some 176)
    ∧ (arT Tryz.prog 58 = none)
    ∧ (isStrT Tryz.prog 58 = false)
    ∧ (szT Tryz.prog 135 = some 1)
    ∧ (rowT Tryz.prog 135 = some false)
    ∧ (byT Tryz.prog 135 = some 24)
    ∧ (zeroT Tryz.prog 135 = some (.slice none 0 0))
    ∧ (elT Tryz.prog 135 = some 228)
    ∧ (arT Tryz.prog 135 = none)
    ∧ (isStrT Tryz.prog 135 = false)
    ∧ (szT Tryz.prog 61 = some 1)
    ∧ (rowT Tryz.prog 61 = some false)
    ∧ (byT Tryz.prog 61 = some 24)
    ∧ (zeroT Tryz.prog 61 = some (.slice none 0 0))
    ∧ (elT Tryz.prog 61 = some 139)
    ∧ (arT Tryz.prog 61 = none)
    ∧ (isStrT Tryz.prog 61 = false)
    ∧ (szT Tryz.prog 232 = some 8)
    ∧ (rowT Tryz.prog 232 = some true)
    ∧ (byT Tryz.prog 232 = some 32)
    ∧ (zeroT Tryz.prog 232 = some (.agg #[.int .u32 0, .int .u32 0, .int .u32 0, .int .u32 0, .int .u32 0, .int .u32 0, .int .u32 0, .int .u32 0]))
    ∧ (arT Tryz.prog 232 = some (8, 231))
    ∧ (partsT Tryz.prog 232 = some fun i => some (i * 1, 1))
    ∧ (szT Tryz.prog 252 = some 64)
    ∧ (rowT Tryz.prog 252 = some true)
    ∧ (byT Tryz.prog 252 = some 256)
    ∧ (zeroT Tryz.prog 252 = some (.agg #[.int .u32 0, .int .u32 0, .int .u32 0, .int .u32 0, .int .u32 0, .int .u32 0, .int .u32 0, .int .u32 0, .int .u32 0, .int .u32 0, .int .u32 0, .int .u32 0, .int .u32 0, .int .u32 0, .int .u32 0, .int .u32 0, .int .u32 0, .int .u32 0, .int .u32 0, .int .u32 0, .int .u32 0, .int .u32 0, .int .u32 0, .int .u32 0, .int .u32 0, .int .u32 0, .int .u32 0, .int .u32 0, .int .u32 0, .int .u32 0, .int .u32 0, .int .u32 0, .int .u32 0, .int .u32 0, .int .u32 0, .int .u32 0, .int .u32 0, .int .u32 0, .int .u32 0, .int .u32 0, .int .u32 0, .int .u32 0, .int .u32 0, .int .u32 0, .int .u32 0, .int .u32 0, .int .u32 0, .int .u32 0, .int .u32 0, .int .u32 0, .int .u32 0, .int .u32 0, .int .u32 0, .int .u32 0, .int .u32 0, .int .u32 0, .int .u32 0, .int .u32 0, .int .u32 0, .int .u32 0, .int .u32 0, .int .u32 0, .int .u32 0, .int .u32 0]))
    ∧ (arT Tryz.prog 252 = some (64, 231))
    ∧ (partsT Tryz.prog 252 = some fun i => some (i * 1, 1))
    := by
  refine ⟨trivial
    , by kernel_rfl
    , by kernel_rfl
    , by kernel_rfl
    , by kernel_rfl
    , by kernel_rfl
    , by kernel_rfl
    , by kernel_rfl
    , by kernel_rfl
    , by kernel_rfl
    , by kernel_rfl
    , by kernel_rfl
    , by kernel_rfl
    , by kernel_rfl
    , by kernel_rfl
    , by kernel_rfl
    , by kernel_rfl
    , by kernel_rfl
    , by kernel_rfl
    , by kernel_rfl
    , by kernel_rfl
    , by kernel_rfl
    , by kernel_rfl
    , by kernel_rfl
    , by kernel_rfl
    , by kernel_rfl
    , by kernel_rfl
    , by kernel_rfl
    , by kernel_rfl
    , by kernel_rfl
    , by kernel_rfl
    , by kernel_rfl
    , by kernel_rfl
    , by kernel_rfl
    , by kernel_rfl
    , by kernel_rfl
    , by kernel_rfl
    , by kernel_rfl
    , by kernel_rfl
    , by kernel_rfl
    , by kernel_rfl
    , by kernel_rfl
    , by kernel_rfl
    , by kernel_rfl
    , by kernel_rfl
    , by kernel_rfl
    , by kernel_rfl
    , by kernel_rfl
    , by kernel_rfl
    , by kernel_rfl
    , by kernel_rfl
    , by kernel_rfl
    , by kernel_rfl
    , by kernel_rfl
    , by kernel_rfl
    , by kernel_rfl
    , by kernel_rfl
    , by kernel_rfl
    , by kernel_rfl
    , by kernel_rfl
    , by kernel_rfl
    , by kernel_rfl
    , by kernel_rfl
    , by kernel_rfl
    , by kernel_rfl
    , by kernel_rfl
    , by kernel_rfl
    , by kernel_rfl
    , by kernel_rfl
    , by kernel_rfl
    , by kernel_rfl
    , by kernel_rfl
    , by kernel_rfl
    , by kernel_rfl
    , by kernel_rfl
    , by kernel_rfl
    , by kernel_rfl
    , by kernel_rfl
    , by kernel_rfl
    , by kernel_rfl
    , by kernel_rfl
    , by kernel_rfl
    , by kernel_rfl
    , by kernel_rfl
    , by kernel_rfl
    , by kernel_rfl
    , by kernel_rfl
    , by kernel_rfl
    , by kernel_rfl
    , by kernel_rfl
    , by kernel_rfl
    , by kernel_rfl
    , by kernel_rfl
    , by kernel_rfl
    , by kernel_rfl
    , by kernel_rfl
    , by kernel_rfl
    , by kernel_rfl
    , by kernel_rfl
    , by kernel_rfl
    , by kernel_rfl
    , by kernel_rfl
    , by kernel_rfl
    , by kernel_rfl
    , by kernel_rfl
    , by kernel_rfl
    , by kernel_rfl
    , by kernel_rfl
    , by kernel_rfl
    , by kernel_rfl
    , by kernel_rfl
    , by kernel_rfl
    , by kernel_rfl
    , by kernel_rfl
    , by kernel_rfl
    , by kernel_rfl
    , by kernel_rfl
    , by kernel_rfl
    , by kernel_rfl
    , by kernel_rfl
    , by kernel_rfl
    , by kernel_rfl
    , by kernel_rfl
    , by kernel_rfl
    , by kernel_rfl
    , by kernel_rfl
    , by kernel_rfl
    , by kernel_rfl
    , by kernel_rfl
    , by kernel_rfl
    , by kernel_rfl
    , by kernel_rfl
    , by kernel_rfl
    , by kernel_rfl
    , by kernel_rfl
    , by kernel_rfl
    , by kernel_rfl
    , by kernel_rfl
    , by kernel_rfl
    , by kernel_rfl
    , by kernel_rfl
    , by kernel_rfl
    , by kernel_rfl
    , by kernel_rfl
    , by kernel_rfl
    , by kernel_rfl
    , by kernel_rfl
    , by kernel_rfl
    , by kernel_rfl
    , by kernel_rfl
    , by kernel_rfl
    , by kernel_rfl
    , by kernel_rfl
    , by kernel_rfl
    , by kernel_rfl
    , by kernel_rfl
    , by kernel_rfl
    , by kernel_rfl
    , by kernel_rfl
    , by kernel_rfl
    , by kernel_rfl
    , by kernel_rfl
    , by kernel_rfl
    , by kernel_rfl
    , by kernel_rfl
    , by kernel_rfl
    , by kernel_rfl
    , by kernel_rfl
    , by kernel_rfl
    , by kernel_rfl
    , by kernel_rfl
    , by kernel_rfl
    , by kernel_rfl
    , by kernel_rfl
    , by kernel_rfl
    , by kernel_rfl
    , by kernel_rfl
    , by kernel_rfl
    , by kernel_rfl
    , by kernel_rfl
    , by kernel_rfl
    , by kernel_rfl
    , by kernel_rfl
    , by kernel_rfl
    , by kernel_rfl
    , by kernel_rfl
    , by kernel_rfl
    , by kernel_rfl
    , by kernel_rfl
    , by kernel_rfl
    , by kernel_rfl
    , by kernel_rfl
    , by kernel_rfl
    , by kernel_rfl
    , by kernel_rfl
    , by kernel_rfl
    , by kernel_rfl
    , by kernel_rfl
    , by kernel_rfl
    , by kernel_rfl
    , by kernel_rfl
    , by kernel_rfl
    , by kernel_rfl
    , by kernel_rfl
    , by kernel_rfl
    , by kernel_rfl
    , by kernel_rfl
    , by kernel_rfl
    , by kernel_rfl
    , by kernel_rfl
    , by kernel_rfl
    , by kernel_rfl
    , by kernel_rfl
    , by kernel_rfl
    , by kernel_rfl
    , by kernel_rfl
    , by kernel_rfl
    , by kernel_rfl
    , by kernel_rfl
    , by kernel_rfl
    , by kernel_rfl
    , by kernel_rfl
    , by kernel_rfl
    , by kernel_rfl
    , by kernel_rfl
    , by kernel_rfl
    , by kernel_rfl
    , by kernel_rfl
    , by kernel_rfl
    , by kernel_rfl
    , by kernel_rfl
    , by kernel_rfl
    , by kernel_rfl
    , by kernel_rfl
    , by kernel_rfl
    , by kernel_rfl
    , by kernel_rfl
    , by kernel_rfl
    , by kernel_rfl
    , by kernel_rfl
    , by kernel_rfl
    , by kernel_rfl
    , by kernel_rfl
    , by kernel_rfl
    , by kernel_rfl
    , by kernel_rfl
    , by kernel_rfl
    , by kernel_rfl
    , by kernel_rfl
    , by kernel_rfl
    , by kernel_rfl
    , by kernel_rfl
    , by kernel_rfl
    , by kernel_rfl
    , by kernel_rfl
    , by kernel_rfl
    , by kernel_rfl
    , by kernel_rfl
    , by kernel_rfl
    , by kernel_rfl
    , by kernel_rfl
    , by kernel_rfl
    , by kernel_rfl
    , by kernel_rfl
    , by kernel_rfl
    , by kernel_rfl
    , by kernel_rfl
    , by kernel_rfl
    , by kernel_rfl
    , by kernel_rfl
    , by kernel_rfl
    , by kernel_rfl
    , by kernel_rfl
    , by kernel_rfl
    , by kernel_rfl
    , by kernel_rfl
    , by kernel_rfl
    , by kernel_rfl
    , by kernel_rfl
    , by kernel_rfl
    , by kernel_rfl
    , by kernel_rfl
    , by kernel_rfl
    , by kernel_rfl
    , by kernel_rfl
    , by kernel_rfl
    , by kernel_rfl
    , by kernel_rfl
    , by kernel_rfl
    , by kernel_rfl
    , by kernel_rfl
    , by kernel_rfl
    , by kernel_rfl
    , by kernel_rfl
    , by kernel_rfl
    , by kernel_rfl
    , by kernel_rfl
    , by kernel_rfl
    , by kernel_rfl
    , by kernel_rfl
    , by kernel_rfl
    , by kernel_rfl
    , by kernel_rfl
    , by kernel_rfl
    , by kernel_rfl
    , by kernel_rfl
    , by kernel_rfl
    , by kernel_rfl
    , by kernel_rfl
    , by kernel_rfl
    , by kernel_rfl
    , by kernel_rfl
    , by kernel_rfl
    , by kernel_rfl
    , by kernel_rfl
    , by kernel_rfl
    ⟩
end Go.Proofs.YtfgkfcfplodaoaaGreatDoor
