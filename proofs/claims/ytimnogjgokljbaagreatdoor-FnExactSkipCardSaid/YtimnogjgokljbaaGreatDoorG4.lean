/-
  Put together: EvTy Ival.
-/
import Derived.Test.YtimnogjgokljbaaGreatDoorHEv3
import Derived.Test.YtimnogjgokljbaaGreatDoorProg
import Derived.Test.YtimnogjgokljbaaGreatDoorBase
section
/-!
  What the table of types says.
-/
namespace Go.Proofs.YtimnogjgokljbaaGreatDoor
set_option maxRecDepth 100000
set_option linter.unusedVariables false
set_option linter.unusedSimpArgs false
open Go Go.RowKit

theorem TY : True
    ∧ (szT Tryz.prog 3 = some 1)
    ∧ (rowT Tryz.prog 3 = some false)
    ∧ (byT Tryz.prog 3 = some 8)
    ∧ (zeroT Tryz.prog 3 = some (.int .i64 0))
    ∧ (intT Tryz.prog 3 = some .i64)
    ∧ (Tryz.prog.underlying 3 = some (.int .i64))
    ∧ (szT Tryz.prog 9 = some 1)
    ∧ (rowT Tryz.prog 9 = some false)
    ∧ (byT Tryz.prog 9 = some 16)
    ∧ (zeroT Tryz.prog 9 = some (.string .empty))
    ∧ (isStrT Tryz.prog 9 = true)
    ∧ (arT Tryz.prog 9 = none)
    ∧ (szT Tryz.prog 4 = some 1)
    ∧ (rowT Tryz.prog 4 = some false)
    ∧ (byT Tryz.prog 4 = some 1)
    ∧ (zeroT Tryz.prog 4 = some (.bool false))
    ∧ (szT Tryz.prog 5 = some 1)
    ∧ (rowT Tryz.prog 5 = some false)
    ∧ (byT Tryz.prog 5 = some 1)
    ∧ (zeroT Tryz.prog 5 = some (.int .u8 0))
    ∧ (intT Tryz.prog 5 = some .u8)
    ∧ (Tryz.prog.underlying 5 = some (.int .u8))
    ∧ (szT Tryz.prog 177 = some 1)
    ∧ (rowT Tryz.prog 177 = some false)
    ∧ (byT Tryz.prog 177 = some 4)
    ∧ (zeroT Tryz.prog 177 = some (.int .u32 0))
    ∧ (intT Tryz.prog 177 = some .u32)
    ∧ (Tryz.prog.underlying 177 = some (.int .u32))
    ∧ (szT Tryz.prog 139 = some 1)
    ∧ (rowT Tryz.prog 139 = some false)
    ∧ (byT Tryz.prog 139 = some 8)
    ∧ (zeroT Tryz.prog 139 = some (.int .u64 0))
    ∧ (intT Tryz.prog 139 = some .u64)
    ∧ (Tryz.prog.underlying 139 = some (.int .u64))
    ∧ (szT Tryz.prog 100 = some 2)
    ∧ (rowT Tryz.prog 100 = some true)
    ∧ (byT Tryz.prog 100 = some 16)
    ∧ (zeroT Tryz.prog 100 = some (.agg #[.int .i64 0, .int .i64 0]))
    ∧ (fldT Tryz.prog 100 0 = some (0, 3))
    ∧ (fldT Tryz.prog 100 1 = some (1, 3))
    ∧ (eqTab Tryz.prog 100 = some [(0, 0), (1, 0)])
    ∧ (partsT Tryz.prog 100 = some fun i => ([(0, 1), (1, 1)] : List (Nat × Nat))[i]?)
    ∧ (szT Tryz.prog 36 = some 6)
    ∧ (rowT Tryz.prog 36 = some true)
    ∧ (byT Tryz.prog 36 = some 80)
    ∧ (zeroT Tryz.prog 36 = some (.agg #[.int .i64 0, .int .i64 0, .string .empty, .string .empty, .string .empty, .string .empty]))
    ∧ (fldT Tryz.prog 36 0 = some (0, 3))
    ∧ (fldT Tryz.prog 36 1 = some (1, 3))
    ∧ (fldT Tryz.prog 36 2 = some (2, 9))
    ∧ (fldT Tryz.prog 36 3 = some (3, 9))
    ∧ (fldT Tryz.prog 36 4 = some (4, 9))
    ∧ (fldT Tryz.prog 36 5 = some (5, 9))
    ∧ (eqTab Tryz.prog 36 = some [(0, 0), (1, 0), (2, 2), (3, 2), (4, 2), (5, 2)])
    ∧ (partsT Tryz.prog 36 = some fun i => ([(0, 1), (1, 1), (2, 1), (3, 1), (4, 1), (5, 1)] : List (Nat × Nat))[i]?)
    ∧ (szT Tryz.prog 127 = some 5)
    ∧ (rowT Tryz.prog 127 = some true)
    ∧ (byT Tryz.prog 127 = some 48)
    ∧ (zeroT Tryz.prog 127 = some (.agg #[.int .i64 0, .int .i64 0, .int .i64 0, .string .empty, .int .i64 0]))
    ∧ (fldT Tryz.prog 127 0 = some (0, 3))
    ∧ (fldT Tryz.prog 127 1 = some (1, 3))
    ∧ (fldT Tryz.prog 127 2 = some (2, 3))
    ∧ (fldT Tryz.prog 127 3 = some (3, 9))
    ∧ (fldT Tryz.prog 127 4 = some (4, 3))
    ∧ (eqTab Tryz.prog 127 = some [(0, 0), (1, 0), (2, 0), (3, 2), (4, 0)])
    ∧ (partsT Tryz.prog 127 = some fun i => ([(0, 1), (1, 1), (2, 1), (3, 1), (4, 1)] : List (Nat × Nat))[i]?)
    ∧ (szT Tryz.prog 124 = some 2)
    ∧ (rowT Tryz.prog 124 = some true)
    ∧ (byT Tryz.prog 124 = some 24)
    ∧ (zeroT Tryz.prog 124 = some (.agg #[.int .i64 0, .string .empty]))
    ∧ (fldT Tryz.prog 124 0 = some (0, 3))
    ∧ (fldT Tryz.prog 124 1 = some (1, 9))
    ∧ (eqTab Tryz.prog 124 = some [(0, 0), (1, 2)])
    ∧ (partsT Tryz.prog 124 = some fun i => ([(0, 1), (1, 1)] : List (Nat × Nat))[i]?)
    ∧ (szT Tryz.prog 47 = some 4)
    ∧ (rowT Tryz.prog 47 = some true)
    ∧ (byT Tryz.prog 47 = some 56)
    ∧ (zeroT Tryz.prog 47 = some (.agg #[.int .i64 0, .int .i64 0, .string .empty, .slice none 0 0]))
    ∧ (fldT Tryz.prog 47 0 = some (0, 3))
    ∧ (fldT Tryz.prog 47 1 = some (1, 3))
    ∧ (fldT Tryz.prog 47 2 = some (2, 9))
    ∧ (fldT Tryz.prog 47 3 = some (3, 45))
    ∧ (partsT Tryz.prog 47 = some fun i => ([(0, 1), (1, 1), (2, 1), (3, 1)] : List (Nat × Nat))[i]?)
    ∧ (szT Tryz.prog 42 = some 2)
    ∧ (rowT Tryz.prog 42 = some true)
    ∧ (byT Tryz.prog 42 = some 16)
    ∧ (zeroT Tryz.prog 42 = some (.agg #[.int .i64 0, .int .i64 0]))
    ∧ (fldT Tryz.prog 42 0 = some (0, 3))
    ∧ (fldT Tryz.prog 42 1 = some (1, 3))
    ∧ (eqTab Tryz.prog 42 = some [(0, 0), (1, 0)])
    ∧ (partsT Tryz.prog 42 = some fun i => ([(0, 1), (1, 1)] : List (Nat × Nat))[i]?)
    ∧ (szT Tryz.prog 39 = some 7)
    ∧ (rowT Tryz.prog 39 = some true)
    ∧ (byT Tryz.prog 39 = some 104)
    ∧ (zeroT Tryz.prog 39 = some (.agg #[.int .i64 0, .int .i64 0, .string .empty, .string .empty, .string .empty, .string .empty, .slice none 0 0]))
    ∧ (fldT Tryz.prog 39 0 = some (0, 36))
    ∧ (fldT Tryz.prog 39 1 = some (6, 37))
    ∧ (partsT Tryz.prog 39 = some fun i => ([(0, 6), (6, 1)] : List (Nat × Nat))[i]?)
    ∧ (szT Tryz.prog 49 = some 12)
    ∧ (rowT Tryz.prog 49 = some true)
    ∧ (byT Tryz.prog 49 = some 184)
    ∧ (zeroT Tryz.prog 49 = some (.agg #[.int .i64 0, .int .i64 0, .string .empty, .string .empty, .string .empty, .string .empty, .slice none 0 0, .slice none 0 0, .int .i64 0, .int .i64 0, .string .empty, .slice none 0 0]))
    ∧ (fldT Tryz.prog 49 0 = some (0, 36))
    ∧ (fldT Tryz.prog 49 1 = some (6, 37))
    ∧ (fldT Tryz.prog 49 2 = some (7, 37))
    ∧ (fldT Tryz.prog 49 3 = some (8, 47))
    ∧ (partsT Tryz.prog 49 = some fun i => ([(0, 6), (6, 1), (7, 1), (8, 4)] : List (Nat × Nat))[i]?)
    ∧ (szT Tryz.prog 148 = some 3)
    ∧ (rowT Tryz.prog 148 = some true)
    ∧ (byT Tryz.prog 148 = some 40)
    ∧ (zeroT Tryz.prog 148 = some (.agg #[.slice none 0 0, .int .i64 0, .int .i64 0]))
    ∧ (fldT Tryz.prog 148 0 = some (0, 56))
    ∧ (fldT Tryz.prog 148 1 = some (1, 3))
    ∧ (fldT Tryz.prog 148 2 = some (2, 3))
    ∧ (partsT Tryz.prog 148 = some fun i => ([(0, 1), (1, 1), (2, 1)] : List (Nat × Nat))[i]?)
    ∧ (szT Tryz.prog 134 = some 2)
    ∧ (rowT Tryz.prog 134 = some true)
    ∧ (byT Tryz.prog 134 = some 16)
    ∧ (zeroT Tryz.prog 134 = some (.agg #[.int .i64 0, .int .i64 0]))
    ∧ (fldT Tryz.prog 134 0 = some (0, 3))
    ∧ (fldT Tryz.prog 134 1 = some (1, 3))
    ∧ (eqTab Tryz.prog 134 = some [(0, 0), (1, 0)])
    ∧ (partsT Tryz.prog 134 = some fun i => ([(0, 1), (1, 1)] : List (Nat × Nat))[i]?)
    ∧ (szT Tryz.prog 25 = some 6)
    ∧ (rowT Tryz.prog 25 = some true)
    ∧ (byT Tryz.prog 25 = some 80)
    ∧ (zeroT Tryz.prog 25 = some (.agg #[.int .i64 0, .int .i64 0, .string .empty, .string .empty, .string .empty, .string .empty]))
    ∧ (fldT Tryz.prog 25 0 = some (0, 3))
    ∧ (fldT Tryz.prog 25 1 = some (1, 3))
    ∧ (fldT Tryz.prog 25 2 = some (2, 9))
    ∧ (fldT Tryz.prog 25 3 = some (3, 9))
    ∧ (fldT Tryz.prog 25 4 = some (4, 9))
    ∧ (fldT Tryz.prog 25 5 = some (5, 9))
    ∧ (eqTab Tryz.prog 25 = some [(0, 0), (1, 0), (2, 2), (3, 2), (4, 2), (5, 2)])
    ∧ (partsT Tryz.prog 25 = some fun i => ([(0, 1), (1, 1), (2, 1), (3, 1), (4, 1), (5, 1)] : List (Nat × Nat))[i]?)
    ∧ (szT Tryz.prog 155 = some 2)
    ∧ (rowT Tryz.prog 155 = some true)
    ∧ (byT Tryz.prog 155 = some 24)
    ∧ (zeroT Tryz.prog 155 = some (.agg #[.int .i64 0, .string .empty]))
    ∧ (fldT Tryz.prog 155 0 = some (0, 3))
    ∧ (fldT Tryz.prog 155 1 = some (1, 9))
    ∧ (eqTab Tryz.prog 155 = some [(0, 0), (1, 2)])
    ∧ (partsT Tryz.prog 155 = some fun i => ([(0, 1), (1, 1)] : List (Nat × Nat))[i]?)
    ∧ (szT Tryz.prog 31 = some 4)
    ∧ (rowT Tryz.prog 31 = some true)
    ∧ (byT Tryz.prog 31 = some 56)
    ∧ (zeroT Tryz.prog 31 = some (.agg #[.int .i64 0, .int .i64 0, .string .empty, .slice none 0 0]))
    ∧ (fldT Tryz.prog 31 0 = some (0, 3))
    ∧ (fldT Tryz.prog 31 1 = some (1, 3))
    ∧ (fldT Tryz.prog 31 2 = some (2, 9))
    ∧ (fldT Tryz.prog 31 3 = some (3, 29))
    ∧ (partsT Tryz.prog 31 = some fun i => ([(0, 1), (1, 1), (2, 1), (3, 1)] : List (Nat × Nat))[i]?)
    ∧ (szT Tryz.prog 23 = some 2)
    ∧ (rowT Tryz.prog 23 = some true)
    ∧ (byT Tryz.prog 23 = some 16)
    ∧ (zeroT Tryz.prog 23 = some (.agg #[.int .i64 0, .int .i64 0]))
    ∧ (fldT Tryz.prog 23 0 = some (0, 3))
    ∧ (fldT Tryz.prog 23 1 = some (1, 3))
    ∧ (eqTab Tryz.prog 23 = some [(0, 0), (1, 0)])
    ∧ (partsT Tryz.prog 23 = some fun i => ([(0, 1), (1, 1)] : List (Nat × Nat))[i]?)
    ∧ (szT Tryz.prog 28 = some 7)
    ∧ (rowT Tryz.prog 28 = some true)
    ∧ (byT Tryz.prog 28 = some 104)
    ∧ (zeroT Tryz.prog 28 = some (.agg #[.int .i64 0, .int .i64 0, .string .empty, .string .empty, .string .empty, .string .empty, .slice none 0 0]))
    ∧ (fldT Tryz.prog 28 0 = some (0, 25))
    ∧ (fldT Tryz.prog 28 1 = some (6, 26))
    ∧ (partsT Tryz.prog 28 = some fun i => ([(0, 6), (6, 1)] : List (Nat × Nat))[i]?)
    ∧ (szT Tryz.prog 33 = some 12)
    ∧ (rowT Tryz.prog 33 = some true)
    ∧ (byT Tryz.prog 33 = some 184)
    ∧ (zeroT Tryz.prog 33 = some (.agg #[.int .i64 0, .int .i64 0, .string .empty, .string .empty, .string .empty, .string .empty, .slice none 0 0, .slice none 0 0, .int .i64 0, .int .i64 0, .string .empty, .slice none 0 0]))
    ∧ (fldT Tryz.prog 33 0 = some (0, 25))
    ∧ (fldT Tryz.prog 33 1 = some (6, 26))
    ∧ (fldT Tryz.prog 33 2 = some (7, 26))
    ∧ (fldT Tryz.prog 33 3 = some (8, 31))
    ∧ (partsT Tryz.prog 33 = some fun i => ([(0, 6), (6, 1), (7, 1), (8, 4)] : List (Nat × Nat))[i]?)
    ∧ (szT Tryz.prog 61 = some 1)
    ∧ (rowT Tryz.prog 61 = some false)
    ∧ (byT Tryz.prog 61 = some 24)
    ∧ (zeroT Tryz.prog 61 = some (.slice none 0 0))
    ∧ (elT Tryz.prog 61 = some 3)
    ∧ (arT Tryz.prog 61 = none)
    ∧ (isStrT Tryz.prog 61 = false)
    ∧ (szT Tryz.prog 150 = some 1)
    ∧ (rowT Tryz.prog 150 = some false)
    ∧ (byT Tryz.prog 150 = some 24)
    ∧ (zeroT Tryz.prog 150 = some (.slice none 0 0))
    ∧ (elT Tryz.prog 150 = some 9)
    ∧ (arT Tryz.prog 150 = none)
    ∧ (isStrT Tryz.prog 150 = false)
    ∧ (szT Tryz.prog 56 = some 1)
    ∧ (rowT Tryz.prog 56 = some false)
    ∧ (byT Tryz.prog 56 = some 24)
    ∧ (zeroT Tryz.prog 56 = some (.slice none 0 0))
    ∧ (elT Tryz.prog 56 = some 5)
    ∧ (arT Tryz.prog 56 = none)
    ∧ (isStrT Tryz.prog 56 = false)
    ∧ (szT Tryz.prog 37 = some 1)
    ∧ (rowT Tryz.prog 37 = some false)
    ∧ (byT Tryz.prog 37 = some 24)
    ∧ (zeroT Tryz.prog 37 = some (.slice none 0 0))
    ∧ (elT Tryz.prog 37 = some 100)
    ∧ (arT Tryz.prog 37 = none)
    ∧ (isStrT Tryz.prog 37 = false)
    ∧ (szT Tryz.prog 45 = some 1)
    ∧ (rowT Tryz.prog 45 = some false)
    ∧ (byT Tryz.prog 45 = some 24)
    ∧ (zeroT Tryz.prog 45 = some (.slice none 0 0))
    ∧ (elT Tryz.prog 45 = some 124)
    ∧ (arT Tryz.prog 45 = none)
    ∧ (isStrT Tryz.prog 45 = false)
    ∧ (szT Tryz.prog 58 = some 1)
    ∧ (rowT Tryz.prog 58 = some false)
    ∧ (byT Tryz.prog 58 = some 24)
    ∧ (zeroT Tryz.prog 58 = some (.slice none 0 0))
    ∧ (elT Tryz.prog 58 = some 49)
    ∧ (arT Tryz.prog 58 = none)
    ∧ (isStrT Tryz.prog 58 = false)
    ∧ (szT Tryz.prog 26 = some 1)
    ∧ (rowT Tryz.prog 26 = some false)
    ∧ (byT Tryz.prog 26 = some 24)
    ∧ (zeroT Tryz.prog 26 = some (.slice none 0 0))
    ∧ (elT Tryz.prog 26 = some 134)
    ∧ (arT Tryz.prog 26 = none)
    ∧ (isStrT Tryz.prog 26 = false)
    ∧ (szT Tryz.prog 29 = some 1)
    ∧ (rowT Tryz.prog 29 = some false)
    ∧ (byT Tryz.prog 29 = some 24)
    ∧ (zeroT Tryz.prog 29 = some (.slice none 0 0))
    ∧ (elT Tryz.prog 29 = some 155)
    ∧ (arT Tryz.prog 29 = none)
    ∧ (isStrT Tryz.prog 29 = false)
    ∧ (szT Tryz.prog 71 = some 1)
    ∧ (rowT Tryz.prog 71 = some false)
    ∧ (byT Tryz.prog 71 = some 24)
    ∧ (zeroT Tryz.prog 71 = some (.slice none 0 0))
    ∧ (elT Tryz.prog 71 = some 33)
    ∧ (arT Tryz.prog 71 = none)
    ∧ (isStrT Tryz.prog 71 = false)
    ∧ (szT Tryz.prog 180 = some 8)
    ∧ (rowT Tryz.prog 180 = some true)
    ∧ (byT Tryz.prog 180 = some 32)
    ∧ (zeroT Tryz.prog 180 = some (.agg #[.int .u32 0, .int .u32 0, .int .u32 0, .int .u32 0, .int .u32 0, .int .u32 0, .int .u32 0, .int .u32 0]))
    ∧ (arT Tryz.prog 180 = some (8, 177))
    ∧ (partsT Tryz.prog 180 = some fun i => some (i * 1, 1))
    ∧ (szT Tryz.prog 188 = some 64)
    ∧ (rowT Tryz.prog 188 = some true)
    ∧ (byT Tryz.prog 188 = some 256)
    ∧ (zeroT Tryz.prog 188 = some (.agg #[.int .u32 0, .int .u32 0, .int .u32 0, .int .u32 0, .int .u32 0, .int .u32 0, .int .u32 0, .int .u32 0, .int .u32 0, .int .u32 0, .int .u32 0, .int .u32 0, .int .u32 0, .int .u32 0, .int .u32 0, .int .u32 0, .int .u32 0, .int .u32 0, .int .u32 0, .int .u32 0, .int .u32 0, .int .u32 0, .int .u32 0, .int .u32 0, .int .u32 0, .int .u32 0, .int .u32 0, .int .u32 0, .int .u32 0, .int .u32 0, .int .u32 0, .int .u32 0, .int .u32 0, .int .u32 0, .int .u32 0, .int .u32 0, .int .u32 0, .int .u32 0, .int .u32 0, .int .u32 0, .int .u32 0, .int .u32 0, .int .u32 0, .int .u32 0, .int .u32 0, .int .u32 0, .int .u32 0, .int .u32 0, .int .u32 0, .int .u32 0, .int .u32 0, .int .u32 0, .int .u32 0, .int .u32 0, .int .u32 0, .int .u32 0, .int .u32 0, .int .u32 0, .int .u32 0, .int .u32 0, .int .u32 0, .int .u32 0, .int .u32 0, .int .u32 0]))
    ∧ (arT Tryz.prog 188 = some (64, 177))
    ∧ (partsT Tryz.prog 188 = some fun i => some (i * 1, 1))
    := by
  refine ⟨trivial
    , by kernel_rfl
    , by kernel_rfl
    , by kernel_rfl
    , by kernel_rfl
    , by kernel_rfl
    , by kernel_rfl
    , by kernel_rfl
    , by kernel_rfl
    , by kernel_rfl
    , by kernel_rfl
    , by kernel_rfl
    , by kernel_rfl
    , by kernel_rfl
    , by kernel_rfl
    , by kernel_rfl
    , by kernel_rfl
    , by kernel_rfl
    , by kernel_rfl
    , by kernel_rfl
    , by kernel_rfl
    , by kernel_rfl
    , by kernel_rfl
    , by kernel_rfl
    , by kernel_rfl
    , by kernel_rfl
    , by kernel_rfl
    , by kernel_rfl
    , by kernel_rfl
    , by kernel_rfl
    , by kernel_rfl
    , by kernel_rfl
    , by kernel_rfl
    , by kernel_rfl
    , by kernel_rfl
    , by kernel_rfl
    , by kernel_rfl
    , by kernel_rfl
    , by kernel_rfl
    , by kernel_rfl
    , by kernel_rfl
    , by kernel_rfl
    , by kernel_rfl
    , by kernel_rfl
    , by kernel_rfl
    , by kernel_rfl
    , by kernel_rfl
    , by kernel_rfl
    , by kernel_rfl
    , by kernel_rfl
    , by kernel_rfl
    , by kernel_rfl
    , by kernel_rfl
    , by kernel_rfl
    , by kernel_rfl
    , by kernel_rfl
    , by kernel_rfl
    , by kernel_rfl
    , by kernel_rfl
    , by kernel_rfl
    , by kernel_rfl
    , by kernel_rfl
    , by kernel_rfl
    , by kernel_rfl
    , by kernel_rfl
    , by kernel_rfl
    , by kernel_rfl
    , by kernel_rfl
    , by kernel_rfl
    , by kernel_rfl
    , by kernel_rfl
    , by kernel_rfl
    , by kernel_rfl
    , by kernel_rfl
    , by kernel_rfl
    , by kernel_rfl
    , by kernel_rfl
    , by kernel_rfl
    , by kernel_rfl
    , by kernel_rfl
    , by kernel_rfl
    , by kernel_rfl
    , by kernel_rfl
    , by kernel_rfl
    , by kernel_rfl
    , by kernel_rfl
    , by kernel_rfl
    , by kernel_rfl
    , by kernel_rfl
    , by kernel_rfl
    , by kernel_rfl
    , by kernel_rfl
    , by kernel_rfl
    , by kernel_rfl
    , by kernel_rfl
    , by kernel_rfl
    , by kernel_rfl
    , by kernel_rfl
    , by kernel_rfl
    , by kernel_rfl
    , by kernel_rfl
    , by kernel_rfl
    , by kernel_rfl
    , by kernel_rfl
    , by kernel_rfl
    , by kernel_rfl
    , by kernel_rfl
    , by kernel_rfl
    , by kernel_rfl
    , by kernel_rfl
    , by kernel_rfl
    , by kernel_rfl
    , by kernel_rfl
    , by kernel_rfl
    , by kernel_rfl
    , by kernel_rfl
    , by kernel_rfl
    , by kernel_rfl
    , by kernel_rfl
    , by kernel_rfl
    , by kernel_rfl
    , by kernel_rfl
    , by kernel_rfl
    , by kernel_rfl
    , by kernel_rfl
    , by kernel_rfl
    , by kernel_rfl
    , by kernel_rfl
    , by kernel_rfl
    , by kernel_rfl
    , by kernel_rfl
    , by kernel_rfl
    , by kernel_rfl
    , by kernel_rfl
    , by kernel_rfl
    , by kernel_rfl
    , by kernel_rfl
    , by kernel_rfl
    , by kernel_rfl
    , by kernel_rfl
    , by kernel_rfl
    , by kernel_rfl
    , by kernel_rfl
    , by kernel_rfl
    , by kernel_rfl
    , by kernel_rfl
    , by kernel_rfl
    , by kernel_rfl
    , by kernel_rfl
    , by kernel_rfl
    , by kernel_rfl
    , by kernel_rfl
    , by kernel_rfl
    , by kernel_rfl
    , by kernel_rfl
    , by kernel_rfl
    , by kernel_rfl
    , by kernel_rfl
    , by kernel_rfl
    , by kernel_rfl
    , by kernel_rfl
    , by kernel_rfl
    , by kernel_rfl
    , by kernel_rfl
    , by kernel_rfl
    , by kernel_rfl
    , by kernel_rfl
    , by kernel_rfl
    , by kernel_rfl
    , by kernel_rfl
    , by kernel_rfl
    , by kernel_rfl
    , by kernel_rfl
    , by kernel_rfl
    , by kernel_rfl
    , by kernel_rfl
    , by kernel_rfl
    , by kernel_rfl
    , by kernel_rfl
    , by kernel_rfl
    , by kernel_rfl
    , by kernel_rfl
    , by kernel_rfl
    , by kernel_rfl
    , by kernel_rfl
    , by kernel_rfl
    , by kernel_rfl
    , by kernel_rfl
    , by kernel_rfl
    , by kernel_rfl
    , by kernel_rfl
    , by kernel_rfl
    , by kernel_rfl
    , by kernel_rfl
    , by kernel_rfl
    , by kernel_rfl
    , by kernel_rfl
    , by kernel_rfl
    , by kernel_rfl
    , by kernel_rfl
    , by kernel_rfl
    , by kernel_rfl
    , by kernel_rfl
    , by kernel_rfl
    , by kernel_rfl
    , by kernel_rfl
    , by kernel_rfl
    , by kernel_rfl
    , by kernel_rfl
    , by kernel_rfl
    , by kernel_rfl
    , by kernel_rfl
    , by kernel_rfl
    , by kernel_rfl
    , by kernel_rfl
    , by kernel_rfl
    , by kernel_rfl
    , by kernel_rfl
    , by kernel_rfl
    , by kernel_rfl
    , by kernel_rfl
    , by kernel_rfl
    , by kernel_rfl
    , by kernel_rfl
    , by kernel_rfl
    , by kernel_rfl
    , by kernel_rfl
    , by kernel_rfl
    , by kernel_rfl
    , by kernel_rfl
    , by kernel_rfl
    , by kernel_rfl
    , by kernel_rfl
    , by kernel_rfl
    , by kernel_rfl
    , by kernel_rfl
    , by kernel_rfl
    , by kernel_rfl
    , by kernel_rfl
    , by kernel_rfl
    , by kernel_rfl
    , by kernel_rfl
    , by kernel_rfl
    , by kernel_rfl
    , by kernel_rfl
    , by kernel_rfl
    , by kernel_rfl
    , by kernel_rfl
    , by kernel_rfl
    , by kernel_rfl
    , by kernel_rfl
    ⟩

end Go.Proofs.YtimnogjgokljbaaGreatDoor

end
section
/-!
  Slices that own a block; intervals of blocks. No program is named here.
-/
namespace Go.Proofs.YtimnogjgokljbaaGreatDoor
set_option maxRecDepth 100000
set_option linter.unusedVariables false
set_option linter.unusedSimpArgs false
open Go.RowKit

/-- The block b holds from off on the elements of l, s cells each, and may be written; it is not older than B0. -/
def OwnAt {α : Type} (w : World) (B0 s : Nat) (f : α → List Value) (b off : Nat) (l : List α) : Prop :=
  B0 ≤ b ∧ b < w.heap.size ∧ (∀ o, w.frozen? ⟨b, o, none⟩ = false) ∧ ∀ i x, l[i]? = some x → ∀ j u, (f x)[j]? = some u → w.cell? ⟨b, off + i * s + j, none⟩ = some u

section
variable {α : Type} {w w' : World} {B0 s b off : Nat} {f : α → List Value} {l : List α}
theorem OwnS.at_ {v : Value} (h : OwnS w B0 s f v l) (hne : l ≠ []) : ∃ b off c, v = .slice (some ⟨b, off, none⟩) l.length c ∧ l.length ≤ c ∧ c ≤ maxLen ∧ OwnAt w B0 s f b off l := by
  obtain ⟨A, c, hv, h1, h2, hn⟩ := h
  obtain ⟨b, off, rfl, h3⟩ := hn hne
  exact ⟨b, off, c, hv, h1, h2, h3⟩
theorem OwnAt.slice {c : Nat} (h : OwnAt w B0 s f b off l) (h1 : l.length ≤ c) (h2 : c ≤ maxLen) : OwnS w B0 s f (.slice (some ⟨b, off, none⟩) l.length c) l :=
  ⟨_, c, rfl, h1, h2, fun _ => ⟨b, off, rfl, h⟩⟩
theorem OwnAt.cell (h : OwnAt w B0 s f b off l) {i : Nat} (hi : i < l.length) {j : Nat} {u : Value} (hu : (f l[i])[j]? = some u) : w.cell? ⟨b, off + i * s + j, none⟩ = some u :=
  h.2.2.2 i _ (List.getElem?_eq_getElem hi) j u hu
theorem OwnAt.below (h : OwnAt w B0 s f b off l) (hb : Below w.heap.size w w') : OwnAt w' B0 s f b off l :=
  ⟨h.1, Nat.lt_of_lt_of_le h.2.1 hb.size, fun o => (hb.frozen (p := ⟨b, o, none⟩) h.2.1).trans (h.2.2.1 o), fun i x hx j u hu => (hb.cell (p := ⟨b, _, none⟩) h.2.1).trans (h.2.2.2 i x hx j u hu)⟩
theorem OwnAt.drewN (h : OwnAt w B0 s f b off l) (n : Nat) : OwnAt (w.drewN n) B0 s f b off l := h.below (below_drewN (Below.refl _ _) n)

theorem OwnAt.old (h : OwnAt w B0 s f b off l) (hf : ∀ x, (f x).length = s) {i : Nat} (hi : i < l.length) {j : Nat} (hj : j < s) : ∃ u, w.cell? ⟨b, off + i * s + j, none⟩ = some u :=
  ⟨_, h.2.2.2 i _ (List.getElem?_eq_getElem hi) j _ (List.getElem?_eq_getElem (by rw [hf]; exact hj))⟩

end

/-- but for the blocks from lo on, below hi, nothing that was there has turned -/
structure Only (lo hi : Nat) (w w' : World) : Prop where
  os : w'.os = w.os
  tape : w'.tape = w.tape
  output : w'.output = w.output
  size : w.heap.size ≤ w'.heap.size
  block : ∀ k, k < w.heap.size → k < lo ∨ hi ≤ k → w'.heap[k]? = w.heap[k]?

theorem Only.below {lo hi B : Nat} {w w' : World} (h : Only lo hi w w') (hB : B ≤ lo) (hs : B ≤ w.heap.size) : Below B w w' :=
  ⟨h.os, h.tape, h.output, h.size, fun k hk => h.block k (by omega) (.inl (by omega))⟩

theorem Only.set (w : World) (b o : Nat) (u : Value) : Only b (b + 1) w (w.setCell ⟨b, o, none⟩ u) :=
  ⟨rfl, rfl, rfl, by simp [World.setCell], fun k _ hd => Below.heap_setCell w _ u k (by simp; omega)⟩

section
variable {α : Type} {w w' : World} {lo hi lo' hi' s B : Nat} {f : α → List Value} {v : Value} {l : List α}

/-- a slice of one's own whose block lies from lo on, below hi -/
def OwnI {α : Type} (w : World) (lo hi s : Nat) (f : α → List Value) (v : Value) (l : List α) : Prop :=
  OwnS w lo s f v l ∧ ∀ g, l ≠ [] → v.ownBlock = some g → g < hi

theorem OwnI.of_new (h : OwnS w' lo s f v l) : OwnI w' lo w'.heap.size s f v l := by
  refine ⟨h, fun g hne hg => ?_⟩
  obtain ⟨b, off, c, rfl, _, _, hat⟩ := h.at_ hne
  simp only [Value.ownBlock, Option.some.injEq] at hg
  subst hg
  exact hat.2.1
theorem OwnI.kp (h : OwnI w lo hi s f v l) (k : Keeps w w') : OwnI w' lo hi s f v l := ⟨h.1.keeps k, h.2⟩
theorem OwnI.on (h : OwnI w lo hi s f v l) (k : Only lo' hi' w w') (hd : hi ≤ lo' ∨ hi' ≤ lo) : OwnI w' lo hi s f v l := by
  obtain ⟨⟨A, c, rfl, h1, h2, hn⟩, hb⟩ := h
  refine ⟨⟨A, c, rfl, h1, h2, fun hne => ?_⟩, hb⟩
  obtain ⟨b, off, rfl, hlo, hlt, hf, hc⟩ := hn hne
  have hbh := hb b hne rfl
  have hk := k.block b hlt (by rcases hd with hd | hd; exact .inl (by omega); exact .inr (by omega))
  exact ⟨b, off, rfl, hlo, Nat.lt_of_lt_of_le hlt k.size, fun o => (World.frozen?_of_block (a := ⟨b, o, none⟩) hk).trans (hf o), fun i x hx j u hu => (World.cell?_of_block (a := ⟨b, _, none⟩) hk).trans (hc i x hx j u hu)⟩
theorem RdS.shape (h : RdS w B s f v l) : ∃ A c, v = .slice A l.length c := by
  obtain ⟨A, c, hv, _⟩ := h
  exact ⟨A, c, hv⟩
theorem OwnS.shape (h : OwnS w B s f v l) : ∃ A c, v = .slice A l.length c := by
  obtain ⟨A, c, hv, _⟩ := h
  exact ⟨A, c, hv⟩
theorem RdS.up (h : RdS w w.heap.size s f v l) (k : Below w.heap.size w w') : RdS w' w'.heap.size s f v l := h.keeps k
theorem OwnI.rd (h : OwnI w lo hi s f v l) : RdS w w.heap.size s f v l := h.1.rd
theorem RdS.kp (h : RdS w B s f v l) (k : Keeps w w') (hB : B ≤ w.heap.size) : RdS w' B s f v l := h.below (Below.mono k hB)
theorem RdS.on (h : RdS w B s f v l) (k : Only lo' hi' w w') (hB : B ≤ lo') (hs : B ≤ w.heap.size) : RdS w' B s f v l := h.below (k.below hB hs)

end

/-- a variable in memory: block b holds the cells cs -/
def BoxAt (w : World) (b : Nat) (cs : List Value) : Prop := b < w.heap.size ∧ ∀ j u, cs[j]? = some u → w.cell? ⟨b, j, none⟩ = some u
theorem BoxAt.new (w : World) (t : TypeId) (cs : List Value) : BoxAt (w.alloc (.cells cs.toArray t)) w.heap.size cs :=
  ⟨by simp, fun j u h => by rw [World.cell?_alloc_at _ _ _ _ rfl]; simpa using h⟩
theorem BoxAt.kp {w w' : World} {b : Nat} {cs : List Value} (h : BoxAt w b cs) (k : Keeps w w') : BoxAt w' b cs :=
  ⟨Nat.lt_of_lt_of_le h.1 (Below.size k), fun j u hu => (Below.cell k (p := ⟨b, j, none⟩) h.1).trans (h.2 j u hu)⟩
theorem BoxAt.on {w w' : World} {b lo hi : Nat} {cs : List Value} (h : BoxAt w b cs) (k : Only lo hi w w') (hd : b < lo ∨ hi ≤ b) : BoxAt w' b cs :=
  ⟨Nat.lt_of_lt_of_le h.1 k.size, fun j u hu => (World.cell?_of_block (a := ⟨b, j, none⟩) (k.block b h.1 hd)).trans (h.2 j u hu)⟩

/-- a row of zero elements that was just made -/
theorem own_zeros {α : Type} {W : World} {g : Nat} {t : TypeId} {s k : Nat} {f : α → List Value} {x : α} {zs : List Value} (hr : Row W g t (zeros zs k)) (hz : f x = zs) (hf : ∀ x, (f x).length = s) (hk : k ≤ maxLen) :
    OwnI W g (g + 1) s f (.slice (some ⟨g, 0, none⟩) k k) (List.replicate k x) := by
  have e : zeros zs k = (List.replicate k x).flatMap f := by
    subst hz
    clear hr hk
    induction k with
    | zero => rfl
    | succ k ih => rw [List.replicate_succ, List.flatMap_cons, ← ih]; rfl
  rw [e] at hr
  have h := OwnS.of_row (B0 := g) hr (Nat.le_refl _) hf (by simpa using hk)
  rw [List.length_replicate] at h
  exact ⟨h, fun g' _ hg => by simp only [Value.ownBlock, Option.some.injEq] at hg; omega⟩

end Go.Proofs.YtimnogjgokljbaaGreatDoor

end
