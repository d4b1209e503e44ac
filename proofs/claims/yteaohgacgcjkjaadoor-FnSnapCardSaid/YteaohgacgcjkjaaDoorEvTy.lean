/-
  What the table of types says.
-/
import Derived.Test.YteaohgacgcjkjaaDoorEv3
import Derived.Test.YteaohgacgcjkjaaDoorProg
namespace Go.Proofs.YteaohgacgcjkjaaDoor
set_option maxRecDepth 100000
set_option linter.unusedVariables false
set_option linter.unusedSimpArgs false
open Go Go.RowKit

theorem TY : True
    ∧ (szT Tryd.prog 3 = some 1)
    ∧ (rowT Tryd.prog 3 = some false)
    ∧ (byT Tryd.prog 3 = some 8)
    ∧ (zeroT Tryd.prog 3 = some (.int .i64 0))
    ∧ (intT Tryd.prog 3 = some .i64)
    ∧ (Tryd.prog.underlying 3 = some (.int .i64))
    ∧ (szT Tryd.prog 9 = some 1)
    ∧ (rowT Tryd.prog 9 = some false)
    ∧ (byT Tryd.prog 9 = some 16)
    ∧ (zeroT Tryd.prog 9 = some (.string .empty))
    ∧ (isStrT Tryd.prog 9 = true)
    ∧ (arT Tryd.prog 9 = none)
    ∧ (szT Tryd.prog 4 = some 1)
    ∧ (rowT Tryd.prog 4 = some false)
    ∧ (byT Tryd.prog 4 = some 1)
    ∧ (zeroT Tryd.prog 4 = some (.bool false))
    ∧ (szT Tryd.prog 5 = some 1)
    ∧ (rowT Tryd.prog 5 = some false)
    ∧ (byT Tryd.prog 5 = some 1)
    ∧ (zeroT Tryd.prog 5 = some (.int .u8 0))
    ∧ (intT Tryd.prog 5 = some .u8)
    ∧ (Tryd.prog.underlying 5 = some (.int .u8))
    ∧ (szT Tryd.prog 76 = some 1)
    ∧ (rowT Tryd.prog 76 = some false)
    ∧ (byT Tryd.prog 76 = some 4)
    ∧ (zeroT Tryd.prog 76 = some (.int .u32 0))
    ∧ (intT Tryd.prog 76 = some .u32)
    ∧ (Tryd.prog.underlying 76 = some (.int .u32))
    ∧ (szT Tryd.prog 67 = some 1)
    ∧ (rowT Tryd.prog 67 = some false)
    ∧ (byT Tryd.prog 67 = some 8)
    ∧ (zeroT Tryd.prog 67 = some (.int .u64 0))
    ∧ (intT Tryd.prog 67 = some .u64)
    ∧ (Tryd.prog.underlying 67 = some (.int .u64))
    ∧ (szT Tryd.prog 39 = some 4)
    ∧ (rowT Tryd.prog 39 = some true)
    ∧ (byT Tryd.prog 39 = some 72)
    ∧ (zeroT Tryd.prog 39 = some (.agg #[.string .empty, .int .i64 0, .slice none 0 0, .slice none 0 0]))
    ∧ (fldT Tryd.prog 39 0 = some (0, 9))
    ∧ (fldT Tryd.prog 39 1 = some (1, 3))
    ∧ (fldT Tryd.prog 39 2 = some (2, 24))
    ∧ (fldT Tryd.prog 39 3 = some (3, 37))
    ∧ (partsT Tryd.prog 39 = some fun i => ([(0, 1), (1, 1), (2, 1), (3, 1)] : List (Nat × Nat))[i]?)
    ∧ (szT Tryd.prog 72 = some 3)
    ∧ (rowT Tryd.prog 72 = some true)
    ∧ (byT Tryd.prog 72 = some 40)
    ∧ (zeroT Tryd.prog 72 = some (.agg #[.slice none 0 0, .int .i64 0, .int .i64 0]))
    ∧ (fldT Tryd.prog 72 0 = some (0, 22))
    ∧ (fldT Tryd.prog 72 1 = some (1, 3))
    ∧ (fldT Tryd.prog 72 2 = some (2, 3))
    ∧ (partsT Tryd.prog 72 = some fun i => ([(0, 1), (1, 1), (2, 1)] : List (Nat × Nat))[i]?)
    ∧ (szT Tryd.prog 44 = some 1)
    ∧ (rowT Tryd.prog 44 = some false)
    ∧ (byT Tryd.prog 44 = some 24)
    ∧ (zeroT Tryd.prog 44 = some (.slice none 0 0))
    ∧ (elT Tryd.prog 44 = some 3)
    ∧ (arT Tryd.prog 44 = none)
    ∧ (isStrT Tryd.prog 44 = false)
    ∧ (szT Tryd.prog 24 = some 1)
    ∧ (rowT Tryd.prog 24 = some false)
    ∧ (byT Tryd.prog 24 = some 24)
    ∧ (zeroT Tryd.prog 24 = some (.slice none 0 0))
    ∧ (elT Tryd.prog 24 = some 9)
    ∧ (arT Tryd.prog 24 = none)
    ∧ (isStrT Tryd.prog 24 = false)
    ∧ (szT Tryd.prog 37 = some 1)
    ∧ (rowT Tryd.prog 37 = some false)
    ∧ (byT Tryd.prog 37 = some 24)
    ∧ (zeroT Tryd.prog 37 = some (.slice none 0 0))
    ∧ (elT Tryd.prog 37 = some 4)
    ∧ (arT Tryd.prog 37 = none)
    ∧ (isStrT Tryd.prog 37 = false)
    ∧ (szT Tryd.prog 22 = some 1)
    ∧ (rowT Tryd.prog 22 = some false)
    ∧ (byT Tryd.prog 22 = some 24)
    ∧ (zeroT Tryd.prog 22 = some (.slice none 0 0))
    ∧ (elT Tryd.prog 22 = some 5)
    ∧ (arT Tryd.prog 22 = none)
    ∧ (isStrT Tryd.prog 22 = false)
    ∧ (szT Tryd.prog 77 = some 8)
    ∧ (rowT Tryd.prog 77 = some true)
    ∧ (byT Tryd.prog 77 = some 32)
    ∧ (zeroT Tryd.prog 77 = some (.agg #[.int .u32 0, .int .u32 0, .int .u32 0, .int .u32 0, .int .u32 0, .int .u32 0, .int .u32 0, .int .u32 0]))
    ∧ (arT Tryd.prog 77 = some (8, 76))
    ∧ (partsT Tryd.prog 77 = some fun i => some (i * 1, 1))
    ∧ (szT Tryd.prog 79 = some 64)
    ∧ (rowT Tryd.prog 79 = some true)
    ∧ (byT Tryd.prog 79 = some 256)
    ∧ (zeroT Tryd.prog 79 = some (.agg #[.int .u32 0, .int .u32 0, .int .u32 0, .int .u32 0, .int .u32 0, .int .u32 0, .int .u32 0, .int .u32 0, .int .u32 0, .int .u32 0, .int .u32 0, .int .u32 0, .int .u32 0, .int .u32 0, .int .u32 0, .int .u32 0, .int .u32 0, .int .u32 0, .int .u32 0, .int .u32 0, .int .u32 0, .int .u32 0, .int .u32 0, .int .u32 0, .int .u32 0, .int .u32 0, .int .u32 0, .int .u32 0, .int .u32 0, .int .u32 0, .int .u32 0, .int .u32 0, .int .u32 0, .int .u32 0, .int .u32 0, .int .u32 0, .int .u32 0, .int .u32 0, .int .u32 0, .int .u32 0, .int .u32 0, .int .u32 0, .int .u32 0, .int .u32 0, .int .u32 0, .int .u32 0, .int .u32 0, .int .u32 0, .int .u32 0, .int .u32 0, .int .u32 0, .int .u32 0, .int .u32 0, .int .u32 0, .int .u32 0, .int .u32 0, .int .u32 0, .int .u32 0, .int .u32 0, .int .u32 0, .int .u32 0, .int .u32 0, .int .u32 0, .int .u32 0]))
    ∧ (arT Tryd.prog 79 = some (64, 76))
    ∧ (partsT Tryd.prog 79 = some fun i => some (i * 1, 1))
    := by
  refine ⟨trivial
    , by kernel_rfl
    , by kernel_rfl
    , by kernel_rfl
    , by kernel_rfl
    , by kernel_rfl
    , by kernel_rfl
    , by kernel_rfl
    , by kernel_rfl
    , by kernel_rfl
    , by kernel_rfl
    , by kernel_rfl
    , by kernel_rfl
    , by kernel_rfl
    , by kernel_rfl
    , by kernel_rfl
    , by kernel_rfl
    , by kernel_rfl
    , by kernel_rfl
    , by kernel_rfl
    , by kernel_rfl
    , by kernel_rfl
    , by kernel_rfl
    , by kernel_rfl
    , by kernel_rfl
    , by kernel_rfl
    , by kernel_rfl
    , by kernel_rfl
    , by kernel_rfl
    , by kernel_rfl
    , by kernel_rfl
    , by kernel_rfl
    , by kernel_rfl
    , by kernel_rfl
    , by kernel_rfl
    , by kernel_rfl
    , by kernel_rfl
    , by kernel_rfl
    , by kernel_rfl
    , by kernel_rfl
    , by kernel_rfl
    , by kernel_rfl
    , by kernel_rfl
    , by kernel_rfl
    , by kernel_rfl
    , by kernel_rfl
    , by kernel_rfl
    , by kernel_rfl
    , by kernel_rfl
    , by kernel_rfl
    , by kernel_rfl
    , by kernel_rfl
    , by kernel_rfl
    , by kernel_rfl
    , by kernel_rfl
    , by kernel_rfl
    , by kernel_rfl
    , by kernel_rfl
    , by kernel_rfl
    , by kernel_rfl
    , by kernel_rfl
    , by kernel_rfl
    , by kernel_rfl
    , by kernel_rfl
    , by kernel_rfl
    , by kernel_rfl
    , by kernel_rfl
    , by kernel_rfl
    , by kernel_rfl
    , by kernel_rfl
    , by kernel_rfl
    , by kernel_rfl
    , by kernel_rfl
    , by kernel_rfl
    , by kernel_rfl
    , by kernel_rfl
    , by kernel_rfl
    , by kernel_rfl
    , by kernel_rfl
    , by kernel_rfl
    , by kernel_rfl
    , by kernel_rfl
    , by kernel_rfl
    , by kernel_rfl
    , by kernel_rfl
    , by kernel_rfl
    , by kernel_rfl
    , by kernel_rfl
    , by kernel_rfl
    , by kernel_rfl
    , by kernel_rfl
    , by kernel_rfl
    ⟩

end Go.Proofs.YteaohgacgcjkjaaDoor
