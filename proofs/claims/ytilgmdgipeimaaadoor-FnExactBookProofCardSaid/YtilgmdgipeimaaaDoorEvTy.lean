/-
  What the table of types says.
-/
import Derived.Test.YtilgmdgipeimaaaDoorEv3
import Derived.Test.YtilgmdgipeimaaaDoorProg
namespace Go.Proofs.YtilgmdgipeimaaaDoor
set_option maxRecDepth 100000
set_option linter.unusedVariables false
set_option linter.unusedSimpArgs false
open Go Go.RowKit

theorem TY : True
    ∧ (szT Tryd.prog 3 = some 1)
    ∧ (rowT Tryd.prog 3 = some false)
    ∧ (byT Tryd.prog 3 = some 8)
    ∧ (zeroT Tryd.prog 3 = some (.int .i64 0))
    ∧ (intT Tryd.prog 3 = some .i64)
    ∧ (Tryd.prog.underlying 3 = some (.int .i64))
    ∧ (szT Tryd.prog 9 = some 1)
    ∧ (rowT Tryd.prog 9 = some false)
    ∧ (byT Tryd.prog 9 = some 16)
    ∧ (zeroT Tryd.prog 9 = some (.string .empty))
    ∧ (isStrT Tryd.prog 9 = true)
    ∧ (arT Tryd.prog 9 = none)
    ∧ (szT Tryd.prog 4 = some 1)
    ∧ (rowT Tryd.prog 4 = some false)
    ∧ (byT Tryd.prog 4 = some 1)
    ∧ (zeroT Tryd.prog 4 = some (.bool false))
    ∧ (szT Tryd.prog 5 = some 1)
    ∧ (rowT Tryd.prog 5 = some false)
    ∧ (byT Tryd.prog 5 = some 1)
    ∧ (zeroT Tryd.prog 5 = some (.int .u8 0))
    ∧ (intT Tryd.prog 5 = some .u8)
    ∧ (Tryd.prog.underlying 5 = some (.int .u8))
    ∧ (szT Tryd.prog 112 = some 1)
    ∧ (rowT Tryd.prog 112 = some false)
    ∧ (byT Tryd.prog 112 = some 4)
    ∧ (zeroT Tryd.prog 112 = some (.int .u32 0))
    ∧ (intT Tryd.prog 112 = some .u32)
    ∧ (Tryd.prog.underlying 112 = some (.int .u32))
    ∧ (szT Tryd.prog 103 = some 1)
    ∧ (rowT Tryd.prog 103 = some false)
    ∧ (byT Tryd.prog 103 = some 8)
    ∧ (zeroT Tryd.prog 103 = some (.int .u64 0))
    ∧ (intT Tryd.prog 103 = some .u64)
    ∧ (Tryd.prog.underlying 103 = some (.int .u64))
    ∧ (szT Tryd.prog 56 = some 4)
    ∧ (rowT Tryd.prog 56 = some true)
    ∧ (byT Tryd.prog 56 = some 72)
    ∧ (zeroT Tryd.prog 56 = some (.agg #[.string .empty, .int .i64 0, .slice none 0 0, .slice none 0 0]))
    ∧ (fldT Tryd.prog 56 0 = some (0, 9))
    ∧ (fldT Tryd.prog 56 1 = some (1, 3))
    ∧ (fldT Tryd.prog 56 2 = some (2, 22))
    ∧ (fldT Tryd.prog 56 3 = some (3, 52))
    ∧ (partsT Tryd.prog 56 = some fun i => ([(0, 1), (1, 1), (2, 1), (3, 1)] : List (Nat × Nat))[i]?)
    ∧ (szT Tryd.prog 83 = some 2)
    ∧ (rowT Tryd.prog 83 = some true)
    ∧ (byT Tryd.prog 83 = some 24)
    ∧ (zeroT Tryd.prog 83 = some (.agg #[.string .empty, .int .i64 0]))
    ∧ (fldT Tryd.prog 83 0 = some (0, 9))
    ∧ (fldT Tryd.prog 83 1 = some (1, 3))
    ∧ (eqTab Tryd.prog 83 = some [(0, 2), (1, 0)])
    ∧ (partsT Tryd.prog 83 = some fun i => ([(0, 1), (1, 1)] : List (Nat × Nat))[i]?)
    ∧ (szT Tryd.prog 107 = some 3)
    ∧ (rowT Tryd.prog 107 = some true)
    ∧ (byT Tryd.prog 107 = some 40)
    ∧ (zeroT Tryd.prog 107 = some (.agg #[.slice none 0 0, .int .i64 0, .int .i64 0]))
    ∧ (fldT Tryd.prog 107 0 = some (0, 39))
    ∧ (fldT Tryd.prog 107 1 = some (1, 3))
    ∧ (fldT Tryd.prog 107 2 = some (2, 3))
    ∧ (partsT Tryd.prog 107 = some fun i => ([(0, 1), (1, 1), (2, 1)] : List (Nat × Nat))[i]?)
    ∧ (szT Tryd.prog 54 = some 4)
    ∧ (rowT Tryd.prog 54 = some true)
    ∧ (byT Tryd.prog 54 = some 72)
    ∧ (zeroT Tryd.prog 54 = some (.agg #[.string .empty, .int .i64 0, .slice none 0 0, .slice none 0 0]))
    ∧ (fldT Tryd.prog 54 0 = some (0, 9))
    ∧ (fldT Tryd.prog 54 1 = some (1, 3))
    ∧ (fldT Tryd.prog 54 2 = some (2, 22))
    ∧ (fldT Tryd.prog 54 3 = some (3, 52))
    ∧ (partsT Tryd.prog 54 = some fun i => ([(0, 1), (1, 1), (2, 1), (3, 1)] : List (Nat × Nat))[i]?)
    ∧ (szT Tryd.prog 80 = some 2)
    ∧ (rowT Tryd.prog 80 = some true)
    ∧ (byT Tryd.prog 80 = some 24)
    ∧ (zeroT Tryd.prog 80 = some (.agg #[.string .empty, .int .i64 0]))
    ∧ (fldT Tryd.prog 80 0 = some (0, 9))
    ∧ (fldT Tryd.prog 80 1 = some (1, 3))
    ∧ (eqTab Tryd.prog 80 = some [(0, 2), (1, 0)])
    ∧ (partsT Tryd.prog 80 = some fun i => ([(0, 1), (1, 1)] : List (Nat × Nat))[i]?)
    ∧ (szT Tryd.prog 67 = some 1)
    ∧ (rowT Tryd.prog 67 = some false)
    ∧ (byT Tryd.prog 67 = some 24)
    ∧ (zeroT Tryd.prog 67 = some (.slice none 0 0))
    ∧ (elT Tryd.prog 67 = some 3)
    ∧ (arT Tryd.prog 67 = none)
    ∧ (isStrT Tryd.prog 67 = false)
    ∧ (szT Tryd.prog 22 = some 1)
    ∧ (rowT Tryd.prog 22 = some false)
    ∧ (byT Tryd.prog 22 = some 24)
    ∧ (zeroT Tryd.prog 22 = some (.slice none 0 0))
    ∧ (elT Tryd.prog 22 = some 9)
    ∧ (arT Tryd.prog 22 = none)
    ∧ (isStrT Tryd.prog 22 = false)
    ∧ (szT Tryd.prog 52 = some 1)
    ∧ (rowT Tryd.prog 52 = some false)
    ∧ (byT Tryd.prog 52 = some 24)
    ∧ (zeroT Tryd.prog 52 = some (.slice none 0 0))
    ∧ (elT Tryd.prog 52 = some 4)
    ∧ (arT Tryd.prog 52 = none)
    ∧ (isStrT Tryd.prog 52 = false)
    ∧ (szT Tryd.prog 39 = some 1)
    ∧ (rowT Tryd.prog 39 = some false)
    ∧ (byT Tryd.prog 39 = some 24)
    ∧ (zeroT Tryd.prog 39 = some (.slice none 0 0))
    ∧ (elT Tryd.prog 39 = some 5)
    ∧ (arT Tryd.prog 39 = none)
    ∧ (isStrT Tryd.prog 39 = false)
    ∧ (szT Tryd.prog 35 = some 1)
    ∧ (rowT Tryd.prog 35 = some false)
    ∧ (byT Tryd.prog 35 = some 24)
    ∧ (zeroT Tryd.prog 35 = some (.slice none 0 0))
    ∧ (elT Tryd.prog 35 = some 83)
    ∧ (arT Tryd.prog 35 = none)
    ∧ (isStrT Tryd.prog 35 = false)
    ∧ (szT Tryd.prog 32 = some 1)
    ∧ (rowT Tryd.prog 32 = some false)
    ∧ (byT Tryd.prog 32 = some 24)
    ∧ (zeroT Tryd.prog 32 = some (.slice none 0 0))
    ∧ (elT Tryd.prog 32 = some 80)
    ∧ (arT Tryd.prog 32 = none)
    ∧ (isStrT Tryd.prog 32 = false)
    ∧ (szT Tryd.prog 113 = some 8)
    ∧ (rowT Tryd.prog 113 = some true)
    ∧ (byT Tryd.prog 113 = some 32)
    ∧ (zeroT Tryd.prog 113 = some (.agg #[.int .u32 0, .int .u32 0, .int .u32 0, .int .u32 0, .int .u32 0, .int .u32 0, .int .u32 0, .int .u32 0]))
    ∧ (arT Tryd.prog 113 = some (8, 112))
    ∧ (partsT Tryd.prog 113 = some fun i => some (i * 1, 1))
    ∧ (szT Tryd.prog 117 = some 64)
    ∧ (rowT Tryd.prog 117 = some true)
    ∧ (byT Tryd.prog 117 = some 256)
    ∧ (zeroT Tryd.prog 117 = some (.agg #[.int .u32 0, .int .u32 0, .int .u32 0, .int .u32 0, .int .u32 0, .int .u32 0, .int .u32 0, .int .u32 0, .int .u32 0, .int .u32 0, .int .u32 0, .int .u32 0, .int .u32 0, .int .u32 0, .int .u32 0, .int .u32 0, .int .u32 0, .int .u32 0, .int .u32 0, .int .u32 0, .int .u32 0, .int .u32 0, .int .u32 0, .int .u32 0, .int .u32 0, .int .u32 0, .int .u32 0, .int .u32 0, .int .u32 0, .int .u32 0, .int .u32 0, .int .u32 0, .int .u32 0, .int .u32 0, .int .u32 0, .int .u32 0, .int .u32 0, .int .u32 0, .int .u32 0, .int .u32 0, .int .u32 0, .int .u32 0, .int .u32 0, .int .u32 0, .int .u32 0, .int .u32 0, .int .u32 0, .int .u32 0, .int .u32 0, .int .u32 0, .int .u32 0, .int .u32 0, .int .u32 0, .int .u32 0, .int .u32 0, .int .u32 0, .int .u32 0, .int .u32 0, .int .u32 0, .int .u32 0, .int .u32 0, .int .u32 0, .int .u32 0, .int .u32 0]))
    ∧ (arT Tryd.prog 117 = some (64, 112))
    ∧ (partsT Tryd.prog 117 = some fun i => some (i * 1, 1))
    := by
  refine ⟨trivial
    , by kernel_rfl
    , by kernel_rfl
    , by kernel_rfl
    , by kernel_rfl
    , by kernel_rfl
    , by kernel_rfl
    , by kernel_rfl
    , by kernel_rfl
    , by kernel_rfl
    , by kernel_rfl
    , by kernel_rfl
    , by kernel_rfl
    , by kernel_rfl
    , by kernel_rfl
    , by kernel_rfl
    , by kernel_rfl
    , by kernel_rfl
    , by kernel_rfl
    , by kernel_rfl
    , by kernel_rfl
    , by kernel_rfl
    , by kernel_rfl
    , by kernel_rfl
    , by kernel_rfl
    , by kernel_rfl
    , by kernel_rfl
    , by kernel_rfl
    , by kernel_rfl
    , by kernel_rfl
    , by kernel_rfl
    , by kernel_rfl
    , by kernel_rfl
    , by kernel_rfl
    , by kernel_rfl
    , by kernel_rfl
    , by kernel_rfl
    , by kernel_rfl
    , by kernel_rfl
    , by kernel_rfl
    , by kernel_rfl
    , by kernel_rfl
    , by kernel_rfl
    , by kernel_rfl
    , by kernel_rfl
    , by kernel_rfl
    , by kernel_rfl
    , by kernel_rfl
    , by kernel_rfl
    , by kernel_rfl
    , by kernel_rfl
    , by kernel_rfl
    , by kernel_rfl
    , by kernel_rfl
    , by kernel_rfl
    , by kernel_rfl
    , by kernel_rfl
    , by kernel_rfl
    , by kernel_rfl
    , by kernel_rfl
    , by kernel_rfl
    , by kernel_rfl
    , by kernel_rfl
    , by kernel_rfl
    , by kernel_rfl
    , by kernel_rfl
    , by kernel_rfl
    , by kernel_rfl
    , by kernel_rfl
    , by kernel_rfl
    , by kernel_rfl
    , by kernel_rfl
    , by kernel_rfl
    , by kernel_rfl
    , by kernel_rfl
    , by kernel_rfl
    , by kernel_rfl
    , by kernel_rfl
    , by kernel_rfl
    , by kernel_rfl
    , by kernel_rfl
    , by kernel_rfl
    , by kernel_rfl
    , by kernel_rfl
    , by kernel_rfl
    , by kernel_rfl
    , by kernel_rfl
    , by kernel_rfl
    , by kernel_rfl
    , by kernel_rfl
    , by kernel_rfl
    , by kernel_rfl
    , by kernel_rfl
    , by kernel_rfl
    , by kernel_rfl
    , by kernel_rfl
    , by kernel_rfl
    , by kernel_rfl
    , by kernel_rfl
    , by kernel_rfl
    , by kernel_rfl
    , by kernel_rfl
    , by kernel_rfl
    , by kernel_rfl
    , by kernel_rfl
    , by kernel_rfl
    , by kernel_rfl
    , by kernel_rfl
    , by kernel_rfl
    , by kernel_rfl
    , by kernel_rfl
    , by kernel_rfl
    , by kernel_rfl
    , by kernel_rfl
    , by kernel_rfl
    , by kernel_rfl
    , by kernel_rfl
    , by kernel_rfl
    , by kernel_rfl
    , by kernel_rfl
    , by kernel_rfl
    , by kernel_rfl
    , by kernel_rfl
    , by kernel_rfl
    , by kernel_rfl
    , by kernel_rfl
    , by kernel_rfl
    , by kernel_rfl
    , by kernel_rfl
    , by kernel_rfl
    , by kernel_rfl
    ⟩

end Go.Proofs.YtilgmdgipeimaaaDoor
