/-
  What the table of types says.
-/
import Derived.Test.YtlogbmdfjnldlaaEv3
import Derived.Test.YtlogbmdfjnldlaaProg
namespace Go.Proofs.Ytlogbmdfjnldlaa
set_option maxRecDepth 100000
set_option linter.unusedVariables false
set_option linter.unusedSimpArgs false
open Go Go.RowKit

theorem TY : True
    ∧ (szT Try.prog 3 = some 1)
    ∧ (rowT Try.prog 3 = some false)
    ∧ (byT Try.prog 3 = some 8)
    ∧ (zeroT Try.prog 3 = some (.int .i64 0))
    ∧ (intT Try.prog 3 = some .i64)
    ∧ (Try.prog.underlying 3 = some (.int .i64))
    ∧ (szT Try.prog 9 = some 1)
    ∧ (rowT Try.prog 9 = some false)
    ∧ (byT Try.prog 9 = some 16)
    ∧ (zeroT Try.prog 9 = some (.string .empty))
    ∧ (isStrT Try.prog 9 = true)
    ∧ (arT Try.prog 9 = none)
    ∧ (szT Try.prog 4 = some 1)
    ∧ (rowT Try.prog 4 = some false)
    ∧ (byT Try.prog 4 = some 1)
    ∧ (zeroT Try.prog 4 = some (.bool false))
    ∧ (szT Try.prog 5 = some 1)
    ∧ (rowT Try.prog 5 = some false)
    ∧ (byT Try.prog 5 = some 1)
    ∧ (zeroT Try.prog 5 = some (.int .u8 0))
    ∧ (intT Try.prog 5 = some .u8)
    ∧ (Try.prog.underlying 5 = some (.int .u8))
    ∧ (szT Try.prog 161 = some 1)
    ∧ (rowT Try.prog 161 = some false)
    ∧ (byT Try.prog 161 = some 4)
    ∧ (zeroT Try.prog 161 = some (.int .u32 0))
    ∧ (intT Try.prog 161 = some .u32)
    ∧ (Try.prog.underlying 161 = some (.int .u32))
    ∧ (szT Try.prog 149 = some 1)
    ∧ (rowT Try.prog 149 = some false)
    ∧ (byT Try.prog 149 = some 8)
    ∧ (zeroT Try.prog 149 = some (.int .u64 0))
    ∧ (intT Try.prog 149 = some .u64)
    ∧ (Try.prog.underlying 149 = some (.int .u64))
    ∧ (szT Try.prog 95 = some 2)
    ∧ (rowT Try.prog 95 = some true)
    ∧ (byT Try.prog 95 = some 16)
    ∧ (zeroT Try.prog 95 = some (.agg #[.int .i64 0, .int .i64 0]))
    ∧ (fldT Try.prog 95 0 = some (0, 3))
    ∧ (fldT Try.prog 95 1 = some (1, 3))
    ∧ (eqTab Try.prog 95 = some [(0, 0), (1, 0)])
    ∧ (partsT Try.prog 95 = some fun i => ([(0, 1), (1, 1)] : List (Nat × Nat))[i]?)
    ∧ (szT Try.prog 69 = some 2)
    ∧ (rowT Try.prog 69 = some true)
    ∧ (byT Try.prog 69 = some 16)
    ∧ (zeroT Try.prog 69 = some (.agg #[.int .i64 0, .int .i64 0]))
    ∧ (fldT Try.prog 69 0 = some (0, 3))
    ∧ (fldT Try.prog 69 1 = some (1, 3))
    ∧ (eqTab Try.prog 69 = some [(0, 0), (1, 0)])
    ∧ (partsT Try.prog 69 = some fun i => ([(0, 1), (1, 1)] : List (Nat × Nat))[i]?)
    ∧ (szT Try.prog 33 = some 3)
    ∧ (rowT Try.prog 33 = some true)
    ∧ (byT Try.prog 33 = some 24)
    ∧ (zeroT Try.prog 33 = some (.agg #[.int .i64 0, .int .i64 0, .int .i64 0]))
    ∧ (fldT Try.prog 33 0 = some (0, 3))
    ∧ (fldT Try.prog 33 1 = some (1, 3))
    ∧ (fldT Try.prog 33 2 = some (2, 3))
    ∧ (eqTab Try.prog 33 = some [(0, 0), (1, 0), (2, 0)])
    ∧ (partsT Try.prog 33 = some fun i => ([(0, 1), (1, 1), (2, 1)] : List (Nat × Nat))[i]?)
    ∧ (szT Try.prog 115 = some 2)
    ∧ (rowT Try.prog 115 = some true)
    ∧ (byT Try.prog 115 = some 16)
    ∧ (zeroT Try.prog 115 = some (.agg #[.int .i64 0, .int .i64 0]))
    ∧ (fldT Try.prog 115 0 = some (0, 3))
    ∧ (fldT Try.prog 115 1 = some (1, 3))
    ∧ (eqTab Try.prog 115 = some [(0, 0), (1, 0)])
    ∧ (partsT Try.prog 115 = some fun i => ([(0, 1), (1, 1)] : List (Nat × Nat))[i]?)
    ∧ (szT Try.prog 139 = some 2)
    ∧ (rowT Try.prog 139 = some true)
    ∧ (byT Try.prog 139 = some 24)
    ∧ (zeroT Try.prog 139 = some (.agg #[.string .empty, .int .i64 0]))
    ∧ (fldT Try.prog 139 0 = some (0, 9))
    ∧ (fldT Try.prog 139 1 = some (1, 3))
    ∧ (eqTab Try.prog 139 = some [(0, 2), (1, 0)])
    ∧ (partsT Try.prog 139 = some fun i => ([(0, 1), (1, 1)] : List (Nat × Nat))[i]?)
    ∧ (szT Try.prog 145 = some 3)
    ∧ (rowT Try.prog 145 = some true)
    ∧ (byT Try.prog 145 = some 40)
    ∧ (zeroT Try.prog 145 = some (.agg #[.slice none 0 0, .int .i64 0, .int .i64 0]))
    ∧ (fldT Try.prog 145 0 = some (0, 22))
    ∧ (fldT Try.prog 145 1 = some (1, 3))
    ∧ (fldT Try.prog 145 2 = some (2, 3))
    ∧ (partsT Try.prog 145 = some fun i => ([(0, 1), (1, 1), (2, 1)] : List (Nat × Nat))[i]?)
    ∧ (szT Try.prog 129 = some 2)
    ∧ (rowT Try.prog 129 = some true)
    ∧ (byT Try.prog 129 = some 24)
    ∧ (zeroT Try.prog 129 = some (.agg #[.string .empty, .int .i64 0]))
    ∧ (fldT Try.prog 129 0 = some (0, 9))
    ∧ (fldT Try.prog 129 1 = some (1, 3))
    ∧ (eqTab Try.prog 129 = some [(0, 2), (1, 0)])
    ∧ (partsT Try.prog 129 = some fun i => ([(0, 1), (1, 1)] : List (Nat × Nat))[i]?)
    ∧ (szT Try.prog 25 = some 1)
    ∧ (rowT Try.prog 25 = some false)
    ∧ (byT Try.prog 25 = some 24)
    ∧ (zeroT Try.prog 25 = some (.slice none 0 0))
    ∧ (elT Try.prog 25 = some 3)
    ∧ (arT Try.prog 25 = none)
    ∧ (isStrT Try.prog 25 = false)
    ∧ (szT Try.prog 83 = some 1)
    ∧ (rowT Try.prog 83 = some false)
    ∧ (byT Try.prog 83 = some 24)
    ∧ (zeroT Try.prog 83 = some (.slice none 0 0))
    ∧ (elT Try.prog 83 = some 9)
    ∧ (arT Try.prog 83 = none)
    ∧ (isStrT Try.prog 83 = false)
    ∧ (szT Try.prog 22 = some 1)
    ∧ (rowT Try.prog 22 = some false)
    ∧ (byT Try.prog 22 = some 24)
    ∧ (zeroT Try.prog 22 = some (.slice none 0 0))
    ∧ (elT Try.prog 22 = some 5)
    ∧ (arT Try.prog 22 = none)
    ∧ (isStrT Try.prog 22 = false)
    ∧ (szT Try.prog 24 = some 1)
    ∧ (rowT Try.prog 24 = some false)
    ∧ (byT Try.prog 24 = some 24)
    ∧ (zeroT Try.prog 24 = some (.slice none 0 0))
    ∧ (elT Try.prog 24 = some 95)
    ∧ (arT Try.prog 24 = none)
    ∧ (isStrT Try.prog 24 = false)
    ∧ (szT Try.prog 63 = some 1)
    ∧ (rowT Try.prog 63 = some false)
    ∧ (byT Try.prog 63 = some 24)
    ∧ (zeroT Try.prog 63 = some (.slice none 0 0))
    ∧ (elT Try.prog 63 = some 69)
    ∧ (arT Try.prog 63 = none)
    ∧ (isStrT Try.prog 63 = false)
    ∧ (szT Try.prog 31 = some 1)
    ∧ (rowT Try.prog 31 = some false)
    ∧ (byT Try.prog 31 = some 24)
    ∧ (zeroT Try.prog 31 = some (.slice none 0 0))
    ∧ (elT Try.prog 31 = some 33)
    ∧ (arT Try.prog 31 = none)
    ∧ (isStrT Try.prog 31 = false)
    ∧ (szT Try.prog 47 = some 1)
    ∧ (rowT Try.prog 47 = some false)
    ∧ (byT Try.prog 47 = some 24)
    ∧ (zeroT Try.prog 47 = some (.slice none 0 0))
    ∧ (elT Try.prog 47 = some 115)
    ∧ (arT Try.prog 47 = none)
    ∧ (isStrT Try.prog 47 = false)
    ∧ (szT Try.prog 76 = some 1)
    ∧ (rowT Try.prog 76 = some false)
    ∧ (byT Try.prog 76 = some 24)
    ∧ (zeroT Try.prog 76 = some (.slice none 0 0))
    ∧ (elT Try.prog 76 = some 139)
    ∧ (arT Try.prog 76 = none)
    ∧ (isStrT Try.prog 76 = false)
    ∧ (szT Try.prog 74 = some 1)
    ∧ (rowT Try.prog 74 = some false)
    ∧ (byT Try.prog 74 = some 24)
    ∧ (zeroT Try.prog 74 = some (.slice none 0 0))
    ∧ (elT Try.prog 74 = some 129)
    ∧ (arT Try.prog 74 = none)
    ∧ (isStrT Try.prog 74 = false)
    ∧ (szT Try.prog 109 = some 10)
    ∧ (rowT Try.prog 109 = some true)
    ∧ (byT Try.prog 109 = some 80)
    ∧ (zeroT Try.prog 109 = some (.agg #[.int .i64 0, .int .i64 0, .int .i64 0, .int .i64 0, .int .i64 0, .int .i64 0, .int .i64 0, .int .i64 0, .int .i64 0, .int .i64 0]))
    ∧ (arT Try.prog 109 = some (10, 3))
    ∧ (partsT Try.prog 109 = some fun i => some (i * 1, 1))
    := by
  refine ⟨trivial
    , by kernel_rfl
    , by kernel_rfl
    , by kernel_rfl
    , by kernel_rfl
    , by kernel_rfl
    , by kernel_rfl
    , by kernel_rfl
    , by kernel_rfl
    , by kernel_rfl
    , by kernel_rfl
    , by kernel_rfl
    , by kernel_rfl
    , by kernel_rfl
    , by kernel_rfl
    , by kernel_rfl
    , by kernel_rfl
    , by kernel_rfl
    , by kernel_rfl
    , by kernel_rfl
    , by kernel_rfl
    , by kernel_rfl
    , by kernel_rfl
    , by kernel_rfl
    , by kernel_rfl
    , by kernel_rfl
    , by kernel_rfl
    , by kernel_rfl
    , by kernel_rfl
    , by kernel_rfl
    , by kernel_rfl
    , by kernel_rfl
    , by kernel_rfl
    , by kernel_rfl
    , by kernel_rfl
    , by kernel_rfl
    , by kernel_rfl
    , by kernel_rfl
    , by kernel_rfl
    , by kernel_rfl
    , by kernel_rfl
    , by kernel_rfl
    , by kernel_rfl
    , by kernel_rfl
    , by kernel_rfl
    , by kernel_rfl
    , by kernel_rfl
    , by kernel_rfl
    , by kernel_rfl
    , by kernel_rfl
    , by kernel_rfl
    , by kernel_rfl
    , by kernel_rfl
    , by kernel_rfl
    , by kernel_rfl
    , by kernel_rfl
    , by kernel_rfl
    , by kernel_rfl
    , by kernel_rfl
    , by kernel_rfl
    , by kernel_rfl
    , by kernel_rfl
    , by kernel_rfl
    , by kernel_rfl
    , by kernel_rfl
    , by kernel_rfl
    , by kernel_rfl
    , by kernel_rfl
    , by kernel_rfl
    , by kernel_rfl
    , by kernel_rfl
    , by kernel_rfl
    , by kernel_rfl
    , by kernel_rfl
    , by kernel_rfl
    , by kernel_rfl
    , by kernel_rfl
    , by kernel_rfl
    , by kernel_rfl
    , by kernel_rfl
    , by kernel_rfl
    , by kernel_rfl
    , by kernel_rfl
    , by kernel_rfl
    , by kernel_rfl
    , by kernel_rfl
    , by kernel_rfl
    , by kernel_rfl
    , by kernel_rfl
    , by kernel_rfl
    , by kernel_rfl
    , by kernel_rfl
    , by kernel_rfl
    , by kernel_rfl
    , by kernel_rfl
    , by kernel_rfl
    , by kernel_rfl
    , by kernel_rfl
    , by kernel_rfl
    , by kernel_rfl
    , by kernel_rfl
    , by kernel_rfl
    , by kernel_rfl
    , by kernel_rfl
    , by kernel_rfl
    , by kernel_rfl
    , by kernel_rfl
    , by kernel_rfl
    , by kernel_rfl
    , by kernel_rfl
    , by kernel_rfl
    , by kernel_rfl
    , by kernel_rfl
    , by kernel_rfl
    , by kernel_rfl
    , by kernel_rfl
    , by kernel_rfl
    , by kernel_rfl
    , by kernel_rfl
    , by kernel_rfl
    , by kernel_rfl
    , by kernel_rfl
    , by kernel_rfl
    , by kernel_rfl
    , by kernel_rfl
    , by kernel_rfl
    , by kernel_rfl
    , by kernel_rfl
    , by kernel_rfl
    , by kernel_rfl
    , by kernel_rfl
    , by kernel_rfl
    , by kernel_rfl
    , by kernel_rfl
    , by kernel_rfl
    , by kernel_rfl
    , by kernel_rfl
    , by kernel_rfl
    , by kernel_rfl
    , by kernel_rfl
    , by kernel_rfl
    , by kernel_rfl
    , by kernel_rfl
    , by kernel_rfl
    , by kernel_rfl
    , by kernel_rfl
    , by kernel_rfl
    , by kernel_rfl
    , by kernel_rfl
    , by kernel_rfl
    , by kernel_rfl
    , by kernel_rfl
    , by kernel_rfl
    , by kernel_rfl
    , by kernel_rfl
    , by kernel_rfl
    , by kernel_rfl
    , by kernel_rfl
    , by kernel_rfl
    , by kernel_rfl
    , by kernel_rfl
    ⟩

end Go.Proofs.Ytlogbmdfjnldlaa
