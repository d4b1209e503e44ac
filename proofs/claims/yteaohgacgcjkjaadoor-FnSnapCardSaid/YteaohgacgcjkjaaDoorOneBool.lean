/-
  Slices of bool: their size, copy and equality functions, by contracts.
-/
import Derived.Test.YteaohgacgcjkjaaDoorBase
import Derived.Test.YteaohgacgcjkjaaDoorRows
namespace Go.Proofs.YteaohgacgcjkjaaDoor
set_option maxRecDepth 100000
set_option linter.unusedVariables false
set_option linter.unusedSimpArgs false
open Go.RowKit


theorem info_Bool : (Tryd.prog.info? 4).map (fun i => (i.zero, i.size, i.bytes)) = some (some (.bool false), 1, 1) := by kernel_rfl



end Go.Proofs.YteaohgacgcjkjaaDoor
