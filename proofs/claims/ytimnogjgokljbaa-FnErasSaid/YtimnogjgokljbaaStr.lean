/-
  String slices: szStringS, toStringS, eqStringS, by contracts.
-/
import Derived.Test.YtimnogjgokljbaaBase
import Derived.Test.YtimnogjgokljbaaRows
import Derived.Outline
import Derived.Handy
namespace Go.Proofs.Ytimnogjgokljbaa
set_option maxRecDepth 100000
set_option linter.unusedVariables false
set_option linter.unusedSimpArgs false
open Go.RowKit

def strsTot (ss : List ByteArray) : Nat := ss.length + (ss.map ByteArray.size).sum
theorem strsTot_ge (ss : List ByteArray) : ss.length ≤ strsTot ss := by unfold strsTot; omega


def okString (s : ByteArray) : Prop := s.size ≤ maxLen

theorem info_str : (Try.prog.info? 9).map (fun i => (i.zero, i.size, i.bytes)) = some (some (.string ByteArray.empty), 1, 16) := by kernel_rfl




end Go.Proofs.Ytimnogjgokljbaa
