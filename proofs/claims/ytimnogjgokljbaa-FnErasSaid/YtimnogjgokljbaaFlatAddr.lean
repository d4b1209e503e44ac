/-
  Addr: its size, copy, equality, mark and held functions, by contracts.
-/
import Derived.Test.YtimnogjgokljbaaStr
namespace Go.Proofs.Ytimnogjgokljbaa
set_option maxRecDepth 100000
set_option linter.unusedVariables false
set_option linter.unusedSimpArgs false
open Go.RowKit

abbrev TAddr := Int × Int
def cAddr (x : TAddr) : List Value := [.int .i64 x.1, .int .i64 x.2]
def zAddr : List Value := [.int .i64 0, .int .i64 0]
def okAddr (_ : TAddr) : Prop := True






end Go.Proofs.Ytimnogjgokljbaa
