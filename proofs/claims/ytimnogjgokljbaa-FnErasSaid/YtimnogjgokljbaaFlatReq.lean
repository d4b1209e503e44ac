/-
  Req: its size, copy, equality, mark and held functions, by contracts.
-/
import Derived.Test.YtimnogjgokljbaaStr
namespace Go.Proofs.Ytimnogjgokljbaa
set_option maxRecDepth 100000
set_option linter.unusedVariables false
set_option linter.unusedSimpArgs false
open Go.RowKit

abbrev TReq := Int × Int × Int
def cReq (x : TReq) : List Value := [.int .i64 x.1, .int .i64 x.2.1, .int .i64 x.2.2]
def zReq : List Value := [.int .i64 0, .int .i64 0, .int .i64 0]
def okReq (_ : TReq) : Prop := True






end Go.Proofs.Ytimnogjgokljbaa
