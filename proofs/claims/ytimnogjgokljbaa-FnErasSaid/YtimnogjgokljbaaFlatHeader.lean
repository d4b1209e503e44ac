/-
  Header: its size, copy, equality, mark and held functions, by contracts.
-/
import Derived.Test.YtimnogjgokljbaaStr
namespace Go.Proofs.Ytimnogjgokljbaa
set_option maxRecDepth 100000
set_option linter.unusedVariables false
set_option linter.unusedSimpArgs false
open Go.RowKit

abbrev THeader := Int × Int × ByteArray × ByteArray × ByteArray × ByteArray
def cHeader (x : THeader) : List Value := [.int .i64 x.1, .int .i64 x.2.1, .string x.2.2.1, .string x.2.2.2.1, .string x.2.2.2.2.1, .string x.2.2.2.2.2]
def zHeader : List Value := [.int .i64 0, .int .i64 0, .string ByteArray.empty, .string ByteArray.empty, .string ByteArray.empty, .string ByteArray.empty]
def totHeader (x : THeader) : Nat := x.2.2.1.size + x.2.2.2.1.size + x.2.2.2.2.1.size + x.2.2.2.2.2.size
def okHeader (x : THeader) : Prop := x.2.2.1.size ≤ maxLen ∧ x.2.2.2.1.size ≤ maxLen ∧ x.2.2.2.2.1.size ≤ maxLen ∧ x.2.2.2.2.2.size ≤ maxLen







end Go.Proofs.Ytimnogjgokljbaa
