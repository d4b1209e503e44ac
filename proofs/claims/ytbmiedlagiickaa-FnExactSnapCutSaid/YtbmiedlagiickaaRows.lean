/-
  No cell of these rows narrows 'for every input' (looked for: loops, veiled, ifaces, maps, wideKeys, modest, calm, conditions, laid).
  DERIVED. THE GIVEN ROWS OF THIS SEAT. 6 by the template 'for every input the law returns true; each argument reads behind the call as it read before'; 0 by the template 'total and deterministic' (their statements: YtbmiedlagiickaaTotals.lean).
  GIVEN WITH THE SEED: the statements are not yours to turn. If you find one false, say at which input.
  Laid BY PROGRAM, IN A SANDBOX (cutbox-rows.mjs): the forced cells as the released guide's own fill.sh prints them over the translation 35a8f696986ff675… (all of the seat's roots in one cut). By AI agents, Wed Nov 11 2026. No macro, syntax, notation, axiom, sorry.
-/
import Derived.Test.YtbmiedlagiickaaChecked
import GoSem.Claim
import GoSem.ClaimJoined
import GoSem.ClaimMapViews
import Derived.JoinedTies
import Derived.KernelRfl
namespace Go.Proofs.Ytbmiedlagiickaa
/- THE CELL 'sum', in the pinned program and in every row, IS THE sha256 OF THE DUMP (.gsa) THAT YtbmiedlagiickaaProg.lean LOADS. Nothing in Lean hashes anything: it is a label: what it is worth is what the hold of that sum in a sandbox is worth. -/
noncomputable def Try.pinned : Pinned := { name := "ytbmiedlagiickaa", sum := "35a8f696986ff675d6cdf8a018396be597d6080d75637f72b3e3a47dfd61a783", checked := Try.checked }
namespace Rows
def none {H : Type} : Left H := { results := [], args := [] }

/-- 'laws.FnExactMuchAlike': WHATEVER THE INPUT: true; the input reads as it did. -/
def fnExactMuchAlikeSpec : ChangeSpec := { name := "fnExactMuchAlike", fn := fun _ => fun
  | [d1, d2] => { results := [.lit (.bool true)], args := [d1, d2] }
  | _ => none }
def fnExactMuchAlikeRow : OpenClaim := { program := "ytbmiedlagiickaa", sum := "35a8f696986ff675d6cdf8a018396be597d6080d75637f72b3e3a47dfd61a783", func := "loop.example/g00946/laws.FnExactMuchAlike", spec := "fnExactMuchAlike", apart := false }
def FnExactMuchAlikeSaid : Prop := fnExactMuchAlikeRow.holds Try.pinned (OpenSpec.ofChange fnExactMuchAlikeSpec)

/-- ITS FALSE NEIGHBOUR: 'it returns false'. Refute it at one input. -/
def fnExactMuchAlikeWrong : ChangeSpec := { name := "fnExactMuchAlike", fn := fun _ => fun
  | [d1, d2] => { results := [.lit (.bool false)], args := [d1, d2] }
  | _ => none }
def FnExactMuchAlikeWrongFalsely : Prop := fnExactMuchAlikeRow.holds Try.pinned (OpenSpec.ofChange fnExactMuchAlikeWrong)

/-- 'laws.FnExactAcctsOk': WHATEVER THE INPUT: true; the input reads as it did. -/
def fnExactAcctsOkSpec : ChangeSpec := { name := "fnExactAcctsOk", fn := fun _ => fun
  | [d] => { results := [.lit (.bool true)], args := [d] }
  | _ => none }
def fnExactAcctsOkRow : OpenClaim := { program := "ytbmiedlagiickaa", sum := "35a8f696986ff675d6cdf8a018396be597d6080d75637f72b3e3a47dfd61a783", func := "loop.example/g00946/laws.FnExactAcctsOk", spec := "fnExactAcctsOk", apart := false }
def FnExactAcctsOkSaid : Prop := fnExactAcctsOkRow.holds Try.pinned (OpenSpec.ofChange fnExactAcctsOkSpec)

/-- ITS FALSE NEIGHBOUR: 'it returns false'. Refute it at one input. -/
def fnExactAcctsOkWrong : ChangeSpec := { name := "fnExactAcctsOk", fn := fun _ => fun
  | [d] => { results := [.lit (.bool false)], args := [d] }
  | _ => none }
def FnExactAcctsOkWrongFalsely : Prop := fnExactAcctsOkRow.holds Try.pinned (OpenSpec.ofChange fnExactAcctsOkWrong)

/-- 'laws.FnExactSnapCut': WHATEVER THE INPUT: true; the input reads as it did. -/
def fnExactSnapCutSpec : ChangeSpec := { name := "fnExactSnapCut", fn := fun _ => fun
  | [d] => { results := [.lit (.bool true)], args := [d] }
  | _ => none }
def fnExactSnapCutRow : OpenClaim := { program := "ytbmiedlagiickaa", sum := "35a8f696986ff675d6cdf8a018396be597d6080d75637f72b3e3a47dfd61a783", func := "loop.example/g00946/laws.FnExactSnapCut", spec := "fnExactSnapCut", apart := false }
def FnExactSnapCutSaid : Prop := fnExactSnapCutRow.holds Try.pinned (OpenSpec.ofChange fnExactSnapCutSpec)

/-- ITS FALSE NEIGHBOUR: 'it returns false'. Refute it at one input. -/
def fnExactSnapCutWrong : ChangeSpec := { name := "fnExactSnapCut", fn := fun _ => fun
  | [d] => { results := [.lit (.bool false)], args := [d] }
  | _ => none }
def FnExactSnapCutWrongFalsely : Prop := fnExactSnapCutRow.holds Try.pinned (OpenSpec.ofChange fnExactSnapCutWrong)

/-- 'laws.FnExactCoinsOf': WHATEVER THE INPUT: true; the input reads as it did. -/
def fnExactCoinsOfSpec : ChangeSpec := { name := "fnExactCoinsOf", fn := fun _ => fun
  | [d] => { results := [.lit (.bool true)], args := [d] }
  | _ => none }
def fnExactCoinsOfRow : OpenClaim := { program := "ytbmiedlagiickaa", sum := "35a8f696986ff675d6cdf8a018396be597d6080d75637f72b3e3a47dfd61a783", func := "loop.example/g00946/laws.FnExactCoinsOf", spec := "fnExactCoinsOf", apart := false }
def FnExactCoinsOfSaid : Prop := fnExactCoinsOfRow.holds Try.pinned (OpenSpec.ofChange fnExactCoinsOfSpec)

/-- ITS FALSE NEIGHBOUR: 'it returns false'. Refute it at one input. -/
def fnExactCoinsOfWrong : ChangeSpec := { name := "fnExactCoinsOf", fn := fun _ => fun
  | [d] => { results := [.lit (.bool false)], args := [d] }
  | _ => none }
def FnExactCoinsOfWrongFalsely : Prop := fnExactCoinsOfRow.holds Try.pinned (OpenSpec.ofChange fnExactCoinsOfWrong)

/-- 'laws.FnExactPoolOk': WHATEVER THE INPUT: true; the input reads as it did. -/
def fnExactPoolOkSpec : ChangeSpec := { name := "fnExactPoolOk", fn := fun _ => fun
  | [d] => { results := [.lit (.bool true)], args := [d] }
  | _ => none }
def fnExactPoolOkRow : OpenClaim := { program := "ytbmiedlagiickaa", sum := "35a8f696986ff675d6cdf8a018396be597d6080d75637f72b3e3a47dfd61a783", func := "loop.example/g00946/laws.FnExactPoolOk", spec := "fnExactPoolOk", apart := false }
def FnExactPoolOkSaid : Prop := fnExactPoolOkRow.holds Try.pinned (OpenSpec.ofChange fnExactPoolOkSpec)

/-- ITS FALSE NEIGHBOUR: 'it returns false'. Refute it at one input. -/
def fnExactPoolOkWrong : ChangeSpec := { name := "fnExactPoolOk", fn := fun _ => fun
  | [d] => { results := [.lit (.bool false)], args := [d] }
  | _ => none }
def FnExactPoolOkWrongFalsely : Prop := fnExactPoolOkRow.holds Try.pinned (OpenSpec.ofChange fnExactPoolOkWrong)

/-- 'laws.FnExactBookOk': WHATEVER THE INPUT: true; the input reads as it did. -/
def fnExactBookOkSpec : ChangeSpec := { name := "fnExactBookOk", fn := fun _ => fun
  | [d] => { results := [.lit (.bool true)], args := [d] }
  | _ => none }
def fnExactBookOkRow : OpenClaim := { program := "ytbmiedlagiickaa", sum := "35a8f696986ff675d6cdf8a018396be597d6080d75637f72b3e3a47dfd61a783", func := "loop.example/g00946/laws.FnExactBookOk", spec := "fnExactBookOk", apart := false }
def FnExactBookOkSaid : Prop := fnExactBookOkRow.holds Try.pinned (OpenSpec.ofChange fnExactBookOkSpec)

/-- ITS FALSE NEIGHBOUR: 'it returns false'. Refute it at one input. -/
def fnExactBookOkWrong : ChangeSpec := { name := "fnExactBookOk", fn := fun _ => fun
  | [d] => { results := [.lit (.bool false)], args := [d] }
  | _ => none }
def FnExactBookOkWrongFalsely : Prop := fnExactBookOkRow.holds Try.pinned (OpenSpec.ofChange fnExactBookOkWrong)

/- THE SECOND FORM. 'bulk': how many values and letters a reading holds, each counted each time it is reached (what is shared counts as often as it is met; a slice's spare places count too). A statement '..UptoSaid' is the law's where the arguments, and the package variables that the reading takes, are together of bulk at most 1048576: NARROWER than '..Said'. Prove '..Said' where nothing that the law and all that it calls make is longer than what came in: it says more and counts as full. Else prove '..UptoSaid'. A law counts once. -/
mutual
def uptoBulk {H : Type} : DataW H → Nat
  | .lit (.string bytes) => bytes.length + 1
  | .lit _ => 1
  | .nil => 1
  | .ptr d => uptoBulk d + 1
  | .slice elems spare => uptoBulkAll elems + uptoBulkAll spare + 1
  | .agg parts => uptoBulkAll parts + 1
  | .iface _ d => uptoBulk d + 1
  | .map entries => uptoBulkEntries entries + 1
  | .held _ => 1
def uptoBulkAll {H : Type} : List (DataW H) → Nat
  | [] => 0
  | d :: r => uptoBulk d + uptoBulkAll r
def uptoBulkEntries {H : Type} : List (Lit × DataW H) → Nat
  | [] => 0
  | x :: r => uptoBulkEntry x + uptoBulkEntries r
def uptoBulkEntry {H : Type} : Lit × DataW H → Nat
  | (.string bytes, d) => bytes.length + uptoBulk d + 1
  | (_, d) => uptoBulk d + 1
 end
def uptoSmall : (H : Type) → List (DataW H) → Bool := fun _ ds => decide (uptoBulkAll ds ≤ 1048576)
def OpenSpec.upto (s : _root_.Go.ChangeSpec) : _root_.Go.OpenSpec := { _root_.Go.OpenSpec.ofChange s with cond := some uptoSmall }

/-- 'laws.FnExactMuchAlike', WHERE WHAT IT READS IS OF BULK AT MOST 1048576: true; the input reads as it did. -/
def fnExactMuchAlikeUptoRow : OpenClaim := { program := "ytbmiedlagiickaa", sum := "35a8f696986ff675d6cdf8a018396be597d6080d75637f72b3e3a47dfd61a783", func := "loop.example/g00946/laws.FnExactMuchAlike", spec := "fnExactMuchAlike", apart := false, narrowed := true }
def FnExactMuchAlikeUptoSaid : Prop := fnExactMuchAlikeUptoRow.holds Try.pinned (OpenSpec.upto fnExactMuchAlikeSpec)

/-- 'laws.FnExactAcctsOk', WHERE WHAT IT READS IS OF BULK AT MOST 1048576: true; the input reads as it did. -/
def fnExactAcctsOkUptoRow : OpenClaim := { program := "ytbmiedlagiickaa", sum := "35a8f696986ff675d6cdf8a018396be597d6080d75637f72b3e3a47dfd61a783", func := "loop.example/g00946/laws.FnExactAcctsOk", spec := "fnExactAcctsOk", apart := false, narrowed := true }
def FnExactAcctsOkUptoSaid : Prop := fnExactAcctsOkUptoRow.holds Try.pinned (OpenSpec.upto fnExactAcctsOkSpec)

/-- 'laws.FnExactSnapCut', WHERE WHAT IT READS IS OF BULK AT MOST 1048576: true; the input reads as it did. -/
def fnExactSnapCutUptoRow : OpenClaim := { program := "ytbmiedlagiickaa", sum := "35a8f696986ff675d6cdf8a018396be597d6080d75637f72b3e3a47dfd61a783", func := "loop.example/g00946/laws.FnExactSnapCut", spec := "fnExactSnapCut", apart := false, narrowed := true }
def FnExactSnapCutUptoSaid : Prop := fnExactSnapCutUptoRow.holds Try.pinned (OpenSpec.upto fnExactSnapCutSpec)

/-- 'laws.FnExactCoinsOf', WHERE WHAT IT READS IS OF BULK AT MOST 1048576: true; the input reads as it did. -/
def fnExactCoinsOfUptoRow : OpenClaim := { program := "ytbmiedlagiickaa", sum := "35a8f696986ff675d6cdf8a018396be597d6080d75637f72b3e3a47dfd61a783", func := "loop.example/g00946/laws.FnExactCoinsOf", spec := "fnExactCoinsOf", apart := false, narrowed := true }
def FnExactCoinsOfUptoSaid : Prop := fnExactCoinsOfUptoRow.holds Try.pinned (OpenSpec.upto fnExactCoinsOfSpec)

/-- 'laws.FnExactPoolOk', WHERE WHAT IT READS IS OF BULK AT MOST 1048576: true; the input reads as it did. -/
def fnExactPoolOkUptoRow : OpenClaim := { program := "ytbmiedlagiickaa", sum := "35a8f696986ff675d6cdf8a018396be597d6080d75637f72b3e3a47dfd61a783", func := "loop.example/g00946/laws.FnExactPoolOk", spec := "fnExactPoolOk", apart := false, narrowed := true }
def FnExactPoolOkUptoSaid : Prop := fnExactPoolOkUptoRow.holds Try.pinned (OpenSpec.upto fnExactPoolOkSpec)

/-- 'laws.FnExactBookOk', WHERE WHAT IT READS IS OF BULK AT MOST 1048576: true; the input reads as it did. -/
def fnExactBookOkUptoRow : OpenClaim := { program := "ytbmiedlagiickaa", sum := "35a8f696986ff675d6cdf8a018396be597d6080d75637f72b3e3a47dfd61a783", func := "loop.example/g00946/laws.FnExactBookOk", spec := "fnExactBookOk", apart := false, narrowed := true }
def FnExactBookOkUptoSaid : Prop := fnExactBookOkUptoRow.holds Try.pinned (OpenSpec.upto fnExactBookOkSpec)

end Rows
end Go.Proofs.Ytbmiedlagiickaa
