/-
  No cell of these rows narrows 'for every input' (looked for: loops, veiled, ifaces, maps, wideKeys, modest, calm, conditions, laid).
  DERIVED. THE GIVEN ROWS OF THIS SEAT. 4 by the template 'for every input the law returns true; each argument reads behind the call as it read before'; 0 by the template 'total and deterministic' (their statements: YteaohgacgcjkjaaTotals.lean).
  GIVEN WITH THE SEED: the statements are not yours to turn. If you find one false, say at which input.
  Laid BY PROGRAM, IN A SANDBOX (cutbox-rows.mjs): the forced cells as the released guide's own fill.sh prints them over the translation b410364269639ea9… (all of the seat's roots in one cut). By AI agents, Wed Nov 11 2026. No macro, syntax, notation, axiom, sorry.
-/
import Derived.Test.YteaohgacgcjkjaaChecked
import GoSem.Claim
import GoSem.ClaimJoined
import GoSem.ClaimMapViews
import Derived.JoinedTies
import Derived.KernelRfl
namespace Go.Proofs.Yteaohgacgcjkjaa
/- THE CELL 'sum', in the pinned program and in every row, IS THE sha256 OF THE DUMP (.gsa) THAT YteaohgacgcjkjaaProg.lean LOADS. Nothing in Lean hashes anything: it is a label: what it is worth is what the hold of that sum in a sandbox is worth. -/
noncomputable def Try.pinned : Pinned := { name := "yteaohgacgcjkjaa", sum := "b410364269639ea947acdb66b485b89d5d443bb6fdfcf12a6b06ef6566fd5665", checked := Try.checked }
namespace Rows
def none {H : Type} : Left H := { results := [], args := [] }

/-- 'laws.FnExactErasOk': WHATEVER THE INPUT: true; the input reads as it did. -/
def fnExactErasOkSpec : ChangeSpec := { name := "fnExactErasOk", fn := fun _ => fun
  | [d] => { results := [.lit (.bool true)], args := [d] }
  | _ => none }
def fnExactErasOkRow : OpenClaim := { program := "yteaohgacgcjkjaa", sum := "b410364269639ea947acdb66b485b89d5d443bb6fdfcf12a6b06ef6566fd5665", func := "loop.example/g00946/laws.FnExactErasOk", spec := "fnExactErasOk", apart := false }
def FnExactErasOkSaid : Prop := fnExactErasOkRow.holds Try.pinned (OpenSpec.ofChange fnExactErasOkSpec)

/-- ITS FALSE NEIGHBOUR: 'it returns false'. Refute it at one input. -/
def fnExactErasOkWrong : ChangeSpec := { name := "fnExactErasOk", fn := fun _ => fun
  | [d] => { results := [.lit (.bool false)], args := [d] }
  | _ => none }
def FnExactErasOkWrongFalsely : Prop := fnExactErasOkRow.holds Try.pinned (OpenSpec.ofChange fnExactErasOkWrong)

/-- 'laws.FnEras': WHATEVER THE INPUT: true; the input reads as it did. -/
def fnErasSpec : ChangeSpec := { name := "fnEras", fn := fun _ => fun
  | [d] => { results := [.lit (.bool true)], args := [d] }
  | _ => none }
def fnErasRow : OpenClaim := { program := "yteaohgacgcjkjaa", sum := "b410364269639ea947acdb66b485b89d5d443bb6fdfcf12a6b06ef6566fd5665", func := "loop.example/g00946/laws.FnEras", spec := "fnEras", apart := false }
def FnErasSaid : Prop := fnErasRow.holds Try.pinned (OpenSpec.ofChange fnErasSpec)

/-- ITS FALSE NEIGHBOUR: 'it returns false'. Refute it at one input. -/
def fnErasWrong : ChangeSpec := { name := "fnEras", fn := fun _ => fun
  | [d] => { results := [.lit (.bool false)], args := [d] }
  | _ => none }
def FnErasWrongFalsely : Prop := fnErasRow.holds Try.pinned (OpenSpec.ofChange fnErasWrong)

/-- 'laws.FnExactReadPMsg': WHATEVER THE INPUT: true; the input reads as it did. -/
def fnExactReadPMsgSpec : ChangeSpec := { name := "fnExactReadPMsg", fn := fun _ => fun
  | [d] => { results := [.lit (.bool true)], args := [d] }
  | _ => none }
def fnExactReadPMsgRow : OpenClaim := { program := "yteaohgacgcjkjaa", sum := "b410364269639ea947acdb66b485b89d5d443bb6fdfcf12a6b06ef6566fd5665", func := "loop.example/g00946/laws.FnExactReadPMsg", spec := "fnExactReadPMsg", apart := false }
def FnExactReadPMsgSaid : Prop := fnExactReadPMsgRow.holds Try.pinned (OpenSpec.ofChange fnExactReadPMsgSpec)

/-- ITS FALSE NEIGHBOUR: 'it returns false'. Refute it at one input. -/
def fnExactReadPMsgWrong : ChangeSpec := { name := "fnExactReadPMsg", fn := fun _ => fun
  | [d] => { results := [.lit (.bool false)], args := [d] }
  | _ => none }
def FnExactReadPMsgWrongFalsely : Prop := fnExactReadPMsgRow.holds Try.pinned (OpenSpec.ofChange fnExactReadPMsgWrong)

/-- 'laws.FnPeerWords': WHATEVER THE INPUT: true; the input reads as it did. -/
def fnPeerWordsSpec : ChangeSpec := { name := "fnPeerWords", fn := fun _ => fun
  | [d] => { results := [.lit (.bool true)], args := [d] }
  | _ => none }
def fnPeerWordsRow : OpenClaim := { program := "yteaohgacgcjkjaa", sum := "b410364269639ea947acdb66b485b89d5d443bb6fdfcf12a6b06ef6566fd5665", func := "loop.example/g00946/laws.FnPeerWords", spec := "fnPeerWords", apart := false }
def FnPeerWordsSaid : Prop := fnPeerWordsRow.holds Try.pinned (OpenSpec.ofChange fnPeerWordsSpec)

/-- ITS FALSE NEIGHBOUR: 'it returns false'. Refute it at one input. -/
def fnPeerWordsWrong : ChangeSpec := { name := "fnPeerWords", fn := fun _ => fun
  | [d] => { results := [.lit (.bool false)], args := [d] }
  | _ => none }
def FnPeerWordsWrongFalsely : Prop := fnPeerWordsRow.holds Try.pinned (OpenSpec.ofChange fnPeerWordsWrong)

/- THE SECOND FORM. 'bulk': how many values and letters a reading holds, each counted each time it is reached (what is shared counts as often as it is met; a slice's spare places count too). A statement '..UptoSaid' is the law's where the arguments, and the package variables that the reading takes, are together of bulk at most 1048576: NARROWER than '..Said'. Prove '..Said' where nothing that the law and all that it calls make is longer than what came in: it says more and counts as full. Else prove '..UptoSaid'. A law counts once. -/
mutual
def uptoBulk {H : Type} : DataW H → Nat
  | .lit (.string bytes) => bytes.length + 1
  | .lit _ => 1
  | .nil => 1
  | .ptr d => uptoBulk d + 1
  | .slice elems spare => uptoBulkAll elems + uptoBulkAll spare + 1
  | .agg parts => uptoBulkAll parts + 1
  | .iface _ d => uptoBulk d + 1
  | .map entries => uptoBulkEntries entries + 1
  | .held _ => 1
def uptoBulkAll {H : Type} : List (DataW H) → Nat
  | [] => 0
  | d :: r => uptoBulk d + uptoBulkAll r
def uptoBulkEntries {H : Type} : List (Lit × DataW H) → Nat
  | [] => 0
  | x :: r => uptoBulkEntry x + uptoBulkEntries r
def uptoBulkEntry {H : Type} : Lit × DataW H → Nat
  | (.string bytes, d) => bytes.length + uptoBulk d + 1
  | (_, d) => uptoBulk d + 1
 end
def uptoSmall : (H : Type) → List (DataW H) → Bool := fun _ ds => decide (uptoBulkAll ds ≤ 1048576)
def OpenSpec.upto (s : _root_.Go.ChangeSpec) : _root_.Go.OpenSpec := { _root_.Go.OpenSpec.ofChange s with cond := some uptoSmall }

/-- 'laws.FnExactErasOk', WHERE WHAT IT READS IS OF BULK AT MOST 1048576: true; the input reads as it did. -/
def fnExactErasOkUptoRow : OpenClaim := { program := "yteaohgacgcjkjaa", sum := "b410364269639ea947acdb66b485b89d5d443bb6fdfcf12a6b06ef6566fd5665", func := "loop.example/g00946/laws.FnExactErasOk", spec := "fnExactErasOk", apart := false, narrowed := true }
def FnExactErasOkUptoSaid : Prop := fnExactErasOkUptoRow.holds Try.pinned (OpenSpec.upto fnExactErasOkSpec)

/-- 'laws.FnEras', WHERE WHAT IT READS IS OF BULK AT MOST 1048576: true; the input reads as it did. -/
def fnErasUptoRow : OpenClaim := { program := "yteaohgacgcjkjaa", sum := "b410364269639ea947acdb66b485b89d5d443bb6fdfcf12a6b06ef6566fd5665", func := "loop.example/g00946/laws.FnEras", spec := "fnEras", apart := false, narrowed := true }
def FnErasUptoSaid : Prop := fnErasUptoRow.holds Try.pinned (OpenSpec.upto fnErasSpec)

/-- 'laws.FnExactReadPMsg', WHERE WHAT IT READS IS OF BULK AT MOST 1048576: true; the input reads as it did. -/
def fnExactReadPMsgUptoRow : OpenClaim := { program := "yteaohgacgcjkjaa", sum := "b410364269639ea947acdb66b485b89d5d443bb6fdfcf12a6b06ef6566fd5665", func := "loop.example/g00946/laws.FnExactReadPMsg", spec := "fnExactReadPMsg", apart := false, narrowed := true }
def FnExactReadPMsgUptoSaid : Prop := fnExactReadPMsgUptoRow.holds Try.pinned (OpenSpec.upto fnExactReadPMsgSpec)

/-- 'laws.FnPeerWords', WHERE WHAT IT READS IS OF BULK AT MOST 1048576: true; the input reads as it did. -/
def fnPeerWordsUptoRow : OpenClaim := { program := "yteaohgacgcjkjaa", sum := "b410364269639ea947acdb66b485b89d5d443bb6fdfcf12a6b06ef6566fd5665", func := "loop.example/g00946/laws.FnPeerWords", spec := "fnPeerWords", apart := false, narrowed := true }
def FnPeerWordsUptoSaid : Prop := fnPeerWordsUptoRow.holds Try.pinned (OpenSpec.upto fnPeerWordsSpec)

end Rows
end Go.Proofs.Yteaohgacgcjkjaa
