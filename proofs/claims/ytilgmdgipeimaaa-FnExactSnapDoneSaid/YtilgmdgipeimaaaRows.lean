/-
  No cell of these rows narrows 'for every input' (looked for: loops, veiled, ifaces, maps, wideKeys, modest, calm, conditions, laid).
  DERIVED. THE GIVEN ROWS OF THIS SEAT. 4 by the template 'for every input the law returns true; each argument reads behind the call as it read before'; 0 by the template 'total and deterministic' (their statements: YtilgmdgipeimaaaTotals.lean).
  GIVEN WITH THE SEED: the statements are not yours to turn. If you find one false, say at which input.
  Laid BY PROGRAM, IN A SANDBOX (cutbox-rows.mjs): the forced cells as the released guide's own fill.sh prints them over the translation 899f4f04d5e8cdda… (all of the seat's roots in one cut). By AI agents, Wed Nov 11 2026. No macro, syntax, notation, axiom, sorry.
-/
import Derived.Test.YtilgmdgipeimaaaChecked
import GoSem.Claim
import GoSem.ClaimJoined
import GoSem.ClaimMapViews
import Derived.JoinedTies
import Derived.KernelRfl
namespace Go.Proofs.Ytilgmdgipeimaaa
/- THE CELL 'sum', in the pinned program and in every row, IS THE sha256 OF THE DUMP (.gsa) THAT YtilgmdgipeimaaaProg.lean LOADS. Nothing in Lean hashes anything: it is a label: what it is worth is what the hold of that sum in a sandbox is worth. -/
noncomputable def Try.pinned : Pinned := { name := "ytilgmdgipeimaaa", sum := "899f4f04d5e8cdda31765d531a1f2b8b63bbd43981e730c64c2e9b900344df7a", checked := Try.checked }
namespace Rows
def none {H : Type} : Left H := { results := [], args := [] }

/-- 'laws.FnExactSnapNew': WHATEVER THE INPUT: true; the input reads as it did. -/
def fnExactSnapNewSpec : ChangeSpec := { name := "fnExactSnapNew", fn := fun _ => fun
  | [d1, d2] => { results := [.lit (.bool true)], args := [d1, d2] }
  | _ => none }
def fnExactSnapNewRow : OpenClaim := { program := "ytilgmdgipeimaaa", sum := "899f4f04d5e8cdda31765d531a1f2b8b63bbd43981e730c64c2e9b900344df7a", func := "loop.example/g00946/laws.FnExactSnapNew", spec := "fnExactSnapNew", apart := false }
def FnExactSnapNewSaid : Prop := fnExactSnapNewRow.holds Try.pinned (OpenSpec.ofChange fnExactSnapNewSpec)

/-- ITS FALSE NEIGHBOUR: 'it returns false'. Refute it at one input. -/
def fnExactSnapNewWrong : ChangeSpec := { name := "fnExactSnapNew", fn := fun _ => fun
  | [d1, d2] => { results := [.lit (.bool false)], args := [d1, d2] }
  | _ => none }
def FnExactSnapNewWrongFalsely : Prop := fnExactSnapNewRow.holds Try.pinned (OpenSpec.ofChange fnExactSnapNewWrong)

/-- 'laws.FnExactSnapOk': WHATEVER THE INPUT: true; the input reads as it did. -/
def fnExactSnapOkSpec : ChangeSpec := { name := "fnExactSnapOk", fn := fun _ => fun
  | [d] => { results := [.lit (.bool true)], args := [d] }
  | _ => none }
def fnExactSnapOkRow : OpenClaim := { program := "ytilgmdgipeimaaa", sum := "899f4f04d5e8cdda31765d531a1f2b8b63bbd43981e730c64c2e9b900344df7a", func := "loop.example/g00946/laws.FnExactSnapOk", spec := "fnExactSnapOk", apart := false }
def FnExactSnapOkSaid : Prop := fnExactSnapOkRow.holds Try.pinned (OpenSpec.ofChange fnExactSnapOkSpec)

/-- ITS FALSE NEIGHBOUR: 'it returns false'. Refute it at one input. -/
def fnExactSnapOkWrong : ChangeSpec := { name := "fnExactSnapOk", fn := fun _ => fun
  | [d] => { results := [.lit (.bool false)], args := [d] }
  | _ => none }
def FnExactSnapOkWrongFalsely : Prop := fnExactSnapOkRow.holds Try.pinned (OpenSpec.ofChange fnExactSnapOkWrong)

/-- 'laws.FnExactSnapDone': WHATEVER THE INPUT: true; the input reads as it did. -/
def fnExactSnapDoneSpec : ChangeSpec := { name := "fnExactSnapDone", fn := fun _ => fun
  | [d] => { results := [.lit (.bool true)], args := [d] }
  | _ => none }
def fnExactSnapDoneRow : OpenClaim := { program := "ytilgmdgipeimaaa", sum := "899f4f04d5e8cdda31765d531a1f2b8b63bbd43981e730c64c2e9b900344df7a", func := "loop.example/g00946/laws.FnExactSnapDone", spec := "fnExactSnapDone", apart := false }
def FnExactSnapDoneSaid : Prop := fnExactSnapDoneRow.holds Try.pinned (OpenSpec.ofChange fnExactSnapDoneSpec)

/-- ITS FALSE NEIGHBOUR: 'it returns false'. Refute it at one input. -/
def fnExactSnapDoneWrong : ChangeSpec := { name := "fnExactSnapDone", fn := fun _ => fun
  | [d] => { results := [.lit (.bool false)], args := [d] }
  | _ => none }
def FnExactSnapDoneWrongFalsely : Prop := fnExactSnapDoneRow.holds Try.pinned (OpenSpec.ofChange fnExactSnapDoneWrong)

/-- 'laws.FnExactSnapNeed': WHATEVER THE INPUT: true; the input reads as it did. -/
def fnExactSnapNeedSpec : ChangeSpec := { name := "fnExactSnapNeed", fn := fun _ => fun
  | [d] => { results := [.lit (.bool true)], args := [d] }
  | _ => none }
def fnExactSnapNeedRow : OpenClaim := { program := "ytilgmdgipeimaaa", sum := "899f4f04d5e8cdda31765d531a1f2b8b63bbd43981e730c64c2e9b900344df7a", func := "loop.example/g00946/laws.FnExactSnapNeed", spec := "fnExactSnapNeed", apart := false }
def FnExactSnapNeedSaid : Prop := fnExactSnapNeedRow.holds Try.pinned (OpenSpec.ofChange fnExactSnapNeedSpec)

/-- ITS FALSE NEIGHBOUR: 'it returns false'. Refute it at one input. -/
def fnExactSnapNeedWrong : ChangeSpec := { name := "fnExactSnapNeed", fn := fun _ => fun
  | [d] => { results := [.lit (.bool false)], args := [d] }
  | _ => none }
def FnExactSnapNeedWrongFalsely : Prop := fnExactSnapNeedRow.holds Try.pinned (OpenSpec.ofChange fnExactSnapNeedWrong)

/- THE SECOND FORM. 'bulk': how many values and letters a reading holds, each counted each time it is reached (what is shared counts as often as it is met; a slice's spare places count too). A statement '..UptoSaid' is the law's where the arguments, and the package variables that the reading takes, are together of bulk at most 1048576: NARROWER than '..Said'. Prove '..Said' where nothing that the law and all that it calls make is longer than what came in: it says more and counts as full. Else prove '..UptoSaid'. A law counts once. -/
mutual
def uptoBulk {H : Type} : DataW H → Nat
  | .lit (.string bytes) => bytes.length + 1
  | .lit _ => 1
  | .nil => 1
  | .ptr d => uptoBulk d + 1
  | .slice elems spare => uptoBulkAll elems + uptoBulkAll spare + 1
  | .agg parts => uptoBulkAll parts + 1
  | .iface _ d => uptoBulk d + 1
  | .map entries => uptoBulkEntries entries + 1
  | .held _ => 1
def uptoBulkAll {H : Type} : List (DataW H) → Nat
  | [] => 0
  | d :: r => uptoBulk d + uptoBulkAll r
def uptoBulkEntries {H : Type} : List (Lit × DataW H) → Nat
  | [] => 0
  | x :: r => uptoBulkEntry x + uptoBulkEntries r
def uptoBulkEntry {H : Type} : Lit × DataW H → Nat
  | (.string bytes, d) => bytes.length + uptoBulk d + 1
  | (_, d) => uptoBulk d + 1
 end
def uptoSmall : (H : Type) → List (DataW H) → Bool := fun _ ds => decide (uptoBulkAll ds ≤ 1048576)
def OpenSpec.upto (s : _root_.Go.ChangeSpec) : _root_.Go.OpenSpec := { _root_.Go.OpenSpec.ofChange s with cond := some uptoSmall }

/-- 'laws.FnExactSnapNew', WHERE WHAT IT READS IS OF BULK AT MOST 1048576: true; the input reads as it did. -/
def fnExactSnapNewUptoRow : OpenClaim := { program := "ytilgmdgipeimaaa", sum := "899f4f04d5e8cdda31765d531a1f2b8b63bbd43981e730c64c2e9b900344df7a", func := "loop.example/g00946/laws.FnExactSnapNew", spec := "fnExactSnapNew", apart := false, narrowed := true }
def FnExactSnapNewUptoSaid : Prop := fnExactSnapNewUptoRow.holds Try.pinned (OpenSpec.upto fnExactSnapNewSpec)

/-- 'laws.FnExactSnapOk', WHERE WHAT IT READS IS OF BULK AT MOST 1048576: true; the input reads as it did. -/
def fnExactSnapOkUptoRow : OpenClaim := { program := "ytilgmdgipeimaaa", sum := "899f4f04d5e8cdda31765d531a1f2b8b63bbd43981e730c64c2e9b900344df7a", func := "loop.example/g00946/laws.FnExactSnapOk", spec := "fnExactSnapOk", apart := false, narrowed := true }
def FnExactSnapOkUptoSaid : Prop := fnExactSnapOkUptoRow.holds Try.pinned (OpenSpec.upto fnExactSnapOkSpec)

/-- 'laws.FnExactSnapDone', WHERE WHAT IT READS IS OF BULK AT MOST 1048576: true; the input reads as it did. -/
def fnExactSnapDoneUptoRow : OpenClaim := { program := "ytilgmdgipeimaaa", sum := "899f4f04d5e8cdda31765d531a1f2b8b63bbd43981e730c64c2e9b900344df7a", func := "loop.example/g00946/laws.FnExactSnapDone", spec := "fnExactSnapDone", apart := false, narrowed := true }
def FnExactSnapDoneUptoSaid : Prop := fnExactSnapDoneUptoRow.holds Try.pinned (OpenSpec.upto fnExactSnapDoneSpec)

/-- 'laws.FnExactSnapNeed', WHERE WHAT IT READS IS OF BULK AT MOST 1048576: true; the input reads as it did. -/
def fnExactSnapNeedUptoRow : OpenClaim := { program := "ytilgmdgipeimaaa", sum := "899f4f04d5e8cdda31765d531a1f2b8b63bbd43981e730c64c2e9b900344df7a", func := "loop.example/g00946/laws.FnExactSnapNeed", spec := "fnExactSnapNeed", apart := false, narrowed := true }
def FnExactSnapNeedUptoSaid : Prop := fnExactSnapNeedUptoRow.holds Try.pinned (OpenSpec.upto fnExactSnapNeedSpec)

end Rows
end Go.Proofs.Ytilgmdgipeimaaa
