/-
  No cell of these rows narrows 'for every input' (looked for: loops, veiled, ifaces, maps, wideKeys, modest, calm, conditions, laid).
  DERIVED. THE GIVEN ROWS OF THIS SEAT. 4 by the template 'for every input the law returns true; each argument reads behind the call as it read before'; 0 by the template 'total and deterministic' (their statements: YtimnogjgokljbaaTotals.lean).
  GIVEN WITH THE SEED: the statements are not yours to turn. If you find one false, say at which input.
  Laid BY PROGRAM, IN A SANDBOX (cutbox-rows.mjs): the forced cells as the released guide's own fill.sh prints them over the translation ef93c5f17ebb8f7c… (all of the seat's roots in one cut). By AI agents, Wed Nov 11 2026. No macro, syntax, notation, axiom, sorry.
-/
import Derived.Test.YtimnogjgokljbaaChecked
import GoSem.Claim
import GoSem.ClaimJoined
import GoSem.ClaimMapViews
import Derived.JoinedTies
import Derived.KernelRfl
namespace Go.Proofs.Ytimnogjgokljbaa
/- THE CELL 'sum', in the pinned program and in every row, IS THE sha256 OF THE DUMP (.gsa) THAT YtimnogjgokljbaaProg.lean LOADS. Nothing in Lean hashes anything: it is a label: what it is worth is what the hold of that sum in a sandbox is worth. -/
noncomputable def Try.pinned : Pinned := { name := "ytimnogjgokljbaa", sum := "ef93c5f17ebb8f7c1f258c35c1a64cd524d1684399c1fead2941f6d5e664d82d", checked := Try.checked }
namespace Rows
def none {H : Type} : Left H := { results := [], args := [] }

/-- 'laws.FnExactEraAt': WHATEVER THE INPUT: true; the input reads as it did. -/
def fnExactEraAtSpec : ChangeSpec := { name := "fnExactEraAt", fn := fun _ => fun
  | [d1, d2] => { results := [.lit (.bool true)], args := [d1, d2] }
  | _ => none }
def fnExactEraAtRow : OpenClaim := { program := "ytimnogjgokljbaa", sum := "ef93c5f17ebb8f7c1f258c35c1a64cd524d1684399c1fead2941f6d5e664d82d", func := "loop.example/g00946/laws.FnExactEraAt", spec := "fnExactEraAt", apart := false }
def FnExactEraAtSaid : Prop := fnExactEraAtRow.holds Try.pinned (OpenSpec.ofChange fnExactEraAtSpec)

/-- ITS FALSE NEIGHBOUR: 'it returns false'. Refute it at one input. -/
def fnExactEraAtWrong : ChangeSpec := { name := "fnExactEraAt", fn := fun _ => fun
  | [d1, d2] => { results := [.lit (.bool false)], args := [d1, d2] }
  | _ => none }
def FnExactEraAtWrongFalsely : Prop := fnExactEraAtRow.holds Try.pinned (OpenSpec.ofChange fnExactEraAtWrong)

/-- 'laws.FnExactEraAdd': WHATEVER THE INPUT: true; the input reads as it did. -/
def fnExactEraAddSpec : ChangeSpec := { name := "fnExactEraAdd", fn := fun _ => fun
  | [d1, d2, d3] => { results := [.lit (.bool true)], args := [d1, d2, d3] }
  | _ => none }
def fnExactEraAddRow : OpenClaim := { program := "ytimnogjgokljbaa", sum := "ef93c5f17ebb8f7c1f258c35c1a64cd524d1684399c1fead2941f6d5e664d82d", func := "loop.example/g00946/laws.FnExactEraAdd", spec := "fnExactEraAdd", apart := false }
def FnExactEraAddSaid : Prop := fnExactEraAddRow.holds Try.pinned (OpenSpec.ofChange fnExactEraAddSpec)

/-- ITS FALSE NEIGHBOUR: 'it returns false'. Refute it at one input. -/
def fnExactEraAddWrong : ChangeSpec := { name := "fnExactEraAdd", fn := fun _ => fun
  | [d1, d2, d3] => { results := [.lit (.bool false)], args := [d1, d2, d3] }
  | _ => none }
def FnExactEraAddWrongFalsely : Prop := fnExactEraAddRow.holds Try.pinned (OpenSpec.ofChange fnExactEraAddWrong)

/-- 'laws.FnExactEraCut': WHATEVER THE INPUT: true; the input reads as it did. -/
def fnExactEraCutSpec : ChangeSpec := { name := "fnExactEraCut", fn := fun _ => fun
  | [d1, d2] => { results := [.lit (.bool true)], args := [d1, d2] }
  | _ => none }
def fnExactEraCutRow : OpenClaim := { program := "ytimnogjgokljbaa", sum := "ef93c5f17ebb8f7c1f258c35c1a64cd524d1684399c1fead2941f6d5e664d82d", func := "loop.example/g00946/laws.FnExactEraCut", spec := "fnExactEraCut", apart := false }
def FnExactEraCutSaid : Prop := fnExactEraCutRow.holds Try.pinned (OpenSpec.ofChange fnExactEraCutSpec)

/-- ITS FALSE NEIGHBOUR: 'it returns false'. Refute it at one input. -/
def fnExactEraCutWrong : ChangeSpec := { name := "fnExactEraCut", fn := fun _ => fun
  | [d1, d2] => { results := [.lit (.bool false)], args := [d1, d2] }
  | _ => none }
def FnExactEraCutWrongFalsely : Prop := fnExactEraCutRow.holds Try.pinned (OpenSpec.ofChange fnExactEraCutWrong)

/-- 'laws.FnEras': WHATEVER THE INPUT: true; the input reads as it did. -/
def fnErasSpec : ChangeSpec := { name := "fnEras", fn := fun _ => fun
  | [d] => { results := [.lit (.bool true)], args := [d] }
  | _ => none }
def fnErasRow : OpenClaim := { program := "ytimnogjgokljbaa", sum := "ef93c5f17ebb8f7c1f258c35c1a64cd524d1684399c1fead2941f6d5e664d82d", func := "loop.example/g00946/laws.FnEras", spec := "fnEras", apart := false }
def FnErasSaid : Prop := fnErasRow.holds Try.pinned (OpenSpec.ofChange fnErasSpec)

/-- ITS FALSE NEIGHBOUR: 'it returns false'. Refute it at one input. -/
def fnErasWrong : ChangeSpec := { name := "fnEras", fn := fun _ => fun
  | [d] => { results := [.lit (.bool false)], args := [d] }
  | _ => none }
def FnErasWrongFalsely : Prop := fnErasRow.holds Try.pinned (OpenSpec.ofChange fnErasWrong)

/- THE SECOND FORM. 'bulk': how many values and letters a reading holds, each counted each time it is reached (what is shared counts as often as it is met; a slice's spare places count too). A statement '..UptoSaid' is the law's where the arguments, and the package variables that the reading takes, are together of bulk at most 1048576: NARROWER than '..Said'. Prove '..Said' where nothing that the law and all that it calls make is longer than what came in: it says more and counts as full. Else prove '..UptoSaid'. A law counts once. -/
mutual
def uptoBulk {H : Type} : DataW H → Nat
  | .lit (.string bytes) => bytes.length + 1
  | .lit _ => 1
  | .nil => 1
  | .ptr d => uptoBulk d + 1
  | .slice elems spare => uptoBulkAll elems + uptoBulkAll spare + 1
  | .agg parts => uptoBulkAll parts + 1
  | .iface _ d => uptoBulk d + 1
  | .map entries => uptoBulkEntries entries + 1
  | .held _ => 1
def uptoBulkAll {H : Type} : List (DataW H) → Nat
  | [] => 0
  | d :: r => uptoBulk d + uptoBulkAll r
def uptoBulkEntries {H : Type} : List (Lit × DataW H) → Nat
  | [] => 0
  | x :: r => uptoBulkEntry x + uptoBulkEntries r
def uptoBulkEntry {H : Type} : Lit × DataW H → Nat
  | (.string bytes, d) => bytes.length + uptoBulk d + 1
  | (_, d) => uptoBulk d + 1
 end
def uptoSmall : (H : Type) → List (DataW H) → Bool := fun _ ds => decide (uptoBulkAll ds ≤ 1048576)
def OpenSpec.upto (s : _root_.Go.ChangeSpec) : _root_.Go.OpenSpec := { _root_.Go.OpenSpec.ofChange s with cond := some uptoSmall }

/-- 'laws.FnExactEraAt', WHERE WHAT IT READS IS OF BULK AT MOST 1048576: true; the input reads as it did. -/
def fnExactEraAtUptoRow : OpenClaim := { program := "ytimnogjgokljbaa", sum := "ef93c5f17ebb8f7c1f258c35c1a64cd524d1684399c1fead2941f6d5e664d82d", func := "loop.example/g00946/laws.FnExactEraAt", spec := "fnExactEraAt", apart := false, narrowed := true }
def FnExactEraAtUptoSaid : Prop := fnExactEraAtUptoRow.holds Try.pinned (OpenSpec.upto fnExactEraAtSpec)

/-- 'laws.FnExactEraAdd', WHERE WHAT IT READS IS OF BULK AT MOST 1048576: true; the input reads as it did. -/
def fnExactEraAddUptoRow : OpenClaim := { program := "ytimnogjgokljbaa", sum := "ef93c5f17ebb8f7c1f258c35c1a64cd524d1684399c1fead2941f6d5e664d82d", func := "loop.example/g00946/laws.FnExactEraAdd", spec := "fnExactEraAdd", apart := false, narrowed := true }
def FnExactEraAddUptoSaid : Prop := fnExactEraAddUptoRow.holds Try.pinned (OpenSpec.upto fnExactEraAddSpec)

/-- 'laws.FnExactEraCut', WHERE WHAT IT READS IS OF BULK AT MOST 1048576: true; the input reads as it did. -/
def fnExactEraCutUptoRow : OpenClaim := { program := "ytimnogjgokljbaa", sum := "ef93c5f17ebb8f7c1f258c35c1a64cd524d1684399c1fead2941f6d5e664d82d", func := "loop.example/g00946/laws.FnExactEraCut", spec := "fnExactEraCut", apart := false, narrowed := true }
def FnExactEraCutUptoSaid : Prop := fnExactEraCutUptoRow.holds Try.pinned (OpenSpec.upto fnExactEraCutSpec)

/-- 'laws.FnEras', WHERE WHAT IT READS IS OF BULK AT MOST 1048576: true; the input reads as it did. -/
def fnErasUptoRow : OpenClaim := { program := "ytimnogjgokljbaa", sum := "ef93c5f17ebb8f7c1f258c35c1a64cd524d1684399c1fead2941f6d5e664d82d", func := "loop.example/g00946/laws.FnEras", spec := "fnEras", apart := false, narrowed := true }
def FnErasUptoSaid : Prop := fnErasUptoRow.holds Try.pinned (OpenSpec.upto fnErasSpec)

end Rows
end Go.Proofs.Ytimnogjgokljbaa
