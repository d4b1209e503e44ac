/-
  No cell of these rows narrows 'for every input' (looked for: loops, veiled, ifaces, maps, wideKeys, modest, calm, conditions, laid).
  DERIVED. THE GIVEN ROWS OF THIS SEAT. 6 by the template 'for every input the law returns true; each argument reads behind the call as it read before'; 0 by the template 'total and deterministic' (their statements: YtlogbmdfjnldlaaTotals.lean).
  GIVEN WITH THE SEED: the statements are not yours to turn. If you find one false, say at which input.
  Laid BY PROGRAM, IN A SANDBOX (cutbox-rows.mjs): the forced cells as the released guide's own fill.sh prints them over the translation 81e20e3604b9b78e… (all of the seat's roots in one cut). By AI agents, Wed Nov 11 2026. No macro, syntax, notation, axiom, sorry.
-/
import Derived.Test.YtlogbmdfjnldlaaChecked
import GoSem.Claim
import GoSem.ClaimJoined
import GoSem.ClaimMapViews
import Derived.JoinedTies
import Derived.KernelRfl
namespace Go.Proofs.Ytlogbmdfjnldlaa
/- THE CELL 'sum', in the pinned program and in every row, IS THE sha256 OF THE DUMP (.gsa) THAT YtlogbmdfjnldlaaProg.lean LOADS. Nothing in Lean hashes anything: it is a label: what it is worth is what the hold of that sum in a sandbox is worth. -/
noncomputable def Try.pinned : Pinned := { name := "ytlogbmdfjnldlaa", sum := "81e20e3604b9b78ebdd1779d7402b0b2127b66088f644b1882407dd025555c08", checked := Try.checked }
namespace Rows
def none {H : Type} : Left H := { results := [], args := [] }

/-- 'laws.FnThird': WHATEVER THE INPUT: true; the input reads as it did. -/
def fnThirdSpec : ChangeSpec := { name := "fnThird", fn := fun _ => fun
  | [d] => { results := [.lit (.bool true)], args := [d] }
  | _ => none }
def fnThirdRow : OpenClaim := { program := "ytlogbmdfjnldlaa", sum := "81e20e3604b9b78ebdd1779d7402b0b2127b66088f644b1882407dd025555c08", func := "loop.example/g00946/laws.FnThird", spec := "fnThird", unfollowed := true, recurses := true, apart := false }
def FnThirdSaid : Prop := fnThirdRow.holds Try.pinned (OpenSpec.ofChange fnThirdSpec)

/-- ITS FALSE NEIGHBOUR: 'it returns false'. Refute it at one input. -/
def fnThirdWrong : ChangeSpec := { name := "fnThird", fn := fun _ => fun
  | [d] => { results := [.lit (.bool false)], args := [d] }
  | _ => none }
def FnThirdWrongFalsely : Prop := fnThirdRow.holds Try.pinned (OpenSpec.ofChange fnThirdWrong)

/-- 'laws.FnTxs': WHATEVER THE INPUT: true; the input reads as it did. -/
def fnTxsSpec : ChangeSpec := { name := "fnTxs", fn := fun _ => fun
  | [d] => { results := [.lit (.bool true)], args := [d] }
  | _ => none }
def fnTxsRow : OpenClaim := { program := "ytlogbmdfjnldlaa", sum := "81e20e3604b9b78ebdd1779d7402b0b2127b66088f644b1882407dd025555c08", func := "loop.example/g00946/laws.FnTxs", spec := "fnTxs", unfollowed := true, recurses := true, apart := false }
def FnTxsSaid : Prop := fnTxsRow.holds Try.pinned (OpenSpec.ofChange fnTxsSpec)

/-- ITS FALSE NEIGHBOUR: 'it returns false'. Refute it at one input. -/
def fnTxsWrong : ChangeSpec := { name := "fnTxs", fn := fun _ => fun
  | [d] => { results := [.lit (.bool false)], args := [d] }
  | _ => none }
def FnTxsWrongFalsely : Prop := fnTxsRow.holds Try.pinned (OpenSpec.ofChange fnTxsWrong)

/-- 'laws.FnStake': WHATEVER THE INPUT: true; the input reads as it did. -/
def fnStakeSpec : ChangeSpec := { name := "fnStake", fn := fun _ => fun
  | [d] => { results := [.lit (.bool true)], args := [d] }
  | _ => none }
def fnStakeRow : OpenClaim := { program := "ytlogbmdfjnldlaa", sum := "81e20e3604b9b78ebdd1779d7402b0b2127b66088f644b1882407dd025555c08", func := "loop.example/g00946/laws.FnStake", spec := "fnStake", unfollowed := true, recurses := true, apart := false }
def FnStakeSaid : Prop := fnStakeRow.holds Try.pinned (OpenSpec.ofChange fnStakeSpec)

/-- ITS FALSE NEIGHBOUR: 'it returns false'. Refute it at one input. -/
def fnStakeWrong : ChangeSpec := { name := "fnStake", fn := fun _ => fun
  | [d] => { results := [.lit (.bool false)], args := [d] }
  | _ => none }
def FnStakeWrongFalsely : Prop := fnStakeRow.holds Try.pinned (OpenSpec.ofChange fnStakeWrong)

/-- 'laws.FnGossip': WHATEVER THE INPUT: true; the input reads as it did. -/
def fnGossipSpec : ChangeSpec := { name := "fnGossip", fn := fun _ => fun
  | [d] => { results := [.lit (.bool true)], args := [d] }
  | _ => none }
def fnGossipRow : OpenClaim := { program := "ytlogbmdfjnldlaa", sum := "81e20e3604b9b78ebdd1779d7402b0b2127b66088f644b1882407dd025555c08", func := "loop.example/g00946/laws.FnGossip", spec := "fnGossip", unfollowed := true, recurses := true, apart := false }
def FnGossipSaid : Prop := fnGossipRow.holds Try.pinned (OpenSpec.ofChange fnGossipSpec)

/-- ITS FALSE NEIGHBOUR: 'it returns false'. Refute it at one input. -/
def fnGossipWrong : ChangeSpec := { name := "fnGossip", fn := fun _ => fun
  | [d] => { results := [.lit (.bool false)], args := [d] }
  | _ => none }
def FnGossipWrongFalsely : Prop := fnGossipRow.holds Try.pinned (OpenSpec.ofChange fnGossipWrong)

/-- 'laws.FnExactBookDo': WHATEVER THE INPUT: true; the input reads as it did. -/
def fnExactBookDoSpec : ChangeSpec := { name := "fnExactBookDo", fn := fun _ => fun
  | [d1, d2] => { results := [.lit (.bool true)], args := [d1, d2] }
  | _ => none }
def fnExactBookDoRow : OpenClaim := { program := "ytlogbmdfjnldlaa", sum := "81e20e3604b9b78ebdd1779d7402b0b2127b66088f644b1882407dd025555c08", func := "loop.example/g00946/laws.FnExactBookDo", spec := "fnExactBookDo", unfollowed := true, recurses := true, apart := false }
def FnExactBookDoSaid : Prop := fnExactBookDoRow.holds Try.pinned (OpenSpec.ofChange fnExactBookDoSpec)

/-- ITS FALSE NEIGHBOUR: 'it returns false'. Refute it at one input. -/
def fnExactBookDoWrong : ChangeSpec := { name := "fnExactBookDo", fn := fun _ => fun
  | [d1, d2] => { results := [.lit (.bool false)], args := [d1, d2] }
  | _ => none }
def FnExactBookDoWrongFalsely : Prop := fnExactBookDoRow.holds Try.pinned (OpenSpec.ofChange fnExactBookDoWrong)

/-- 'laws.FnExactBookPlay': WHATEVER THE INPUT: true; the input reads as it did. -/
def fnExactBookPlaySpec : ChangeSpec := { name := "fnExactBookPlay", fn := fun _ => fun
  | [d] => { results := [.lit (.bool true)], args := [d] }
  | _ => none }
def fnExactBookPlayRow : OpenClaim := { program := "ytlogbmdfjnldlaa", sum := "81e20e3604b9b78ebdd1779d7402b0b2127b66088f644b1882407dd025555c08", func := "loop.example/g00946/laws.FnExactBookPlay", spec := "fnExactBookPlay", unfollowed := true, recurses := true, apart := false }
def FnExactBookPlaySaid : Prop := fnExactBookPlayRow.holds Try.pinned (OpenSpec.ofChange fnExactBookPlaySpec)

/-- ITS FALSE NEIGHBOUR: 'it returns false'. Refute it at one input. -/
def fnExactBookPlayWrong : ChangeSpec := { name := "fnExactBookPlay", fn := fun _ => fun
  | [d] => { results := [.lit (.bool false)], args := [d] }
  | _ => none }
def FnExactBookPlayWrongFalsely : Prop := fnExactBookPlayRow.holds Try.pinned (OpenSpec.ofChange fnExactBookPlayWrong)

/- THE SECOND FORM. 'bulk': how many values and letters a reading holds, each counted each time it is reached (what is shared counts as often as it is met; a slice's spare places count too). A statement '..UptoSaid' is the law's where the arguments, and the package variables that the reading takes, are together of bulk at most 1048576: NARROWER than '..Said'. Prove '..Said' where nothing that the law and all that it calls make is longer than what came in: it says more and counts as full. Else prove '..UptoSaid'. A law counts once. -/
mutual
def uptoBulk {H : Type} : DataW H → Nat
  | .lit (.string bytes) => bytes.length + 1
  | .lit _ => 1
  | .nil => 1
  | .ptr d => uptoBulk d + 1
  | .slice elems spare => uptoBulkAll elems + uptoBulkAll spare + 1
  | .agg parts => uptoBulkAll parts + 1
  | .iface _ d => uptoBulk d + 1
  | .map entries => uptoBulkEntries entries + 1
  | .held _ => 1
def uptoBulkAll {H : Type} : List (DataW H) → Nat
  | [] => 0
  | d :: r => uptoBulk d + uptoBulkAll r
def uptoBulkEntries {H : Type} : List (Lit × DataW H) → Nat
  | [] => 0
  | x :: r => uptoBulkEntry x + uptoBulkEntries r
def uptoBulkEntry {H : Type} : Lit × DataW H → Nat
  | (.string bytes, d) => bytes.length + uptoBulk d + 1
  | (_, d) => uptoBulk d + 1
 end
def uptoSmall : (H : Type) → List (DataW H) → Bool := fun _ ds => decide (uptoBulkAll ds ≤ 1048576)
def OpenSpec.upto (s : _root_.Go.ChangeSpec) : _root_.Go.OpenSpec := { _root_.Go.OpenSpec.ofChange s with cond := some uptoSmall }

/-- 'laws.FnThird', WHERE WHAT IT READS IS OF BULK AT MOST 1048576: true; the input reads as it did. -/
def fnThirdUptoRow : OpenClaim := { program := "ytlogbmdfjnldlaa", sum := "81e20e3604b9b78ebdd1779d7402b0b2127b66088f644b1882407dd025555c08", func := "loop.example/g00946/laws.FnThird", spec := "fnThird", unfollowed := true, recurses := true, apart := false, narrowed := true }
def FnThirdUptoSaid : Prop := fnThirdUptoRow.holds Try.pinned (OpenSpec.upto fnThirdSpec)

/-- 'laws.FnTxs', WHERE WHAT IT READS IS OF BULK AT MOST 1048576: true; the input reads as it did. -/
def fnTxsUptoRow : OpenClaim := { program := "ytlogbmdfjnldlaa", sum := "81e20e3604b9b78ebdd1779d7402b0b2127b66088f644b1882407dd025555c08", func := "loop.example/g00946/laws.FnTxs", spec := "fnTxs", unfollowed := true, recurses := true, apart := false, narrowed := true }
def FnTxsUptoSaid : Prop := fnTxsUptoRow.holds Try.pinned (OpenSpec.upto fnTxsSpec)

/-- 'laws.FnStake', WHERE WHAT IT READS IS OF BULK AT MOST 1048576: true; the input reads as it did. -/
def fnStakeUptoRow : OpenClaim := { program := "ytlogbmdfjnldlaa", sum := "81e20e3604b9b78ebdd1779d7402b0b2127b66088f644b1882407dd025555c08", func := "loop.example/g00946/laws.FnStake", spec := "fnStake", unfollowed := true, recurses := true, apart := false, narrowed := true }
def FnStakeUptoSaid : Prop := fnStakeUptoRow.holds Try.pinned (OpenSpec.upto fnStakeSpec)

/-- 'laws.FnGossip', WHERE WHAT IT READS IS OF BULK AT MOST 1048576: true; the input reads as it did. -/
def fnGossipUptoRow : OpenClaim := { program := "ytlogbmdfjnldlaa", sum := "81e20e3604b9b78ebdd1779d7402b0b2127b66088f644b1882407dd025555c08", func := "loop.example/g00946/laws.FnGossip", spec := "fnGossip", unfollowed := true, recurses := true, apart := false, narrowed := true }
def FnGossipUptoSaid : Prop := fnGossipUptoRow.holds Try.pinned (OpenSpec.upto fnGossipSpec)

/-- 'laws.FnExactBookDo', WHERE WHAT IT READS IS OF BULK AT MOST 1048576: true; the input reads as it did. -/
def fnExactBookDoUptoRow : OpenClaim := { program := "ytlogbmdfjnldlaa", sum := "81e20e3604b9b78ebdd1779d7402b0b2127b66088f644b1882407dd025555c08", func := "loop.example/g00946/laws.FnExactBookDo", spec := "fnExactBookDo", unfollowed := true, recurses := true, apart := false, narrowed := true }
def FnExactBookDoUptoSaid : Prop := fnExactBookDoUptoRow.holds Try.pinned (OpenSpec.upto fnExactBookDoSpec)

/-- 'laws.FnExactBookPlay', WHERE WHAT IT READS IS OF BULK AT MOST 1048576: true; the input reads as it did. -/
def fnExactBookPlayUptoRow : OpenClaim := { program := "ytlogbmdfjnldlaa", sum := "81e20e3604b9b78ebdd1779d7402b0b2127b66088f644b1882407dd025555c08", func := "loop.example/g00946/laws.FnExactBookPlay", spec := "fnExactBookPlay", unfollowed := true, recurses := true, apart := false, narrowed := true }
def FnExactBookPlayUptoSaid : Prop := fnExactBookPlayUptoRow.holds Try.pinned (OpenSpec.upto fnExactBookPlaySpec)

end Rows
end Go.Proofs.Ytlogbmdfjnldlaa
