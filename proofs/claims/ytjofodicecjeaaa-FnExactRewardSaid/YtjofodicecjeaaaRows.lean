/-
  No cell of these rows narrows 'for every input' (looked for: loops, veiled, ifaces, maps, wideKeys, modest, calm, conditions, laid).
  DERIVED. THE GIVEN ROWS OF THIS SEAT. 12 by the template 'for every input the law returns true; each argument reads behind the call as it read before'; 0 by the template 'total and deterministic' (their statements: YtjofodicecjeaaaTotals.lean).
  GIVEN WITH THE SEED: the statements are not yours to turn. If you find one false, say at which input.
  Laid BY PROGRAM, IN A SANDBOX (cutbox-rows.mjs): the forced cells as the released guide's own fill.sh prints them over the translation 05a4c34859ee889e… (all of the seat's roots in one cut). By AI agents, Wed Nov 11 2026. No macro, syntax, notation, axiom, sorry.
-/
import Derived.Test.YtjofodicecjeaaaChecked
import GoSem.Claim
import GoSem.ClaimJoined
import GoSem.ClaimMapViews
import Derived.JoinedTies
import Derived.KernelRfl
namespace Go.Proofs.Ytjofodicecjeaaa
/- THE CELL 'sum', in the pinned program and in every row, IS THE sha256 OF THE DUMP (.gsa) THAT YtjofodicecjeaaaProg.lean LOADS. Nothing in Lean hashes anything: it is a label: what it is worth is what the hold of that sum in a sandbox is worth. -/
noncomputable def Try.pinned : Pinned := { name := "ytjofodicecjeaaa", sum := "05a4c34859ee889e1dddd57c52a4a5528aaaf05e26ae3acefd20002e19c794b9", checked := Try.checked }
namespace Rows
def none {H : Type} : Left H := { results := [], args := [] }

/-- 'laws.FnExactErasOk': WHATEVER THE INPUT: true; the input reads as it did. -/
def fnExactErasOkSpec : ChangeSpec := { name := "fnExactErasOk", fn := fun _ => fun
  | [d] => { results := [.lit (.bool true)], args := [d] }
  | _ => none }
def fnExactErasOkRow : OpenClaim := { program := "ytjofodicecjeaaa", sum := "05a4c34859ee889e1dddd57c52a4a5528aaaf05e26ae3acefd20002e19c794b9", func := "loop.example/g00946/laws.FnExactErasOk", spec := "fnExactErasOk", apart := false }
def FnExactErasOkSaid : Prop := fnExactErasOkRow.holds Try.pinned (OpenSpec.ofChange fnExactErasOkSpec)

/-- ITS FALSE NEIGHBOUR: 'it returns false'. Refute it at one input. -/
def fnExactErasOkWrong : ChangeSpec := { name := "fnExactErasOk", fn := fun _ => fun
  | [d] => { results := [.lit (.bool false)], args := [d] }
  | _ => none }
def FnExactErasOkWrongFalsely : Prop := fnExactErasOkRow.holds Try.pinned (OpenSpec.ofChange fnExactErasOkWrong)

/-- 'laws.FnExactEraAt': WHATEVER THE INPUT: true; the input reads as it did. -/
def fnExactEraAtSpec : ChangeSpec := { name := "fnExactEraAt", fn := fun _ => fun
  | [d1, d2] => { results := [.lit (.bool true)], args := [d1, d2] }
  | _ => none }
def fnExactEraAtRow : OpenClaim := { program := "ytjofodicecjeaaa", sum := "05a4c34859ee889e1dddd57c52a4a5528aaaf05e26ae3acefd20002e19c794b9", func := "loop.example/g00946/laws.FnExactEraAt", spec := "fnExactEraAt", apart := false }
def FnExactEraAtSaid : Prop := fnExactEraAtRow.holds Try.pinned (OpenSpec.ofChange fnExactEraAtSpec)

/-- ITS FALSE NEIGHBOUR: 'it returns false'. Refute it at one input. -/
def fnExactEraAtWrong : ChangeSpec := { name := "fnExactEraAt", fn := fun _ => fun
  | [d1, d2] => { results := [.lit (.bool false)], args := [d1, d2] }
  | _ => none }
def FnExactEraAtWrongFalsely : Prop := fnExactEraAtRow.holds Try.pinned (OpenSpec.ofChange fnExactEraAtWrong)

/-- 'laws.FnExactEraAdd': WHATEVER THE INPUT: true; the input reads as it did. -/
def fnExactEraAddSpec : ChangeSpec := { name := "fnExactEraAdd", fn := fun _ => fun
  | [d1, d2, d3] => { results := [.lit (.bool true)], args := [d1, d2, d3] }
  | _ => none }
def fnExactEraAddRow : OpenClaim := { program := "ytjofodicecjeaaa", sum := "05a4c34859ee889e1dddd57c52a4a5528aaaf05e26ae3acefd20002e19c794b9", func := "loop.example/g00946/laws.FnExactEraAdd", spec := "fnExactEraAdd", apart := false }
def FnExactEraAddSaid : Prop := fnExactEraAddRow.holds Try.pinned (OpenSpec.ofChange fnExactEraAddSpec)

/-- ITS FALSE NEIGHBOUR: 'it returns false'. Refute it at one input. -/
def fnExactEraAddWrong : ChangeSpec := { name := "fnExactEraAdd", fn := fun _ => fun
  | [d1, d2, d3] => { results := [.lit (.bool false)], args := [d1, d2, d3] }
  | _ => none }
def FnExactEraAddWrongFalsely : Prop := fnExactEraAddRow.holds Try.pinned (OpenSpec.ofChange fnExactEraAddWrong)

/-- 'laws.FnExactEraCut': WHATEVER THE INPUT: true; the input reads as it did. -/
def fnExactEraCutSpec : ChangeSpec := { name := "fnExactEraCut", fn := fun _ => fun
  | [d1, d2] => { results := [.lit (.bool true)], args := [d1, d2] }
  | _ => none }
def fnExactEraCutRow : OpenClaim := { program := "ytjofodicecjeaaa", sum := "05a4c34859ee889e1dddd57c52a4a5528aaaf05e26ae3acefd20002e19c794b9", func := "loop.example/g00946/laws.FnExactEraCut", spec := "fnExactEraCut", apart := false }
def FnExactEraCutSaid : Prop := fnExactEraCutRow.holds Try.pinned (OpenSpec.ofChange fnExactEraCutSpec)

/-- ITS FALSE NEIGHBOUR: 'it returns false'. Refute it at one input. -/
def fnExactEraCutWrong : ChangeSpec := { name := "fnExactEraCut", fn := fun _ => fun
  | [d1, d2] => { results := [.lit (.bool false)], args := [d1, d2] }
  | _ => none }
def FnExactEraCutWrongFalsely : Prop := fnExactEraCutRow.holds Try.pinned (OpenSpec.ofChange fnExactEraCutWrong)

/-- 'laws.FnEras': WHATEVER THE INPUT: true; the input reads as it did. -/
def fnErasSpec : ChangeSpec := { name := "fnEras", fn := fun _ => fun
  | [d] => { results := [.lit (.bool true)], args := [d] }
  | _ => none }
def fnErasRow : OpenClaim := { program := "ytjofodicecjeaaa", sum := "05a4c34859ee889e1dddd57c52a4a5528aaaf05e26ae3acefd20002e19c794b9", func := "loop.example/g00946/laws.FnEras", spec := "fnEras", apart := false }
def FnErasSaid : Prop := fnErasRow.holds Try.pinned (OpenSpec.ofChange fnErasSpec)

/-- ITS FALSE NEIGHBOUR: 'it returns false'. Refute it at one input. -/
def fnErasWrong : ChangeSpec := { name := "fnEras", fn := fun _ => fun
  | [d] => { results := [.lit (.bool false)], args := [d] }
  | _ => none }
def FnErasWrongFalsely : Prop := fnErasRow.holds Try.pinned (OpenSpec.ofChange fnErasWrong)

/-- 'laws.FnExactPMsgOk': WHATEVER THE INPUT: true; the input reads as it did. -/
def fnExactPMsgOkSpec : ChangeSpec := { name := "fnExactPMsgOk", fn := fun _ => fun
  | [d] => { results := [.lit (.bool true)], args := [d] }
  | _ => none }
def fnExactPMsgOkRow : OpenClaim := { program := "ytjofodicecjeaaa", sum := "05a4c34859ee889e1dddd57c52a4a5528aaaf05e26ae3acefd20002e19c794b9", func := "loop.example/g00946/laws.FnExactPMsgOk", spec := "fnExactPMsgOk", apart := false }
def FnExactPMsgOkSaid : Prop := fnExactPMsgOkRow.holds Try.pinned (OpenSpec.ofChange fnExactPMsgOkSpec)

/-- ITS FALSE NEIGHBOUR: 'it returns false'. Refute it at one input. -/
def fnExactPMsgOkWrong : ChangeSpec := { name := "fnExactPMsgOk", fn := fun _ => fun
  | [d] => { results := [.lit (.bool false)], args := [d] }
  | _ => none }
def FnExactPMsgOkWrongFalsely : Prop := fnExactPMsgOkRow.holds Try.pinned (OpenSpec.ofChange fnExactPMsgOkWrong)

/-- 'laws.FnExactCost': WHATEVER THE INPUT: true; the input reads as it did. -/
def fnExactCostSpec : ChangeSpec := { name := "fnExactCost", fn := fun _ => fun
  | [d] => { results := [.lit (.bool true)], args := [d] }
  | _ => none }
def fnExactCostRow : OpenClaim := { program := "ytjofodicecjeaaa", sum := "05a4c34859ee889e1dddd57c52a4a5528aaaf05e26ae3acefd20002e19c794b9", func := "loop.example/g00946/laws.FnExactCost", spec := "fnExactCost", apart := false }
def FnExactCostSaid : Prop := fnExactCostRow.holds Try.pinned (OpenSpec.ofChange fnExactCostSpec)

/-- ITS FALSE NEIGHBOUR: 'it returns false'. Refute it at one input. -/
def fnExactCostWrong : ChangeSpec := { name := "fnExactCost", fn := fun _ => fun
  | [d] => { results := [.lit (.bool false)], args := [d] }
  | _ => none }
def FnExactCostWrongFalsely : Prop := fnExactCostRow.holds Try.pinned (OpenSpec.ofChange fnExactCostWrong)

/-- 'laws.FnExactShowPMsg': WHATEVER THE INPUT: true; the input reads as it did. -/
def fnExactShowPMsgSpec : ChangeSpec := { name := "fnExactShowPMsg", fn := fun _ => fun
  | [d] => { results := [.lit (.bool true)], args := [d] }
  | _ => none }
def fnExactShowPMsgRow : OpenClaim := { program := "ytjofodicecjeaaa", sum := "05a4c34859ee889e1dddd57c52a4a5528aaaf05e26ae3acefd20002e19c794b9", func := "loop.example/g00946/laws.FnExactShowPMsg", spec := "fnExactShowPMsg", apart := false }
def FnExactShowPMsgSaid : Prop := fnExactShowPMsgRow.holds Try.pinned (OpenSpec.ofChange fnExactShowPMsgSpec)

/-- ITS FALSE NEIGHBOUR: 'it returns false'. Refute it at one input. -/
def fnExactShowPMsgWrong : ChangeSpec := { name := "fnExactShowPMsg", fn := fun _ => fun
  | [d] => { results := [.lit (.bool false)], args := [d] }
  | _ => none }
def FnExactShowPMsgWrongFalsely : Prop := fnExactShowPMsgRow.holds Try.pinned (OpenSpec.ofChange fnExactShowPMsgWrong)

/-- 'laws.FnExactReadPMsg': WHATEVER THE INPUT: true; the input reads as it did. -/
def fnExactReadPMsgSpec : ChangeSpec := { name := "fnExactReadPMsg", fn := fun _ => fun
  | [d] => { results := [.lit (.bool true)], args := [d] }
  | _ => none }
def fnExactReadPMsgRow : OpenClaim := { program := "ytjofodicecjeaaa", sum := "05a4c34859ee889e1dddd57c52a4a5528aaaf05e26ae3acefd20002e19c794b9", func := "loop.example/g00946/laws.FnExactReadPMsg", spec := "fnExactReadPMsg", apart := false }
def FnExactReadPMsgSaid : Prop := fnExactReadPMsgRow.holds Try.pinned (OpenSpec.ofChange fnExactReadPMsgSpec)

/-- ITS FALSE NEIGHBOUR: 'it returns false'. Refute it at one input. -/
def fnExactReadPMsgWrong : ChangeSpec := { name := "fnExactReadPMsg", fn := fun _ => fun
  | [d] => { results := [.lit (.bool false)], args := [d] }
  | _ => none }
def FnExactReadPMsgWrongFalsely : Prop := fnExactReadPMsgRow.holds Try.pinned (OpenSpec.ofChange fnExactReadPMsgWrong)

/-- 'laws.FnExactPoolAdd': WHATEVER THE INPUT: true; the input reads as it did. -/
def fnExactPoolAddSpec : ChangeSpec := { name := "fnExactPoolAdd", fn := fun _ => fun
  | [d1, d2] => { results := [.lit (.bool true)], args := [d1, d2] }
  | _ => none }
def fnExactPoolAddRow : OpenClaim := { program := "ytjofodicecjeaaa", sum := "05a4c34859ee889e1dddd57c52a4a5528aaaf05e26ae3acefd20002e19c794b9", func := "loop.example/g00946/laws.FnExactPoolAdd", spec := "fnExactPoolAdd", unfollowed := true, recurses := true, apart := false }
def FnExactPoolAddSaid : Prop := fnExactPoolAddRow.holds Try.pinned (OpenSpec.ofChange fnExactPoolAddSpec)

/-- ITS FALSE NEIGHBOUR: 'it returns false'. Refute it at one input. -/
def fnExactPoolAddWrong : ChangeSpec := { name := "fnExactPoolAdd", fn := fun _ => fun
  | [d1, d2] => { results := [.lit (.bool false)], args := [d1, d2] }
  | _ => none }
def FnExactPoolAddWrongFalsely : Prop := fnExactPoolAddRow.holds Try.pinned (OpenSpec.ofChange fnExactPoolAddWrong)

/-- 'laws.FnPeerWords': WHATEVER THE INPUT: true; the input reads as it did. -/
def fnPeerWordsSpec : ChangeSpec := { name := "fnPeerWords", fn := fun _ => fun
  | [d] => { results := [.lit (.bool true)], args := [d] }
  | _ => none }
def fnPeerWordsRow : OpenClaim := { program := "ytjofodicecjeaaa", sum := "05a4c34859ee889e1dddd57c52a4a5528aaaf05e26ae3acefd20002e19c794b9", func := "loop.example/g00946/laws.FnPeerWords", spec := "fnPeerWords", apart := false }
def FnPeerWordsSaid : Prop := fnPeerWordsRow.holds Try.pinned (OpenSpec.ofChange fnPeerWordsSpec)

/-- ITS FALSE NEIGHBOUR: 'it returns false'. Refute it at one input. -/
def fnPeerWordsWrong : ChangeSpec := { name := "fnPeerWords", fn := fun _ => fun
  | [d] => { results := [.lit (.bool false)], args := [d] }
  | _ => none }
def FnPeerWordsWrongFalsely : Prop := fnPeerWordsRow.holds Try.pinned (OpenSpec.ofChange fnPeerWordsWrong)

/-- 'laws.FnExactReward': WHATEVER THE INPUT: true; the input reads as it did. -/
def fnExactRewardSpec : ChangeSpec := { name := "fnExactReward", fn := fun _ => fun
  | [d1, d2, d3] => { results := [.lit (.bool true)], args := [d1, d2, d3] }
  | _ => none }
def fnExactRewardRow : OpenClaim := { program := "ytjofodicecjeaaa", sum := "05a4c34859ee889e1dddd57c52a4a5528aaaf05e26ae3acefd20002e19c794b9", func := "loop.example/g00946/laws.FnExactReward", spec := "fnExactReward", unfollowed := true, recurses := true, apart := false }
def FnExactRewardSaid : Prop := fnExactRewardRow.holds Try.pinned (OpenSpec.ofChange fnExactRewardSpec)

/-- ITS FALSE NEIGHBOUR: 'it returns false'. Refute it at one input. -/
def fnExactRewardWrong : ChangeSpec := { name := "fnExactReward", fn := fun _ => fun
  | [d1, d2, d3] => { results := [.lit (.bool false)], args := [d1, d2, d3] }
  | _ => none }
def FnExactRewardWrongFalsely : Prop := fnExactRewardRow.holds Try.pinned (OpenSpec.ofChange fnExactRewardWrong)

/- THE SECOND FORM. 'bulk': how many values and letters a reading holds, each counted each time it is reached (what is shared counts as often as it is met; a slice's spare places count too). A statement '..UptoSaid' is the law's where the arguments, and the package variables that the reading takes, are together of bulk at most 1048576: NARROWER than '..Said'. Prove '..Said' where nothing that the law and all that it calls make is longer than what came in: it says more and counts as full. Else prove '..UptoSaid'. A law counts once. -/
mutual
def uptoBulk {H : Type} : DataW H → Nat
  | .lit (.string bytes) => bytes.length + 1
  | .lit _ => 1
  | .nil => 1
  | .ptr d => uptoBulk d + 1
  | .slice elems spare => uptoBulkAll elems + uptoBulkAll spare + 1
  | .agg parts => uptoBulkAll parts + 1
  | .iface _ d => uptoBulk d + 1
  | .map entries => uptoBulkEntries entries + 1
  | .held _ => 1
def uptoBulkAll {H : Type} : List (DataW H) → Nat
  | [] => 0
  | d :: r => uptoBulk d + uptoBulkAll r
def uptoBulkEntries {H : Type} : List (Lit × DataW H) → Nat
  | [] => 0
  | x :: r => uptoBulkEntry x + uptoBulkEntries r
def uptoBulkEntry {H : Type} : Lit × DataW H → Nat
  | (.string bytes, d) => bytes.length + uptoBulk d + 1
  | (_, d) => uptoBulk d + 1
 end
def uptoSmall : (H : Type) → List (DataW H) → Bool := fun _ ds => decide (uptoBulkAll ds ≤ 1048576)
def OpenSpec.upto (s : _root_.Go.ChangeSpec) : _root_.Go.OpenSpec := { _root_.Go.OpenSpec.ofChange s with cond := some uptoSmall }

/-- 'laws.FnExactErasOk', WHERE WHAT IT READS IS OF BULK AT MOST 1048576: true; the input reads as it did. -/
def fnExactErasOkUptoRow : OpenClaim := { program := "ytjofodicecjeaaa", sum := "05a4c34859ee889e1dddd57c52a4a5528aaaf05e26ae3acefd20002e19c794b9", func := "loop.example/g00946/laws.FnExactErasOk", spec := "fnExactErasOk", apart := false, narrowed := true }
def FnExactErasOkUptoSaid : Prop := fnExactErasOkUptoRow.holds Try.pinned (OpenSpec.upto fnExactErasOkSpec)

/-- 'laws.FnExactEraAt', WHERE WHAT IT READS IS OF BULK AT MOST 1048576: true; the input reads as it did. -/
def fnExactEraAtUptoRow : OpenClaim := { program := "ytjofodicecjeaaa", sum := "05a4c34859ee889e1dddd57c52a4a5528aaaf05e26ae3acefd20002e19c794b9", func := "loop.example/g00946/laws.FnExactEraAt", spec := "fnExactEraAt", apart := false, narrowed := true }
def FnExactEraAtUptoSaid : Prop := fnExactEraAtUptoRow.holds Try.pinned (OpenSpec.upto fnExactEraAtSpec)

/-- 'laws.FnExactEraAdd', WHERE WHAT IT READS IS OF BULK AT MOST 1048576: true; the input reads as it did. -/
def fnExactEraAddUptoRow : OpenClaim := { program := "ytjofodicecjeaaa", sum := "05a4c34859ee889e1dddd57c52a4a5528aaaf05e26ae3acefd20002e19c794b9", func := "loop.example/g00946/laws.FnExactEraAdd", spec := "fnExactEraAdd", apart := false, narrowed := true }
def FnExactEraAddUptoSaid : Prop := fnExactEraAddUptoRow.holds Try.pinned (OpenSpec.upto fnExactEraAddSpec)

/-- 'laws.FnExactEraCut', WHERE WHAT IT READS IS OF BULK AT MOST 1048576: true; the input reads as it did. -/
def fnExactEraCutUptoRow : OpenClaim := { program := "ytjofodicecjeaaa", sum := "05a4c34859ee889e1dddd57c52a4a5528aaaf05e26ae3acefd20002e19c794b9", func := "loop.example/g00946/laws.FnExactEraCut", spec := "fnExactEraCut", apart := false, narrowed := true }
def FnExactEraCutUptoSaid : Prop := fnExactEraCutUptoRow.holds Try.pinned (OpenSpec.upto fnExactEraCutSpec)

/-- 'laws.FnEras', WHERE WHAT IT READS IS OF BULK AT MOST 1048576: true; the input reads as it did. -/
def fnErasUptoRow : OpenClaim := { program := "ytjofodicecjeaaa", sum := "05a4c34859ee889e1dddd57c52a4a5528aaaf05e26ae3acefd20002e19c794b9", func := "loop.example/g00946/laws.FnEras", spec := "fnEras", apart := false, narrowed := true }
def FnErasUptoSaid : Prop := fnErasUptoRow.holds Try.pinned (OpenSpec.upto fnErasSpec)

/-- 'laws.FnExactPMsgOk', WHERE WHAT IT READS IS OF BULK AT MOST 1048576: true; the input reads as it did. -/
def fnExactPMsgOkUptoRow : OpenClaim := { program := "ytjofodicecjeaaa", sum := "05a4c34859ee889e1dddd57c52a4a5528aaaf05e26ae3acefd20002e19c794b9", func := "loop.example/g00946/laws.FnExactPMsgOk", spec := "fnExactPMsgOk", apart := false, narrowed := true }
def FnExactPMsgOkUptoSaid : Prop := fnExactPMsgOkUptoRow.holds Try.pinned (OpenSpec.upto fnExactPMsgOkSpec)

/-- 'laws.FnExactCost', WHERE WHAT IT READS IS OF BULK AT MOST 1048576: true; the input reads as it did. -/
def fnExactCostUptoRow : OpenClaim := { program := "ytjofodicecjeaaa", sum := "05a4c34859ee889e1dddd57c52a4a5528aaaf05e26ae3acefd20002e19c794b9", func := "loop.example/g00946/laws.FnExactCost", spec := "fnExactCost", apart := false, narrowed := true }
def FnExactCostUptoSaid : Prop := fnExactCostUptoRow.holds Try.pinned (OpenSpec.upto fnExactCostSpec)

/-- 'laws.FnExactShowPMsg', WHERE WHAT IT READS IS OF BULK AT MOST 1048576: true; the input reads as it did. -/
def fnExactShowPMsgUptoRow : OpenClaim := { program := "ytjofodicecjeaaa", sum := "05a4c34859ee889e1dddd57c52a4a5528aaaf05e26ae3acefd20002e19c794b9", func := "loop.example/g00946/laws.FnExactShowPMsg", spec := "fnExactShowPMsg", apart := false, narrowed := true }
def FnExactShowPMsgUptoSaid : Prop := fnExactShowPMsgUptoRow.holds Try.pinned (OpenSpec.upto fnExactShowPMsgSpec)

/-- 'laws.FnExactReadPMsg', WHERE WHAT IT READS IS OF BULK AT MOST 1048576: true; the input reads as it did. -/
def fnExactReadPMsgUptoRow : OpenClaim := { program := "ytjofodicecjeaaa", sum := "05a4c34859ee889e1dddd57c52a4a5528aaaf05e26ae3acefd20002e19c794b9", func := "loop.example/g00946/laws.FnExactReadPMsg", spec := "fnExactReadPMsg", apart := false, narrowed := true }
def FnExactReadPMsgUptoSaid : Prop := fnExactReadPMsgUptoRow.holds Try.pinned (OpenSpec.upto fnExactReadPMsgSpec)

/-- 'laws.FnExactPoolAdd', WHERE WHAT IT READS IS OF BULK AT MOST 1048576: true; the input reads as it did. -/
def fnExactPoolAddUptoRow : OpenClaim := { program := "ytjofodicecjeaaa", sum := "05a4c34859ee889e1dddd57c52a4a5528aaaf05e26ae3acefd20002e19c794b9", func := "loop.example/g00946/laws.FnExactPoolAdd", spec := "fnExactPoolAdd", unfollowed := true, recurses := true, apart := false, narrowed := true }
def FnExactPoolAddUptoSaid : Prop := fnExactPoolAddUptoRow.holds Try.pinned (OpenSpec.upto fnExactPoolAddSpec)

/-- 'laws.FnPeerWords', WHERE WHAT IT READS IS OF BULK AT MOST 1048576: true; the input reads as it did. -/
def fnPeerWordsUptoRow : OpenClaim := { program := "ytjofodicecjeaaa", sum := "05a4c34859ee889e1dddd57c52a4a5528aaaf05e26ae3acefd20002e19c794b9", func := "loop.example/g00946/laws.FnPeerWords", spec := "fnPeerWords", apart := false, narrowed := true }
def FnPeerWordsUptoSaid : Prop := fnPeerWordsUptoRow.holds Try.pinned (OpenSpec.upto fnPeerWordsSpec)

/-- 'laws.FnExactReward', WHERE WHAT IT READS IS OF BULK AT MOST 1048576: true; the input reads as it did. -/
def fnExactRewardUptoRow : OpenClaim := { program := "ytjofodicecjeaaa", sum := "05a4c34859ee889e1dddd57c52a4a5528aaaf05e26ae3acefd20002e19c794b9", func := "loop.example/g00946/laws.FnExactReward", spec := "fnExactReward", unfollowed := true, recurses := true, apart := false, narrowed := true }
def FnExactRewardUptoSaid : Prop := fnExactRewardUptoRow.holds Try.pinned (OpenSpec.upto fnExactRewardSpec)

end Rows
end Go.Proofs.Ytjofodicecjeaaa
