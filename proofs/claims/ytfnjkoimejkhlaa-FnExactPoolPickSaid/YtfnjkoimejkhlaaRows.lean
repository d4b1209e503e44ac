/-
  No cell of these rows narrows 'for every input' (looked for: loops, veiled, ifaces, maps, wideKeys, modest, calm, conditions, laid).
  DERIVED. THE GIVEN ROWS OF THIS SEAT. 12 by the template 'for every input the law returns true; each argument reads behind the call as it read before'; 0 by the template 'total and deterministic' (their statements: YtfnjkoimejkhlaaTotals.lean).
  GIVEN WITH THE SEED: the statements are not yours to turn. If you find one false, say at which input.
  Laid BY PROGRAM, IN A SANDBOX (cutbox-rows.mjs): the forced cells as the released guide's own fill.sh prints them over the translation b12e7b7715788f01… (all of the seat's roots in one cut). By AI agents, Wed Nov 11 2026. No macro, syntax, notation, axiom, sorry.
-/
import Derived.Test.YtfnjkoimejkhlaaChecked
import GoSem.Claim
import GoSem.ClaimJoined
import GoSem.ClaimMapViews
import Derived.JoinedTies
import Derived.KernelRfl
namespace Go.Proofs.Ytfnjkoimejkhlaa
/- THE CELL 'sum', in the pinned program and in every row, IS THE sha256 OF THE DUMP (.gsa) THAT YtfnjkoimejkhlaaProg.lean LOADS. Nothing in Lean hashes anything: it is a label: what it is worth is what the hold of that sum in a sandbox is worth. -/
noncomputable def Try.pinned : Pinned := { name := "ytfnjkoimejkhlaa", sum := "b12e7b7715788f0138d05cfdad3a1ce9473cdbd7a24e660f116befc89b8240a3", checked := Try.checked }
namespace Rows
def none {H : Type} : Left H := { results := [], args := [] }

/-- 'laws.FnExactPoolFee': WHATEVER THE INPUT: true; the input reads as it did. -/
def fnExactPoolFeeSpec : ChangeSpec := { name := "fnExactPoolFee", fn := fun _ => fun
  | [d] => { results := [.lit (.bool true)], args := [d] }
  | _ => none }
def fnExactPoolFeeRow : OpenClaim := { program := "ytfnjkoimejkhlaa", sum := "b12e7b7715788f0138d05cfdad3a1ce9473cdbd7a24e660f116befc89b8240a3", func := "loop.example/g00946/laws.FnExactPoolFee", spec := "fnExactPoolFee", apart := false }
def FnExactPoolFeeSaid : Prop := fnExactPoolFeeRow.holds Try.pinned (OpenSpec.ofChange fnExactPoolFeeSpec)

/-- ITS FALSE NEIGHBOUR: 'it returns false'. Refute it at one input. -/
def fnExactPoolFeeWrong : ChangeSpec := { name := "fnExactPoolFee", fn := fun _ => fun
  | [d] => { results := [.lit (.bool false)], args := [d] }
  | _ => none }
def FnExactPoolFeeWrongFalsely : Prop := fnExactPoolFeeRow.holds Try.pinned (OpenSpec.ofChange fnExactPoolFeeWrong)

/-- 'laws.FnExactBookSum': WHATEVER THE INPUT: true; the input reads as it did. -/
def fnExactBookSumSpec : ChangeSpec := { name := "fnExactBookSum", fn := fun _ => fun
  | [d] => { results := [.lit (.bool true)], args := [d] }
  | _ => none }
def fnExactBookSumRow : OpenClaim := { program := "ytfnjkoimejkhlaa", sum := "b12e7b7715788f0138d05cfdad3a1ce9473cdbd7a24e660f116befc89b8240a3", func := "loop.example/g00946/laws.FnExactBookSum", spec := "fnExactBookSum", apart := false }
def FnExactBookSumSaid : Prop := fnExactBookSumRow.holds Try.pinned (OpenSpec.ofChange fnExactBookSumSpec)

/-- ITS FALSE NEIGHBOUR: 'it returns false'. Refute it at one input. -/
def fnExactBookSumWrong : ChangeSpec := { name := "fnExactBookSum", fn := fun _ => fun
  | [d] => { results := [.lit (.bool false)], args := [d] }
  | _ => none }
def FnExactBookSumWrongFalsely : Prop := fnExactBookSumRow.holds Try.pinned (OpenSpec.ofChange fnExactBookSumWrong)

/-- 'laws.FnExactThird': WHATEVER THE INPUT: true; the input reads as it did. -/
def fnExactThirdSpec : ChangeSpec := { name := "fnExactThird", fn := fun _ => fun
  | [d1, d2] => { results := [.lit (.bool true)], args := [d1, d2] }
  | _ => none }
def fnExactThirdRow : OpenClaim := { program := "ytfnjkoimejkhlaa", sum := "b12e7b7715788f0138d05cfdad3a1ce9473cdbd7a24e660f116befc89b8240a3", func := "loop.example/g00946/laws.FnExactThird", spec := "fnExactThird", unfollowed := true, recurses := true, apart := false }
def FnExactThirdSaid : Prop := fnExactThirdRow.holds Try.pinned (OpenSpec.ofChange fnExactThirdSpec)

/-- ITS FALSE NEIGHBOUR: 'it returns false'. Refute it at one input. -/
def fnExactThirdWrong : ChangeSpec := { name := "fnExactThird", fn := fun _ => fun
  | [d1, d2] => { results := [.lit (.bool false)], args := [d1, d2] }
  | _ => none }
def FnExactThirdWrongFalsely : Prop := fnExactThirdRow.holds Try.pinned (OpenSpec.ofChange fnExactThirdWrong)

/-- 'laws.FnExactToVals': WHATEVER THE INPUT: true; the input reads as it did. -/
def fnExactToValsSpec : ChangeSpec := { name := "fnExactToVals", fn := fun _ => fun
  | [d1, d2] => { results := [.lit (.bool true)], args := [d1, d2] }
  | _ => none }
def fnExactToValsRow : OpenClaim := { program := "ytfnjkoimejkhlaa", sum := "b12e7b7715788f0138d05cfdad3a1ce9473cdbd7a24e660f116befc89b8240a3", func := "loop.example/g00946/laws.FnExactToVals", spec := "fnExactToVals", apart := false }
def FnExactToValsSaid : Prop := fnExactToValsRow.holds Try.pinned (OpenSpec.ofChange fnExactToValsSpec)

/-- ITS FALSE NEIGHBOUR: 'it returns false'. Refute it at one input. -/
def fnExactToValsWrong : ChangeSpec := { name := "fnExactToVals", fn := fun _ => fun
  | [d1, d2] => { results := [.lit (.bool false)], args := [d1, d2] }
  | _ => none }
def FnExactToValsWrongFalsely : Prop := fnExactToValsRow.holds Try.pinned (OpenSpec.ofChange fnExactToValsWrong)

/-- 'laws.FnExactPoolDone': WHATEVER THE INPUT: true; the input reads as it did. -/
def fnExactPoolDoneSpec : ChangeSpec := { name := "fnExactPoolDone", fn := fun _ => fun
  | [d1, d2] => { results := [.lit (.bool true)], args := [d1, d2] }
  | _ => none }
def fnExactPoolDoneRow : OpenClaim := { program := "ytfnjkoimejkhlaa", sum := "b12e7b7715788f0138d05cfdad3a1ce9473cdbd7a24e660f116befc89b8240a3", func := "loop.example/g00946/laws.FnExactPoolDone", spec := "fnExactPoolDone", unfollowed := true, recurses := true, apart := false }
def FnExactPoolDoneSaid : Prop := fnExactPoolDoneRow.holds Try.pinned (OpenSpec.ofChange fnExactPoolDoneSpec)

/-- ITS FALSE NEIGHBOUR: 'it returns false'. Refute it at one input. -/
def fnExactPoolDoneWrong : ChangeSpec := { name := "fnExactPoolDone", fn := fun _ => fun
  | [d1, d2] => { results := [.lit (.bool false)], args := [d1, d2] }
  | _ => none }
def FnExactPoolDoneWrongFalsely : Prop := fnExactPoolDoneRow.holds Try.pinned (OpenSpec.ofChange fnExactPoolDoneWrong)

/-- 'laws.FnExactErasOk': WHATEVER THE INPUT: true; the input reads as it did. -/
def fnExactErasOkSpec : ChangeSpec := { name := "fnExactErasOk", fn := fun _ => fun
  | [d] => { results := [.lit (.bool true)], args := [d] }
  | _ => none }
def fnExactErasOkRow : OpenClaim := { program := "ytfnjkoimejkhlaa", sum := "b12e7b7715788f0138d05cfdad3a1ce9473cdbd7a24e660f116befc89b8240a3", func := "loop.example/g00946/laws.FnExactErasOk", spec := "fnExactErasOk", apart := false }
def FnExactErasOkSaid : Prop := fnExactErasOkRow.holds Try.pinned (OpenSpec.ofChange fnExactErasOkSpec)

/-- ITS FALSE NEIGHBOUR: 'it returns false'. Refute it at one input. -/
def fnExactErasOkWrong : ChangeSpec := { name := "fnExactErasOk", fn := fun _ => fun
  | [d] => { results := [.lit (.bool false)], args := [d] }
  | _ => none }
def FnExactErasOkWrongFalsely : Prop := fnExactErasOkRow.holds Try.pinned (OpenSpec.ofChange fnExactErasOkWrong)

/-- 'laws.FnExactSlash': WHATEVER THE INPUT: true; the input reads as it did. -/
def fnExactSlashSpec : ChangeSpec := { name := "fnExactSlash", fn := fun _ => fun
  | [d1, d2, d3] => { results := [.lit (.bool true)], args := [d1, d2, d3] }
  | _ => none }
def fnExactSlashRow : OpenClaim := { program := "ytfnjkoimejkhlaa", sum := "b12e7b7715788f0138d05cfdad3a1ce9473cdbd7a24e660f116befc89b8240a3", func := "loop.example/g00946/laws.FnExactSlash", spec := "fnExactSlash", apart := false }
def FnExactSlashSaid : Prop := fnExactSlashRow.holds Try.pinned (OpenSpec.ofChange fnExactSlashSpec)

/-- ITS FALSE NEIGHBOUR: 'it returns false'. Refute it at one input. -/
def fnExactSlashWrong : ChangeSpec := { name := "fnExactSlash", fn := fun _ => fun
  | [d1, d2, d3] => { results := [.lit (.bool false)], args := [d1, d2, d3] }
  | _ => none }
def FnExactSlashWrongFalsely : Prop := fnExactSlashRow.holds Try.pinned (OpenSpec.ofChange fnExactSlashWrong)

/-- 'laws.FnExactPoolPick': WHATEVER THE INPUT: true; the input reads as it did. -/
def fnExactPoolPickSpec : ChangeSpec := { name := "fnExactPoolPick", fn := fun _ => fun
  | [d1, d2, d3] => { results := [.lit (.bool true)], args := [d1, d2, d3] }
  | _ => none }
def fnExactPoolPickRow : OpenClaim := { program := "ytfnjkoimejkhlaa", sum := "b12e7b7715788f0138d05cfdad3a1ce9473cdbd7a24e660f116befc89b8240a3", func := "loop.example/g00946/laws.FnExactPoolPick", spec := "fnExactPoolPick", apart := false }
def FnExactPoolPickSaid : Prop := fnExactPoolPickRow.holds Try.pinned (OpenSpec.ofChange fnExactPoolPickSpec)

/-- ITS FALSE NEIGHBOUR: 'it returns false'. Refute it at one input. -/
def fnExactPoolPickWrong : ChangeSpec := { name := "fnExactPoolPick", fn := fun _ => fun
  | [d1, d2, d3] => { results := [.lit (.bool false)], args := [d1, d2, d3] }
  | _ => none }
def FnExactPoolPickWrongFalsely : Prop := fnExactPoolPickRow.holds Try.pinned (OpenSpec.ofChange fnExactPoolPickWrong)

/-- 'laws.FnExactEraAt': WHATEVER THE INPUT: true; the input reads as it did. -/
def fnExactEraAtSpec : ChangeSpec := { name := "fnExactEraAt", fn := fun _ => fun
  | [d1, d2] => { results := [.lit (.bool true)], args := [d1, d2] }
  | _ => none }
def fnExactEraAtRow : OpenClaim := { program := "ytfnjkoimejkhlaa", sum := "b12e7b7715788f0138d05cfdad3a1ce9473cdbd7a24e660f116befc89b8240a3", func := "loop.example/g00946/laws.FnExactEraAt", spec := "fnExactEraAt", apart := false }
def FnExactEraAtSaid : Prop := fnExactEraAtRow.holds Try.pinned (OpenSpec.ofChange fnExactEraAtSpec)

/-- ITS FALSE NEIGHBOUR: 'it returns false'. Refute it at one input. -/
def fnExactEraAtWrong : ChangeSpec := { name := "fnExactEraAt", fn := fun _ => fun
  | [d1, d2] => { results := [.lit (.bool false)], args := [d1, d2] }
  | _ => none }
def FnExactEraAtWrongFalsely : Prop := fnExactEraAtRow.holds Try.pinned (OpenSpec.ofChange fnExactEraAtWrong)

/-- 'laws.FnExactEraAdd': WHATEVER THE INPUT: true; the input reads as it did. -/
def fnExactEraAddSpec : ChangeSpec := { name := "fnExactEraAdd", fn := fun _ => fun
  | [d1, d2, d3] => { results := [.lit (.bool true)], args := [d1, d2, d3] }
  | _ => none }
def fnExactEraAddRow : OpenClaim := { program := "ytfnjkoimejkhlaa", sum := "b12e7b7715788f0138d05cfdad3a1ce9473cdbd7a24e660f116befc89b8240a3", func := "loop.example/g00946/laws.FnExactEraAdd", spec := "fnExactEraAdd", apart := false }
def FnExactEraAddSaid : Prop := fnExactEraAddRow.holds Try.pinned (OpenSpec.ofChange fnExactEraAddSpec)

/-- ITS FALSE NEIGHBOUR: 'it returns false'. Refute it at one input. -/
def fnExactEraAddWrong : ChangeSpec := { name := "fnExactEraAdd", fn := fun _ => fun
  | [d1, d2, d3] => { results := [.lit (.bool false)], args := [d1, d2, d3] }
  | _ => none }
def FnExactEraAddWrongFalsely : Prop := fnExactEraAddRow.holds Try.pinned (OpenSpec.ofChange fnExactEraAddWrong)

/-- 'laws.FnExactEraCut': WHATEVER THE INPUT: true; the input reads as it did. -/
def fnExactEraCutSpec : ChangeSpec := { name := "fnExactEraCut", fn := fun _ => fun
  | [d1, d2] => { results := [.lit (.bool true)], args := [d1, d2] }
  | _ => none }
def fnExactEraCutRow : OpenClaim := { program := "ytfnjkoimejkhlaa", sum := "b12e7b7715788f0138d05cfdad3a1ce9473cdbd7a24e660f116befc89b8240a3", func := "loop.example/g00946/laws.FnExactEraCut", spec := "fnExactEraCut", apart := false }
def FnExactEraCutSaid : Prop := fnExactEraCutRow.holds Try.pinned (OpenSpec.ofChange fnExactEraCutSpec)

/-- ITS FALSE NEIGHBOUR: 'it returns false'. Refute it at one input. -/
def fnExactEraCutWrong : ChangeSpec := { name := "fnExactEraCut", fn := fun _ => fun
  | [d1, d2] => { results := [.lit (.bool false)], args := [d1, d2] }
  | _ => none }
def FnExactEraCutWrongFalsely : Prop := fnExactEraCutRow.holds Try.pinned (OpenSpec.ofChange fnExactEraCutWrong)

/-- 'laws.FnEras': WHATEVER THE INPUT: true; the input reads as it did. -/
def fnErasSpec : ChangeSpec := { name := "fnEras", fn := fun _ => fun
  | [d] => { results := [.lit (.bool true)], args := [d] }
  | _ => none }
def fnErasRow : OpenClaim := { program := "ytfnjkoimejkhlaa", sum := "b12e7b7715788f0138d05cfdad3a1ce9473cdbd7a24e660f116befc89b8240a3", func := "loop.example/g00946/laws.FnEras", spec := "fnEras", apart := false }
def FnErasSaid : Prop := fnErasRow.holds Try.pinned (OpenSpec.ofChange fnErasSpec)

/-- ITS FALSE NEIGHBOUR: 'it returns false'. Refute it at one input. -/
def fnErasWrong : ChangeSpec := { name := "fnEras", fn := fun _ => fun
  | [d] => { results := [.lit (.bool false)], args := [d] }
  | _ => none }
def FnErasWrongFalsely : Prop := fnErasRow.holds Try.pinned (OpenSpec.ofChange fnErasWrong)

/- THE SECOND FORM. 'bulk': how many values and letters a reading holds, each counted each time it is reached (what is shared counts as often as it is met; a slice's spare places count too). A statement '..UptoSaid' is the law's where the arguments, and the package variables that the reading takes, are together of bulk at most 1048576: NARROWER than '..Said'. Prove '..Said' where nothing that the law and all that it calls make is longer than what came in: it says more and counts as full. Else prove '..UptoSaid'. A law counts once. -/
mutual
def uptoBulk {H : Type} : DataW H → Nat
  | .lit (.string bytes) => bytes.length + 1
  | .lit _ => 1
  | .nil => 1
  | .ptr d => uptoBulk d + 1
  | .slice elems spare => uptoBulkAll elems + uptoBulkAll spare + 1
  | .agg parts => uptoBulkAll parts + 1
  | .iface _ d => uptoBulk d + 1
  | .map entries => uptoBulkEntries entries + 1
  | .held _ => 1
def uptoBulkAll {H : Type} : List (DataW H) → Nat
  | [] => 0
  | d :: r => uptoBulk d + uptoBulkAll r
def uptoBulkEntries {H : Type} : List (Lit × DataW H) → Nat
  | [] => 0
  | x :: r => uptoBulkEntry x + uptoBulkEntries r
def uptoBulkEntry {H : Type} : Lit × DataW H → Nat
  | (.string bytes, d) => bytes.length + uptoBulk d + 1
  | (_, d) => uptoBulk d + 1
 end
def uptoSmall : (H : Type) → List (DataW H) → Bool := fun _ ds => decide (uptoBulkAll ds ≤ 1048576)
def OpenSpec.upto (s : _root_.Go.ChangeSpec) : _root_.Go.OpenSpec := { _root_.Go.OpenSpec.ofChange s with cond := some uptoSmall }

/-- 'laws.FnExactPoolFee', WHERE WHAT IT READS IS OF BULK AT MOST 1048576: true; the input reads as it did. -/
def fnExactPoolFeeUptoRow : OpenClaim := { program := "ytfnjkoimejkhlaa", sum := "b12e7b7715788f0138d05cfdad3a1ce9473cdbd7a24e660f116befc89b8240a3", func := "loop.example/g00946/laws.FnExactPoolFee", spec := "fnExactPoolFee", apart := false, narrowed := true }
def FnExactPoolFeeUptoSaid : Prop := fnExactPoolFeeUptoRow.holds Try.pinned (OpenSpec.upto fnExactPoolFeeSpec)

/-- 'laws.FnExactBookSum', WHERE WHAT IT READS IS OF BULK AT MOST 1048576: true; the input reads as it did. -/
def fnExactBookSumUptoRow : OpenClaim := { program := "ytfnjkoimejkhlaa", sum := "b12e7b7715788f0138d05cfdad3a1ce9473cdbd7a24e660f116befc89b8240a3", func := "loop.example/g00946/laws.FnExactBookSum", spec := "fnExactBookSum", apart := false, narrowed := true }
def FnExactBookSumUptoSaid : Prop := fnExactBookSumUptoRow.holds Try.pinned (OpenSpec.upto fnExactBookSumSpec)

/-- 'laws.FnExactThird', WHERE WHAT IT READS IS OF BULK AT MOST 1048576: true; the input reads as it did. -/
def fnExactThirdUptoRow : OpenClaim := { program := "ytfnjkoimejkhlaa", sum := "b12e7b7715788f0138d05cfdad3a1ce9473cdbd7a24e660f116befc89b8240a3", func := "loop.example/g00946/laws.FnExactThird", spec := "fnExactThird", unfollowed := true, recurses := true, apart := false, narrowed := true }
def FnExactThirdUptoSaid : Prop := fnExactThirdUptoRow.holds Try.pinned (OpenSpec.upto fnExactThirdSpec)

/-- 'laws.FnExactToVals', WHERE WHAT IT READS IS OF BULK AT MOST 1048576: true; the input reads as it did. -/
def fnExactToValsUptoRow : OpenClaim := { program := "ytfnjkoimejkhlaa", sum := "b12e7b7715788f0138d05cfdad3a1ce9473cdbd7a24e660f116befc89b8240a3", func := "loop.example/g00946/laws.FnExactToVals", spec := "fnExactToVals", apart := false, narrowed := true }
def FnExactToValsUptoSaid : Prop := fnExactToValsUptoRow.holds Try.pinned (OpenSpec.upto fnExactToValsSpec)

/-- 'laws.FnExactPoolDone', WHERE WHAT IT READS IS OF BULK AT MOST 1048576: true; the input reads as it did. -/
def fnExactPoolDoneUptoRow : OpenClaim := { program := "ytfnjkoimejkhlaa", sum := "b12e7b7715788f0138d05cfdad3a1ce9473cdbd7a24e660f116befc89b8240a3", func := "loop.example/g00946/laws.FnExactPoolDone", spec := "fnExactPoolDone", unfollowed := true, recurses := true, apart := false, narrowed := true }
def FnExactPoolDoneUptoSaid : Prop := fnExactPoolDoneUptoRow.holds Try.pinned (OpenSpec.upto fnExactPoolDoneSpec)

/-- 'laws.FnExactErasOk', WHERE WHAT IT READS IS OF BULK AT MOST 1048576: true; the input reads as it did. -/
def fnExactErasOkUptoRow : OpenClaim := { program := "ytfnjkoimejkhlaa", sum := "b12e7b7715788f0138d05cfdad3a1ce9473cdbd7a24e660f116befc89b8240a3", func := "loop.example/g00946/laws.FnExactErasOk", spec := "fnExactErasOk", apart := false, narrowed := true }
def FnExactErasOkUptoSaid : Prop := fnExactErasOkUptoRow.holds Try.pinned (OpenSpec.upto fnExactErasOkSpec)

/-- 'laws.FnExactSlash', WHERE WHAT IT READS IS OF BULK AT MOST 1048576: true; the input reads as it did. -/
def fnExactSlashUptoRow : OpenClaim := { program := "ytfnjkoimejkhlaa", sum := "b12e7b7715788f0138d05cfdad3a1ce9473cdbd7a24e660f116befc89b8240a3", func := "loop.example/g00946/laws.FnExactSlash", spec := "fnExactSlash", apart := false, narrowed := true }
def FnExactSlashUptoSaid : Prop := fnExactSlashUptoRow.holds Try.pinned (OpenSpec.upto fnExactSlashSpec)

/-- 'laws.FnExactPoolPick', WHERE WHAT IT READS IS OF BULK AT MOST 1048576: true; the input reads as it did. -/
def fnExactPoolPickUptoRow : OpenClaim := { program := "ytfnjkoimejkhlaa", sum := "b12e7b7715788f0138d05cfdad3a1ce9473cdbd7a24e660f116befc89b8240a3", func := "loop.example/g00946/laws.FnExactPoolPick", spec := "fnExactPoolPick", apart := false, narrowed := true }
def FnExactPoolPickUptoSaid : Prop := fnExactPoolPickUptoRow.holds Try.pinned (OpenSpec.upto fnExactPoolPickSpec)

/-- 'laws.FnExactEraAt', WHERE WHAT IT READS IS OF BULK AT MOST 1048576: true; the input reads as it did. -/
def fnExactEraAtUptoRow : OpenClaim := { program := "ytfnjkoimejkhlaa", sum := "b12e7b7715788f0138d05cfdad3a1ce9473cdbd7a24e660f116befc89b8240a3", func := "loop.example/g00946/laws.FnExactEraAt", spec := "fnExactEraAt", apart := false, narrowed := true }
def FnExactEraAtUptoSaid : Prop := fnExactEraAtUptoRow.holds Try.pinned (OpenSpec.upto fnExactEraAtSpec)

/-- 'laws.FnExactEraAdd', WHERE WHAT IT READS IS OF BULK AT MOST 1048576: true; the input reads as it did. -/
def fnExactEraAddUptoRow : OpenClaim := { program := "ytfnjkoimejkhlaa", sum := "b12e7b7715788f0138d05cfdad3a1ce9473cdbd7a24e660f116befc89b8240a3", func := "loop.example/g00946/laws.FnExactEraAdd", spec := "fnExactEraAdd", apart := false, narrowed := true }
def FnExactEraAddUptoSaid : Prop := fnExactEraAddUptoRow.holds Try.pinned (OpenSpec.upto fnExactEraAddSpec)

/-- 'laws.FnExactEraCut', WHERE WHAT IT READS IS OF BULK AT MOST 1048576: true; the input reads as it did. -/
def fnExactEraCutUptoRow : OpenClaim := { program := "ytfnjkoimejkhlaa", sum := "b12e7b7715788f0138d05cfdad3a1ce9473cdbd7a24e660f116befc89b8240a3", func := "loop.example/g00946/laws.FnExactEraCut", spec := "fnExactEraCut", apart := false, narrowed := true }
def FnExactEraCutUptoSaid : Prop := fnExactEraCutUptoRow.holds Try.pinned (OpenSpec.upto fnExactEraCutSpec)

/-- 'laws.FnEras', WHERE WHAT IT READS IS OF BULK AT MOST 1048576: true; the input reads as it did. -/
def fnErasUptoRow : OpenClaim := { program := "ytfnjkoimejkhlaa", sum := "b12e7b7715788f0138d05cfdad3a1ce9473cdbd7a24e660f116befc89b8240a3", func := "loop.example/g00946/laws.FnEras", spec := "fnEras", apart := false, narrowed := true }
def FnErasUptoSaid : Prop := fnErasUptoRow.holds Try.pinned (OpenSpec.upto fnErasSpec)

end Rows
end Go.Proofs.Ytfnjkoimejkhlaa
