/-
  DERIVED. GIVEN WITH THE SEED: THE CARDS: each row of YteaohgacgcjkjaaDoorRows.lean that lists a variable, with what it lists TIED to the program's text (the seventh form; the later family's looks); each row that meets fmt, with fmt's text TOLD by the authors' own Lean function (tested against real Go, not proved from fmt's source: count such statements apart). THE CARD IS WHAT COUNTS. Prove the row's statement (the work); the ties are given (YteaohgacgcjkjaaDoorTie.lean); close each card by the builder's one call (the guide's Derived/Test/ToyasCard.lean, 'card_holds'). Laid BY PROGRAM, IN A SANDBOX (cutbox-door.mjs). By AI agents, Wed Nov 11 2026. No macro, syntax, notation, axiom, sorry.
-/
import Derived.Test.YteaohgacgcjkjaaDoorRows
import GoSem.ClaimSeven
namespace Go.Proofs.YteaohgacgcjkjaaDoor
namespace Rows

/-- THE TIED CARD OF 'laws.FnGrown'. -/
def fnGrownCard : Claim7 := { stood := { row := fnGrownRow, standIns := [], harness := (true, "3dc0e989ff962f6a8bcad65435435ada6e77d8e939c7017878bd646b371481d4"), looks := false }, kinds := [], alts := [], laidByText := true, laidKinds := [.data], laidTests := true, laidLooks := .later }
def FnGrownCardSaid : Prop := Claim7.holds Tryd.pinned (.plain (OpenSpec.ofChange fnGrownSpec)) fnGrownCard

/-- THE TIED CARD OF 'laws.FnSnap'. -/
def fnSnapCard : Claim7 := { stood := { row := fnSnapRow, standIns := [], harness := (true, "3dc0e989ff962f6a8bcad65435435ada6e77d8e939c7017878bd646b371481d4"), looks := false }, kinds := [], alts := [], laidByText := true, laidKinds := [.data], laidTests := true, laidLooks := .later }
def FnSnapCardSaid : Prop := Claim7.holds Tryd.pinned (.plain (OpenSpec.ofChange fnSnapSpec)) fnSnapCard

/-- THE SECOND FORM's CARD OF 'laws.FnGrown'. -/
def fnGrownUptoCard : Claim7 := { stood := { row := fnGrownUptoRow, standIns := [], harness := (true, "3dc0e989ff962f6a8bcad65435435ada6e77d8e939c7017878bd646b371481d4"), looks := false }, kinds := [], alts := [], laidByText := true, laidKinds := [.data], laidTests := true, laidLooks := .later }
def FnGrownUptoCardSaid : Prop := Claim7.holds Tryd.pinned (.plain (OpenSpec.upto fnGrownSpec)) fnGrownUptoCard

/-- THE SECOND FORM's CARD OF 'laws.FnSnap'. -/
def fnSnapUptoCard : Claim7 := { stood := { row := fnSnapUptoRow, standIns := [], harness := (true, "3dc0e989ff962f6a8bcad65435435ada6e77d8e939c7017878bd646b371481d4"), looks := false }, kinds := [], alts := [], laidByText := true, laidKinds := [.data], laidTests := true, laidLooks := .later }
def FnSnapUptoCardSaid : Prop := Claim7.holds Tryd.pinned (.plain (OpenSpec.upto fnSnapSpec)) fnSnapUptoCard
end Rows
end Go.Proofs.YteaohgacgcjkjaaDoor
