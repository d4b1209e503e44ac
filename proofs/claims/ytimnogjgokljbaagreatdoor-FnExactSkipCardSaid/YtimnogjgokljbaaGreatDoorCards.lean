/-
  DERIVED. GIVEN WITH THE SEED: THE CARDS: each row of YtimnogjgokljbaaGreatDoorRows.lean that lists a variable, with what it lists TIED to the program's text (the seventh form; the later family's looks); each row that meets fmt, with fmt's text TOLD by the authors' own Lean function (tested against real Go, not proved from fmt's source: count such statements apart). THE CARD IS WHAT COUNTS. Prove the row's statement (the work); the ties are given (YtimnogjgokljbaaGreatDoorTie.lean); close each card by the builder's one call (the guide's Derived/Test/ToyasCard.lean, 'card_holds'). Laid BY PROGRAM, IN A SANDBOX (cutbox-door.mjs). By AI agents, Wed Nov 11 2026. No macro, syntax, notation, axiom, sorry.
-/
import Derived.Test.YtimnogjgokljbaaGreatDoorRows
import GoSem.ClaimSeven
namespace Go.Proofs.YtimnogjgokljbaaGreatDoor
namespace Rows

/-- THE TIED CARD OF 'laws.FnExactSkip'. -/
def fnExactSkipCard : Claim7 := { stood := { row := fnExactSkipRow, standIns := [], harness := (true, "c866f2b8233b6208a20c5527f1f7819e1f8b97d8b6ab6f36e47da38a0aa3ba8e"), looks := false }, kinds := [], alts := [], laidByText := true, laidKinds := [.data], laidTests := true, laidLooks := .later }
def FnExactSkipCardSaid : Prop := Claim7.holds Tryz.pinned (.plain (OpenSpec.ofChange fnExactSkipSpec)) fnExactSkipCard

/-- THE TIED CARD OF 'laws.FnBisect'. -/
def fnBisectCard : Claim7 := { stood := { row := fnBisectRow, standIns := [], harness := (true, "c866f2b8233b6208a20c5527f1f7819e1f8b97d8b6ab6f36e47da38a0aa3ba8e"), looks := false }, kinds := [], alts := [], laidByText := true, laidKinds := [.data], laidTests := true, laidLooks := .later }
def FnBisectCardSaid : Prop := Claim7.holds Tryz.pinned (.plain (OpenSpec.ofChange fnBisectSpec)) fnBisectCard

/-- THE TIED CARD OF 'laws.FnExactBisect'. -/
def fnExactBisectCard : Claim7 := { stood := { row := fnExactBisectRow, standIns := [], harness := (true, "c866f2b8233b6208a20c5527f1f7819e1f8b97d8b6ab6f36e47da38a0aa3ba8e"), looks := false }, kinds := [], alts := [], laidByText := true, laidKinds := [.data], laidTests := true, laidLooks := .later }
def FnExactBisectCardSaid : Prop := Claim7.holds Tryz.pinned (.plain (OpenSpec.ofChange fnExactBisectSpec)) fnExactBisectCard

/-- THE SECOND FORM's CARD OF 'laws.FnExactSkip'. -/
def fnExactSkipUptoCard : Claim7 := { stood := { row := fnExactSkipUptoRow, standIns := [], harness := (true, "c866f2b8233b6208a20c5527f1f7819e1f8b97d8b6ab6f36e47da38a0aa3ba8e"), looks := false }, kinds := [], alts := [], laidByText := true, laidKinds := [.data], laidTests := true, laidLooks := .later }
def FnExactSkipUptoCardSaid : Prop := Claim7.holds Tryz.pinned (.plain (OpenSpec.upto fnExactSkipSpec)) fnExactSkipUptoCard

/-- THE SECOND FORM's CARD OF 'laws.FnBisect'. -/
def fnBisectUptoCard : Claim7 := { stood := { row := fnBisectUptoRow, standIns := [], harness := (true, "c866f2b8233b6208a20c5527f1f7819e1f8b97d8b6ab6f36e47da38a0aa3ba8e"), looks := false }, kinds := [], alts := [], laidByText := true, laidKinds := [.data], laidTests := true, laidLooks := .later }
def FnBisectUptoCardSaid : Prop := Claim7.holds Tryz.pinned (.plain (OpenSpec.upto fnBisectSpec)) fnBisectUptoCard

/-- THE SECOND FORM's CARD OF 'laws.FnExactBisect'. -/
def fnExactBisectUptoCard : Claim7 := { stood := { row := fnExactBisectUptoRow, standIns := [], harness := (true, "c866f2b8233b6208a20c5527f1f7819e1f8b97d8b6ab6f36e47da38a0aa3ba8e"), looks := false }, kinds := [], alts := [], laidByText := true, laidKinds := [.data], laidTests := true, laidLooks := .later }
def FnExactBisectUptoCardSaid : Prop := Claim7.holds Tryz.pinned (.plain (OpenSpec.upto fnExactBisectSpec)) fnExactBisectUptoCard
end Rows
end Go.Proofs.YtimnogjgokljbaaGreatDoor
