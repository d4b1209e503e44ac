/-
  DERIVED. GIVEN WITH THE SEED: THE CARDS: each row of YtfgkfcfplodaoaaGreatDoorRows.lean that lists a variable, with what it lists TIED to the program's text (the seventh form; the later family's looks); each row that meets fmt, with fmt's text TOLD by the authors' own Lean function (tested against real Go, not proved from fmt's source: count such statements apart). THE CARD IS WHAT COUNTS. Prove the row's statement (the work); the ties are given (YtfgkfcfplodaoaaGreatDoorTie.lean); close each card by the builder's one call (the guide's Derived/Test/ToyasCard.lean, 'card_holds'). Laid BY PROGRAM, IN A SANDBOX (cutbox-door.mjs). By AI agents, Wed Nov 11 2026. No macro, syntax, notation, axiom, sorry.
-/
import Derived.Test.YtfgkfcfplodaoaaGreatDoorRows
import GoSem.ClaimSeven
namespace Go.Proofs.YtfgkfcfplodaoaaGreatDoor
namespace Rows

/-- THE TIED CARD OF 'laws.FnDeskWorks'. -/
def fnDeskWorksCard : Claim7 := { stood := { row := fnDeskWorksRow, standIns := [], harness := (true, "bbc0640c368d2ec74801a9f55690982ed04ad0ea8807cc6c32afa3782415c0f1"), looks := false }, kinds := [], alts := [], laidByText := true, laidKinds := [.data], laidTests := true, laidLooks := .later }
def FnDeskWorksCardSaid : Prop := Claim7.holds Tryz.pinned (.plain (OpenSpec.ofChange fnDeskWorksSpec)) fnDeskWorksCard

/-- THE TIED CARD OF 'laws.FnExactDesk'. -/
def fnExactDeskCard : Claim7 := { stood := { row := fnExactDeskRow, standIns := [], harness := (true, "bbc0640c368d2ec74801a9f55690982ed04ad0ea8807cc6c32afa3782415c0f1"), looks := false }, kinds := [], alts := [], laidByText := true, laidKinds := [.data], laidTests := true, laidLooks := .later }
def FnExactDeskCardSaid : Prop := Claim7.holds Tryz.pinned (.plain (OpenSpec.ofChange fnExactDeskSpec)) fnExactDeskCard

/-- THE TIED CARD OF 'laws.FnDesk'. -/
def fnDeskCard : Claim7 := { stood := { row := fnDeskRow, standIns := [], harness := (true, "bbc0640c368d2ec74801a9f55690982ed04ad0ea8807cc6c32afa3782415c0f1"), looks := false }, kinds := [], alts := [], laidByText := true, laidKinds := [.data], laidTests := true, laidLooks := .later }
def FnDeskCardSaid : Prop := Claim7.holds Tryz.pinned (.plain (OpenSpec.ofChange fnDeskSpec)) fnDeskCard

/-- THE TIED CARD OF 'laws.FnBisect'. -/
def fnBisectCard : Claim7 := { stood := { row := fnBisectRow, standIns := [], harness := (true, "bbc0640c368d2ec74801a9f55690982ed04ad0ea8807cc6c32afa3782415c0f1"), looks := false }, kinds := [], alts := [], laidByText := true, laidKinds := [.data], laidTests := true, laidLooks := .later }
def FnBisectCardSaid : Prop := Claim7.holds Tryz.pinned (.plain (OpenSpec.ofChange fnBisectSpec)) fnBisectCard

/-- THE TIED CARD OF 'laws.FnExactBisect'. -/
def fnExactBisectCard : Claim7 := { stood := { row := fnExactBisectRow, standIns := [], harness := (true, "bbc0640c368d2ec74801a9f55690982ed04ad0ea8807cc6c32afa3782415c0f1"), looks := false }, kinds := [], alts := [], laidByText := true, laidKinds := [.data], laidTests := true, laidLooks := .later }
def FnExactBisectCardSaid : Prop := Claim7.holds Tryz.pinned (.plain (OpenSpec.ofChange fnExactBisectSpec)) fnExactBisectCard

/-- THE SECOND FORM's CARD OF 'laws.FnDeskWorks'. -/
def fnDeskWorksUptoCard : Claim7 := { stood := { row := fnDeskWorksUptoRow, standIns := [], harness := (true, "bbc0640c368d2ec74801a9f55690982ed04ad0ea8807cc6c32afa3782415c0f1"), looks := false }, kinds := [], alts := [], laidByText := true, laidKinds := [.data], laidTests := true, laidLooks := .later }
def FnDeskWorksUptoCardSaid : Prop := Claim7.holds Tryz.pinned (.plain (OpenSpec.upto fnDeskWorksSpec)) fnDeskWorksUptoCard

/-- THE SECOND FORM's CARD OF 'laws.FnExactDesk'. -/
def fnExactDeskUptoCard : Claim7 := { stood := { row := fnExactDeskUptoRow, standIns := [], harness := (true, "bbc0640c368d2ec74801a9f55690982ed04ad0ea8807cc6c32afa3782415c0f1"), looks := false }, kinds := [], alts := [], laidByText := true, laidKinds := [.data], laidTests := true, laidLooks := .later }
def FnExactDeskUptoCardSaid : Prop := Claim7.holds Tryz.pinned (.plain (OpenSpec.upto fnExactDeskSpec)) fnExactDeskUptoCard

/-- THE SECOND FORM's CARD OF 'laws.FnDesk'. -/
def fnDeskUptoCard : Claim7 := { stood := { row := fnDeskUptoRow, standIns := [], harness := (true, "bbc0640c368d2ec74801a9f55690982ed04ad0ea8807cc6c32afa3782415c0f1"), looks := false }, kinds := [], alts := [], laidByText := true, laidKinds := [.data], laidTests := true, laidLooks := .later }
def FnDeskUptoCardSaid : Prop := Claim7.holds Tryz.pinned (.plain (OpenSpec.upto fnDeskSpec)) fnDeskUptoCard

/-- THE SECOND FORM's CARD OF 'laws.FnBisect'. -/
def fnBisectUptoCard : Claim7 := { stood := { row := fnBisectUptoRow, standIns := [], harness := (true, "bbc0640c368d2ec74801a9f55690982ed04ad0ea8807cc6c32afa3782415c0f1"), looks := false }, kinds := [], alts := [], laidByText := true, laidKinds := [.data], laidTests := true, laidLooks := .later }
def FnBisectUptoCardSaid : Prop := Claim7.holds Tryz.pinned (.plain (OpenSpec.upto fnBisectSpec)) fnBisectUptoCard

/-- THE SECOND FORM's CARD OF 'laws.FnExactBisect'. -/
def fnExactBisectUptoCard : Claim7 := { stood := { row := fnExactBisectUptoRow, standIns := [], harness := (true, "bbc0640c368d2ec74801a9f55690982ed04ad0ea8807cc6c32afa3782415c0f1"), looks := false }, kinds := [], alts := [], laidByText := true, laidKinds := [.data], laidTests := true, laidLooks := .later }
def FnExactBisectUptoCardSaid : Prop := Claim7.holds Tryz.pinned (.plain (OpenSpec.upto fnExactBisectSpec)) fnExactBisectUptoCard
end Rows
end Go.Proofs.YtfgkfcfplodaoaaGreatDoor
