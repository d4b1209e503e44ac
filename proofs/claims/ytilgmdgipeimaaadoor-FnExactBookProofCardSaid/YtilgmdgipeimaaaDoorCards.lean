/-
  DERIVED. GIVEN WITH THE SEED: THE CARDS: each row of YtilgmdgipeimaaaDoorRows.lean that lists a variable, with what it lists TIED to the program's text (the seventh form; the later family's looks); each row that meets fmt, with fmt's text TOLD by the authors' own Lean function (tested against real Go, not proved from fmt's source: count such statements apart). THE CARD IS WHAT COUNTS. Prove the row's statement (the work); the ties are given (YtilgmdgipeimaaaDoorTie.lean); close each card by the builder's one call (the guide's Derived/Test/ToyasCard.lean, 'card_holds'). Laid BY PROGRAM, IN A SANDBOX (cutbox-door.mjs). By AI agents, Wed Nov 11 2026. No macro, syntax, notation, axiom, sorry.
-/
import Derived.Test.YtilgmdgipeimaaaDoorRows
import GoSem.ClaimSeven
namespace Go.Proofs.YtilgmdgipeimaaaDoor
namespace Rows

/-- THE TIED CARD OF 'laws.FnExactOldRoots'. -/
def fnExactOldRootsCard : Claim7 := { stood := { row := fnExactOldRootsRow, standIns := [], harness := (true, "941e1db741b46e2bb057b10968c4dbe18d2dbb6860cfd14855932dacfd3eb7ec"), looks := false }, kinds := [], alts := [], laidByText := true, laidKinds := [.data], laidTests := true, laidLooks := .later }
def FnExactOldRootsCardSaid : Prop := Claim7.holds Tryd.pinned (.plain (OpenSpec.ofChange fnExactOldRootsSpec)) fnExactOldRootsCard

/-- THE TIED CARD OF 'laws.FnExactGrown'. -/
def fnExactGrownCard : Claim7 := { stood := { row := fnExactGrownRow, standIns := [], harness := (true, "941e1db741b46e2bb057b10968c4dbe18d2dbb6860cfd14855932dacfd3eb7ec"), looks := false }, kinds := [], alts := [], laidByText := true, laidKinds := [.data], laidTests := true, laidLooks := .later }
def FnExactGrownCardSaid : Prop := Claim7.holds Tryd.pinned (.plain (OpenSpec.ofChange fnExactGrownSpec)) fnExactGrownCard

/-- THE TIED CARD OF 'laws.FnExactOldPath'. -/
def fnExactOldPathCard : Claim7 := { stood := { row := fnExactOldPathRow, standIns := [], harness := (true, "941e1db741b46e2bb057b10968c4dbe18d2dbb6860cfd14855932dacfd3eb7ec"), looks := false }, kinds := [], alts := [], laidByText := true, laidKinds := [.data], laidTests := true, laidLooks := .later }
def FnExactOldPathCardSaid : Prop := Claim7.holds Tryd.pinned (.plain (OpenSpec.ofChange fnExactOldPathSpec)) fnExactOldPathCard

/-- THE TIED CARD OF 'laws.FnExactBookHash'. -/
def fnExactBookHashCard : Claim7 := { stood := { row := fnExactBookHashRow, standIns := [], harness := (true, "941e1db741b46e2bb057b10968c4dbe18d2dbb6860cfd14855932dacfd3eb7ec"), looks := false }, kinds := [], alts := [], laidByText := true, laidKinds := [.data], laidTests := true, laidLooks := .later }
def FnExactBookHashCardSaid : Prop := Claim7.holds Tryd.pinned (.plain (OpenSpec.ofChange fnExactBookHashSpec)) fnExactBookHashCard

/-- THE TIED CARD OF 'laws.FnGrown'. -/
def fnGrownCard : Claim7 := { stood := { row := fnGrownRow, standIns := [], harness := (true, "941e1db741b46e2bb057b10968c4dbe18d2dbb6860cfd14855932dacfd3eb7ec"), looks := false }, kinds := [], alts := [], laidByText := true, laidKinds := [.data], laidTests := true, laidLooks := .later }
def FnGrownCardSaid : Prop := Claim7.holds Tryd.pinned (.plain (OpenSpec.ofChange fnGrownSpec)) fnGrownCard

/-- THE TIED CARD OF 'laws.FnExactBookProof'. -/
def fnExactBookProofCard : Claim7 := { stood := { row := fnExactBookProofRow, standIns := [], harness := (true, "941e1db741b46e2bb057b10968c4dbe18d2dbb6860cfd14855932dacfd3eb7ec"), looks := false }, kinds := [], alts := [], laidByText := true, laidKinds := [.data], laidTests := true, laidLooks := .later }
def FnExactBookProofCardSaid : Prop := Claim7.holds Tryd.pinned (.plain (OpenSpec.ofChange fnExactBookProofSpec)) fnExactBookProofCard

/-- THE TIED CARD OF 'laws.FnExactSnapPut'. -/
def fnExactSnapPutCard : Claim7 := { stood := { row := fnExactSnapPutRow, standIns := [], harness := (true, "941e1db741b46e2bb057b10968c4dbe18d2dbb6860cfd14855932dacfd3eb7ec"), looks := false }, kinds := [], alts := [], laidByText := true, laidKinds := [.data], laidTests := true, laidLooks := .later }
def FnExactSnapPutCardSaid : Prop := Claim7.holds Tryd.pinned (.plain (OpenSpec.ofChange fnExactSnapPutSpec)) fnExactSnapPutCard

/-- THE TIED CARD OF 'laws.FnSnap'. -/
def fnSnapCard : Claim7 := { stood := { row := fnSnapRow, standIns := [], harness := (true, "941e1db741b46e2bb057b10968c4dbe18d2dbb6860cfd14855932dacfd3eb7ec"), looks := false }, kinds := [], alts := [], laidByText := true, laidKinds := [.data], laidTests := true, laidLooks := .later }
def FnSnapCardSaid : Prop := Claim7.holds Tryd.pinned (.plain (OpenSpec.ofChange fnSnapSpec)) fnSnapCard

/-- THE SECOND FORM's CARD OF 'laws.FnExactOldRoots'. -/
def fnExactOldRootsUptoCard : Claim7 := { stood := { row := fnExactOldRootsUptoRow, standIns := [], harness := (true, "941e1db741b46e2bb057b10968c4dbe18d2dbb6860cfd14855932dacfd3eb7ec"), looks := false }, kinds := [], alts := [], laidByText := true, laidKinds := [.data], laidTests := true, laidLooks := .later }
def FnExactOldRootsUptoCardSaid : Prop := Claim7.holds Tryd.pinned (.plain (OpenSpec.upto fnExactOldRootsSpec)) fnExactOldRootsUptoCard

/-- THE SECOND FORM's CARD OF 'laws.FnExactGrown'. -/
def fnExactGrownUptoCard : Claim7 := { stood := { row := fnExactGrownUptoRow, standIns := [], harness := (true, "941e1db741b46e2bb057b10968c4dbe18d2dbb6860cfd14855932dacfd3eb7ec"), looks := false }, kinds := [], alts := [], laidByText := true, laidKinds := [.data], laidTests := true, laidLooks := .later }
def FnExactGrownUptoCardSaid : Prop := Claim7.holds Tryd.pinned (.plain (OpenSpec.upto fnExactGrownSpec)) fnExactGrownUptoCard

/-- THE SECOND FORM's CARD OF 'laws.FnExactOldPath'. -/
def fnExactOldPathUptoCard : Claim7 := { stood := { row := fnExactOldPathUptoRow, standIns := [], harness := (true, "941e1db741b46e2bb057b10968c4dbe18d2dbb6860cfd14855932dacfd3eb7ec"), looks := false }, kinds := [], alts := [], laidByText := true, laidKinds := [.data], laidTests := true, laidLooks := .later }
def FnExactOldPathUptoCardSaid : Prop := Claim7.holds Tryd.pinned (.plain (OpenSpec.upto fnExactOldPathSpec)) fnExactOldPathUptoCard

/-- THE SECOND FORM's CARD OF 'laws.FnExactBookHash'. -/
def fnExactBookHashUptoCard : Claim7 := { stood := { row := fnExactBookHashUptoRow, standIns := [], harness := (true, "941e1db741b46e2bb057b10968c4dbe18d2dbb6860cfd14855932dacfd3eb7ec"), looks := false }, kinds := [], alts := [], laidByText := true, laidKinds := [.data], laidTests := true, laidLooks := .later }
def FnExactBookHashUptoCardSaid : Prop := Claim7.holds Tryd.pinned (.plain (OpenSpec.upto fnExactBookHashSpec)) fnExactBookHashUptoCard

/-- THE SECOND FORM's CARD OF 'laws.FnGrown'. -/
def fnGrownUptoCard : Claim7 := { stood := { row := fnGrownUptoRow, standIns := [], harness := (true, "941e1db741b46e2bb057b10968c4dbe18d2dbb6860cfd14855932dacfd3eb7ec"), looks := false }, kinds := [], alts := [], laidByText := true, laidKinds := [.data], laidTests := true, laidLooks := .later }
def FnGrownUptoCardSaid : Prop := Claim7.holds Tryd.pinned (.plain (OpenSpec.upto fnGrownSpec)) fnGrownUptoCard

/-- THE SECOND FORM's CARD OF 'laws.FnExactBookProof'. -/
def fnExactBookProofUptoCard : Claim7 := { stood := { row := fnExactBookProofUptoRow, standIns := [], harness := (true, "941e1db741b46e2bb057b10968c4dbe18d2dbb6860cfd14855932dacfd3eb7ec"), looks := false }, kinds := [], alts := [], laidByText := true, laidKinds := [.data], laidTests := true, laidLooks := .later }
def FnExactBookProofUptoCardSaid : Prop := Claim7.holds Tryd.pinned (.plain (OpenSpec.upto fnExactBookProofSpec)) fnExactBookProofUptoCard

/-- THE SECOND FORM's CARD OF 'laws.FnExactSnapPut'. -/
def fnExactSnapPutUptoCard : Claim7 := { stood := { row := fnExactSnapPutUptoRow, standIns := [], harness := (true, "941e1db741b46e2bb057b10968c4dbe18d2dbb6860cfd14855932dacfd3eb7ec"), looks := false }, kinds := [], alts := [], laidByText := true, laidKinds := [.data], laidTests := true, laidLooks := .later }
def FnExactSnapPutUptoCardSaid : Prop := Claim7.holds Tryd.pinned (.plain (OpenSpec.upto fnExactSnapPutSpec)) fnExactSnapPutUptoCard

/-- THE SECOND FORM's CARD OF 'laws.FnSnap'. -/
def fnSnapUptoCard : Claim7 := { stood := { row := fnSnapUptoRow, standIns := [], harness := (true, "941e1db741b46e2bb057b10968c4dbe18d2dbb6860cfd14855932dacfd3eb7ec"), looks := false }, kinds := [], alts := [], laidByText := true, laidKinds := [.data], laidTests := true, laidLooks := .later }
def FnSnapUptoCardSaid : Prop := Claim7.holds Tryd.pinned (.plain (OpenSpec.upto fnSnapSpec)) fnSnapUptoCard
end Rows
end Go.Proofs.YtilgmdgipeimaaaDoor
