/-
  DERIVED. GIVEN WITH THE SEED: THE CARDS: each row of YtbapgefodmmikaaGreatDoorRows.lean that lists a variable, with what it lists TIED to the program's text (the seventh form; the later family's looks); each row that meets fmt, with fmt's text TOLD by the authors' own Lean function (tested against real Go, not proved from fmt's source: count such statements apart). THE CARD IS WHAT COUNTS. Prove the row's statement (the work); the ties are given (YtbapgefodmmikaaGreatDoorTie.lean); close each card by the builder's one call (the guide's Derived/Test/ToyasCard.lean, 'card_holds'). Laid BY PROGRAM, IN A SANDBOX (cutbox-door.mjs). By AI agents, Wed Nov 11 2026. No macro, syntax, notation, axiom, sorry.
-/
import Derived.Test.YtbapgefodmmikaaGreatDoorRows
import GoSem.ClaimSeven
namespace Go.Proofs.YtbapgefodmmikaaGreatDoor
namespace Rows

/-- THE TIED CARD OF 'shearworkslaw15.OverseerPlays'. -/
def overseerPlaysCard : Claim7 := { stood := { row := overseerPlaysRow, standIns := [], harness := (true, "0c2597285c1caf28bf0c01c994265cfdb4333da2917eb009d68c610867dabc9a"), looks := true }, kinds := [], alts := [], laidByText := true, laidKinds := [.data, .data, .data, .data, .sentinel, .sentinel, .pinned], laidTests := true, laidLooks := .later }
def OverseerPlaysCardSaid : Prop := Claim7.holds Tryz.pinned (.plain (OpenSpec.ofChange overseerPlaysSpec)) overseerPlaysCard

/-- THE TIED CARD OF 'shearworkslaw15.OverseerNames'. -/
def overseerNamesCard : Claim7 := { stood := { row := overseerNamesRow, standIns := [], harness := (true, "0c2597285c1caf28bf0c01c994265cfdb4333da2917eb009d68c610867dabc9a"), looks := true }, kinds := [], alts := [], laidByText := true, laidKinds := [.data, .data, .data, .data, .sentinel, .sentinel, .pinned], laidTests := true, laidLooks := .later }
def OverseerNamesCardSaid : Prop := Claim7.holds Tryz.pinned (.plain (OpenSpec.ofChange overseerNamesSpec)) overseerNamesCard

/-- THE TIED CARD OF 'shearworkslaw15.OverseerNotes'. -/
def overseerNotesCard : Claim7 := { stood := { row := overseerNotesRow, standIns := [], harness := (true, "0c2597285c1caf28bf0c01c994265cfdb4333da2917eb009d68c610867dabc9a"), looks := true }, kinds := [], alts := [], laidByText := true, laidKinds := [.data, .data, .data, .data, .sentinel, .sentinel, .pinned], laidTests := true, laidLooks := .later }
def OverseerNotesCardSaid : Prop := Claim7.holds Tryz.pinned (.plain (OpenSpec.ofChange overseerNotesSpec)) overseerNotesCard

/-- THE TIED CARD OF 'shearworkslaw15.OverseerTells'. -/
def overseerTellsCard : Claim7 := { stood := { row := overseerTellsRow, standIns := [], harness := (true, "0c2597285c1caf28bf0c01c994265cfdb4333da2917eb009d68c610867dabc9a"), looks := true }, kinds := [], alts := [], laidByText := true, laidKinds := [.data, .data, .data, .data, .sentinel, .sentinel, .pinned], laidTests := true, laidLooks := .later }
def OverseerTellsCardSaid : Prop := Claim7.holds Tryz.pinned (.plain (OpenSpec.ofChange overseerTellsSpec)) overseerTellsCard

/-- THE TIED CARD OF 'shearworkslaw15.OverseerStruck'. -/
def overseerStruckCard : Claim7 := { stood := { row := overseerStruckRow, standIns := [], harness := (true, "0c2597285c1caf28bf0c01c994265cfdb4333da2917eb009d68c610867dabc9a"), looks := true }, kinds := [], alts := [], laidByText := true, laidKinds := [.data, .data, .data, .data, .sentinel, .sentinel, .pinned], laidTests := true, laidLooks := .later }
def OverseerStruckCardSaid : Prop := Claim7.holds Tryz.pinned (.plain (OpenSpec.ofChange overseerStruckSpec)) overseerStruckCard

/-- THE TIED CARD OF 'shearworkslaw15.OverseerNoted'. -/
def overseerNotedCard : Claim7 := { stood := { row := overseerNotedRow, standIns := [], harness := (true, "0c2597285c1caf28bf0c01c994265cfdb4333da2917eb009d68c610867dabc9a"), looks := true }, kinds := [], alts := [], laidByText := true, laidKinds := [.data, .data, .data, .data, .sentinel, .sentinel, .pinned], laidTests := true, laidLooks := .later }
def OverseerNotedCardSaid : Prop := Claim7.holds Tryz.pinned (.plain (OpenSpec.ofChange overseerNotedSpec)) overseerNotedCard

/-- THE TIED CARD OF 'shearworkslaw15.OverseerAgain'. -/
def overseerAgainCard : Claim7 := { stood := { row := overseerAgainRow, standIns := [], harness := (true, "0c2597285c1caf28bf0c01c994265cfdb4333da2917eb009d68c610867dabc9a"), looks := true }, kinds := [], alts := [], laidByText := true, laidKinds := [.data, .data, .data, .data, .sentinel, .sentinel, .pinned], laidTests := true, laidLooks := .later }
def OverseerAgainCardSaid : Prop := Claim7.holds Tryz.pinned (.plain (OpenSpec.ofChange overseerAgainSpec)) overseerAgainCard

/-- THE TIED CARD OF 'shearworkslaw15.OverseerForm'. -/
def overseerFormCard : Claim7 := { stood := { row := overseerFormRow, standIns := [], harness := (true, "0c2597285c1caf28bf0c01c994265cfdb4333da2917eb009d68c610867dabc9a"), looks := true }, kinds := [], alts := [], laidByText := true, laidKinds := [.data, .data, .data, .data, .sentinel, .sentinel, .pinned, .pinned], laidTests := true, laidLooks := .later }
def OverseerFormCardSaid : Prop := Claim7.holds Tryz.pinned (.plain (OpenSpec.ofChange overseerFormSpec)) overseerFormCard

/-- THE TIED CARD OF 'shearworkstop.TopDays'. -/
def topDaysCard : Claim7 := { stood := { row := topDaysRow, standIns := [], harness := (true, "0c2597285c1caf28bf0c01c994265cfdb4333da2917eb009d68c610867dabc9a"), looks := true }, kinds := [], alts := [], laidByText := true, laidKinds := [.data, .data, .data, .data, .sentinel, .sentinel, .pinned], laidTests := true, laidLooks := .later }
def TopDaysCardSaid : Prop := Claim7.holds Tryz.pinned (.plain (OpenSpec.ofChange topDaysSpec)) topDaysCard

/-- THE SECOND FORM's CARD OF 'shearworkslaw15.OverseerPlays'. -/
def overseerPlaysUptoCard : Claim7 := { stood := { row := overseerPlaysUptoRow, standIns := [], harness := (true, "0c2597285c1caf28bf0c01c994265cfdb4333da2917eb009d68c610867dabc9a"), looks := true }, kinds := [], alts := [], laidByText := true, laidKinds := [.data, .data, .data, .data, .sentinel, .sentinel, .pinned], laidTests := true, laidLooks := .later }
def OverseerPlaysUptoCardSaid : Prop := Claim7.holds Tryz.pinned (.plain (OpenSpec.upto overseerPlaysSpec)) overseerPlaysUptoCard

/-- THE SECOND FORM's CARD OF 'shearworkslaw15.OverseerNames'. -/
def overseerNamesUptoCard : Claim7 := { stood := { row := overseerNamesUptoRow, standIns := [], harness := (true, "0c2597285c1caf28bf0c01c994265cfdb4333da2917eb009d68c610867dabc9a"), looks := true }, kinds := [], alts := [], laidByText := true, laidKinds := [.data, .data, .data, .data, .sentinel, .sentinel, .pinned], laidTests := true, laidLooks := .later }
def OverseerNamesUptoCardSaid : Prop := Claim7.holds Tryz.pinned (.plain (OpenSpec.upto overseerNamesSpec)) overseerNamesUptoCard

/-- THE SECOND FORM's CARD OF 'shearworkslaw15.OverseerNotes'. -/
def overseerNotesUptoCard : Claim7 := { stood := { row := overseerNotesUptoRow, standIns := [], harness := (true, "0c2597285c1caf28bf0c01c994265cfdb4333da2917eb009d68c610867dabc9a"), looks := true }, kinds := [], alts := [], laidByText := true, laidKinds := [.data, .data, .data, .data, .sentinel, .sentinel, .pinned], laidTests := true, laidLooks := .later }
def OverseerNotesUptoCardSaid : Prop := Claim7.holds Tryz.pinned (.plain (OpenSpec.upto overseerNotesSpec)) overseerNotesUptoCard

/-- THE SECOND FORM's CARD OF 'shearworkslaw15.OverseerTells'. -/
def overseerTellsUptoCard : Claim7 := { stood := { row := overseerTellsUptoRow, standIns := [], harness := (true, "0c2597285c1caf28bf0c01c994265cfdb4333da2917eb009d68c610867dabc9a"), looks := true }, kinds := [], alts := [], laidByText := true, laidKinds := [.data, .data, .data, .data, .sentinel, .sentinel, .pinned], laidTests := true, laidLooks := .later }
def OverseerTellsUptoCardSaid : Prop := Claim7.holds Tryz.pinned (.plain (OpenSpec.upto overseerTellsSpec)) overseerTellsUptoCard

/-- THE SECOND FORM's CARD OF 'shearworkslaw15.OverseerStruck'. -/
def overseerStruckUptoCard : Claim7 := { stood := { row := overseerStruckUptoRow, standIns := [], harness := (true, "0c2597285c1caf28bf0c01c994265cfdb4333da2917eb009d68c610867dabc9a"), looks := true }, kinds := [], alts := [], laidByText := true, laidKinds := [.data, .data, .data, .data, .sentinel, .sentinel, .pinned], laidTests := true, laidLooks := .later }
def OverseerStruckUptoCardSaid : Prop := Claim7.holds Tryz.pinned (.plain (OpenSpec.upto overseerStruckSpec)) overseerStruckUptoCard

/-- THE SECOND FORM's CARD OF 'shearworkslaw15.OverseerNoted'. -/
def overseerNotedUptoCard : Claim7 := { stood := { row := overseerNotedUptoRow, standIns := [], harness := (true, "0c2597285c1caf28bf0c01c994265cfdb4333da2917eb009d68c610867dabc9a"), looks := true }, kinds := [], alts := [], laidByText := true, laidKinds := [.data, .data, .data, .data, .sentinel, .sentinel, .pinned], laidTests := true, laidLooks := .later }
def OverseerNotedUptoCardSaid : Prop := Claim7.holds Tryz.pinned (.plain (OpenSpec.upto overseerNotedSpec)) overseerNotedUptoCard

/-- THE SECOND FORM's CARD OF 'shearworkslaw15.OverseerAgain'. -/
def overseerAgainUptoCard : Claim7 := { stood := { row := overseerAgainUptoRow, standIns := [], harness := (true, "0c2597285c1caf28bf0c01c994265cfdb4333da2917eb009d68c610867dabc9a"), looks := true }, kinds := [], alts := [], laidByText := true, laidKinds := [.data, .data, .data, .data, .sentinel, .sentinel, .pinned], laidTests := true, laidLooks := .later }
def OverseerAgainUptoCardSaid : Prop := Claim7.holds Tryz.pinned (.plain (OpenSpec.upto overseerAgainSpec)) overseerAgainUptoCard

/-- THE SECOND FORM's CARD OF 'shearworkslaw15.OverseerForm'. -/
def overseerFormUptoCard : Claim7 := { stood := { row := overseerFormUptoRow, standIns := [], harness := (true, "0c2597285c1caf28bf0c01c994265cfdb4333da2917eb009d68c610867dabc9a"), looks := true }, kinds := [], alts := [], laidByText := true, laidKinds := [.data, .data, .data, .data, .sentinel, .sentinel, .pinned, .pinned], laidTests := true, laidLooks := .later }
def OverseerFormUptoCardSaid : Prop := Claim7.holds Tryz.pinned (.plain (OpenSpec.upto overseerFormSpec)) overseerFormUptoCard

/-- THE SECOND FORM's CARD OF 'shearworkstop.TopDays'. -/
def topDaysUptoCard : Claim7 := { stood := { row := topDaysUptoRow, standIns := [], harness := (true, "0c2597285c1caf28bf0c01c994265cfdb4333da2917eb009d68c610867dabc9a"), looks := true }, kinds := [], alts := [], laidByText := true, laidKinds := [.data, .data, .data, .data, .sentinel, .sentinel, .pinned], laidTests := true, laidLooks := .later }
def TopDaysUptoCardSaid : Prop := Claim7.holds Tryz.pinned (.plain (OpenSpec.upto topDaysSpec)) topDaysUptoCard
end Rows
end Go.Proofs.YtbapgefodmmikaaGreatDoor
