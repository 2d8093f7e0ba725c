/-
  DERIVED. GIVEN WITH THE SEED: THE CARDS: each row of YtcbhonddhmeibaaGreatDoorRows.lean that lists a variable, with what it lists TIED to the program's text (the seventh form; the later family's looks); each row that meets fmt, with fmt's text TOLD by the authors' own Lean function (tested against real Go, not proved from fmt's source: count such statements apart). THE CARD IS WHAT COUNTS. Prove the row's statement (the work); the ties are given (YtcbhonddhmeibaaGreatDoorTie.lean); close each card by the builder's one call (the guide's Derived/Test/ToyasCard.lean, 'card_holds'). Laid BY PROGRAM, IN A SANDBOX (cutbox-door.mjs). By AI agents, Wed Nov 11 2026. No macro, syntax, notation, axiom, sorry.
-/
import Derived.Test.YtcbhonddhmeibaaGreatDoorRows
import GoSem.ClaimSeven
namespace Go.Proofs.YtcbhonddhmeibaaGreatDoor
namespace Rows

/-- THE TIED CARD OF 'clerestorylaw1.TokenReads'. -/
def tokenReadsCard : Claim7 := { stood := { row := tokenReadsRow, standIns := [], harness := (true, "f30d22c468eb1a729a79ecdae515bf23cad51a3c222b6c5d9728947ad63e383d"), looks := false }, kinds := [], alts := [], laidByText := true, laidKinds := [.data, .data, .data, .pinned, .pinned], laidTests := true, laidLooks := .later }
def TokenReadsCardSaid : Prop := Claim7.holds Tryz.pinned (.plain (OpenSpec.ofChange tokenReadsSpec)) tokenReadsCard

/-- THE TIED CARD OF 'clerestorylaw1.TokenShows'. -/
def tokenShowsCard : Claim7 := { stood := { row := tokenShowsRow, standIns := [], harness := (true, "f30d22c468eb1a729a79ecdae515bf23cad51a3c222b6c5d9728947ad63e383d"), looks := false }, kinds := [], alts := [], laidByText := true, laidKinds := [.data, .data, .data, .pinned, .pinned], laidTests := true, laidLooks := .later }
def TokenShowsCardSaid : Prop := Claim7.holds Tryz.pinned (.plain (OpenSpec.ofChange tokenShowsSpec)) tokenShowsCard

/-- THE TIED CARD OF 'clerestorylaw1.SerialWrites'. -/
def serialWritesCard : Claim7 := { stood := { row := serialWritesRow, standIns := [], harness := (true, "f30d22c468eb1a729a79ecdae515bf23cad51a3c222b6c5d9728947ad63e383d"), looks := false }, kinds := [], alts := [], laidByText := true, laidKinds := [.data, .pinned], laidTests := true, laidLooks := .later }
def SerialWritesCardSaid : Prop := Claim7.holds Tryz.pinned (.plain (OpenSpec.ofChange serialWritesSpec)) serialWritesCard

/-- THE TIED CARD OF 'clerestorylaw1.FormTells'. -/
def formTellsCard : Claim7 := { stood := { row := formTellsRow, standIns := [], harness := (true, "f30d22c468eb1a729a79ecdae515bf23cad51a3c222b6c5d9728947ad63e383d"), looks := false }, kinds := [], alts := [], laidByText := true, laidKinds := [.data, .pinned], laidTests := true, laidLooks := .later }
def FormTellsCardSaid : Prop := Claim7.holds Tryz.pinned (.plain (OpenSpec.ofChange formTellsSpec)) formTellsCard

/-- THE TIED CARD OF 'clerestorylaw1.FormCodes'. -/
def formCodesCard : Claim7 := { stood := { row := formCodesRow, standIns := [], harness := (true, "f30d22c468eb1a729a79ecdae515bf23cad51a3c222b6c5d9728947ad63e383d"), looks := false }, kinds := [], alts := [], laidByText := true, laidKinds := [.data, .pinned], laidTests := true, laidLooks := .later }
def FormCodesCardSaid : Prop := Claim7.holds Tryz.pinned (.plain (OpenSpec.ofChange formCodesSpec)) formCodesCard

/-- THE TIED CARD OF 'clerestorylaw1.FormAsks'. -/
def formAsksCard : Claim7 := { stood := { row := formAsksRow, standIns := [], harness := (true, "f30d22c468eb1a729a79ecdae515bf23cad51a3c222b6c5d9728947ad63e383d"), looks := false }, kinds := [], alts := [], laidByText := true, laidKinds := [.data, .pinned], laidTests := true, laidLooks := .later }
def FormAsksCardSaid : Prop := Claim7.holds Tryz.pinned (.plain (OpenSpec.ofChange formAsksSpec)) formAsksCard

/-- THE SECOND FORM's CARD OF 'clerestorylaw1.TokenReads'. -/
def tokenReadsUptoCard : Claim7 := { stood := { row := tokenReadsUptoRow, standIns := [], harness := (true, "f30d22c468eb1a729a79ecdae515bf23cad51a3c222b6c5d9728947ad63e383d"), looks := false }, kinds := [], alts := [], laidByText := true, laidKinds := [.data, .data, .data, .pinned, .pinned], laidTests := true, laidLooks := .later }
def TokenReadsUptoCardSaid : Prop := Claim7.holds Tryz.pinned (.plain (OpenSpec.upto tokenReadsSpec)) tokenReadsUptoCard

/-- THE SECOND FORM's CARD OF 'clerestorylaw1.TokenShows'. -/
def tokenShowsUptoCard : Claim7 := { stood := { row := tokenShowsUptoRow, standIns := [], harness := (true, "f30d22c468eb1a729a79ecdae515bf23cad51a3c222b6c5d9728947ad63e383d"), looks := false }, kinds := [], alts := [], laidByText := true, laidKinds := [.data, .data, .data, .pinned, .pinned], laidTests := true, laidLooks := .later }
def TokenShowsUptoCardSaid : Prop := Claim7.holds Tryz.pinned (.plain (OpenSpec.upto tokenShowsSpec)) tokenShowsUptoCard

/-- THE SECOND FORM's CARD OF 'clerestorylaw1.SerialWrites'. -/
def serialWritesUptoCard : Claim7 := { stood := { row := serialWritesUptoRow, standIns := [], harness := (true, "f30d22c468eb1a729a79ecdae515bf23cad51a3c222b6c5d9728947ad63e383d"), looks := false }, kinds := [], alts := [], laidByText := true, laidKinds := [.data, .pinned], laidTests := true, laidLooks := .later }
def SerialWritesUptoCardSaid : Prop := Claim7.holds Tryz.pinned (.plain (OpenSpec.upto serialWritesSpec)) serialWritesUptoCard

/-- THE SECOND FORM's CARD OF 'clerestorylaw1.FormTells'. -/
def formTellsUptoCard : Claim7 := { stood := { row := formTellsUptoRow, standIns := [], harness := (true, "f30d22c468eb1a729a79ecdae515bf23cad51a3c222b6c5d9728947ad63e383d"), looks := false }, kinds := [], alts := [], laidByText := true, laidKinds := [.data, .pinned], laidTests := true, laidLooks := .later }
def FormTellsUptoCardSaid : Prop := Claim7.holds Tryz.pinned (.plain (OpenSpec.upto formTellsSpec)) formTellsUptoCard

/-- THE SECOND FORM's CARD OF 'clerestorylaw1.FormCodes'. -/
def formCodesUptoCard : Claim7 := { stood := { row := formCodesUptoRow, standIns := [], harness := (true, "f30d22c468eb1a729a79ecdae515bf23cad51a3c222b6c5d9728947ad63e383d"), looks := false }, kinds := [], alts := [], laidByText := true, laidKinds := [.data, .pinned], laidTests := true, laidLooks := .later }
def FormCodesUptoCardSaid : Prop := Claim7.holds Tryz.pinned (.plain (OpenSpec.upto formCodesSpec)) formCodesUptoCard

/-- THE SECOND FORM's CARD OF 'clerestorylaw1.FormAsks'. -/
def formAsksUptoCard : Claim7 := { stood := { row := formAsksUptoRow, standIns := [], harness := (true, "f30d22c468eb1a729a79ecdae515bf23cad51a3c222b6c5d9728947ad63e383d"), looks := false }, kinds := [], alts := [], laidByText := true, laidKinds := [.data, .pinned], laidTests := true, laidLooks := .later }
def FormAsksUptoCardSaid : Prop := Claim7.holds Tryz.pinned (.plain (OpenSpec.upto formAsksSpec)) formAsksUptoCard
end Rows
end Go.Proofs.YtcbhonddhmeibaaGreatDoor
