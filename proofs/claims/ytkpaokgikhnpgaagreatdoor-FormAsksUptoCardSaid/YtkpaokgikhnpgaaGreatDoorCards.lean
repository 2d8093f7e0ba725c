/-
  DERIVED. GIVEN WITH THE SEED: THE CARDS: each row of YtkpaokgikhnpgaaGreatDoorRows.lean that lists a variable, with what it lists TIED to the program's text (the seventh form; the later family's looks); each row that meets fmt, with fmt's text TOLD by the authors' own Lean function (tested against real Go, not proved from fmt's source: count such statements apart). THE CARD IS WHAT COUNTS. Prove the row's statement (the work); the ties are given (YtkpaokgikhnpgaaGreatDoorTie.lean); close each card by the builder's one call (the guide's Derived/Test/ToyasCard.lean, 'card_holds'). Laid BY PROGRAM, IN A SANDBOX (cutbox-door.mjs). By AI agents, Wed Nov 11 2026. No macro, syntax, notation, axiom, sorry.
-/
import Derived.Test.YtkpaokgikhnpgaaGreatDoorRows
import GoSem.ClaimSeven
namespace Go.Proofs.YtkpaokgikhnpgaaGreatDoor
namespace Rows

/-- THE TIED CARD OF 'clerestorylaw1.FormCodes'. -/
def formCodesCard : Claim7 := { stood := { row := formCodesRow, standIns := [], harness := (true, "38aa12b987411d00d97d32c3ea4fbdfab8cb9bb18c8b79def127d10d7a7a090e"), looks := false }, kinds := [], alts := [], laidByText := true, laidKinds := [.data, .pinned], laidTests := true, laidLooks := .later }
def FormCodesCardSaid : Prop := Claim7.holds Tryz.pinned (.plain (OpenSpec.ofChange formCodesSpec)) formCodesCard

/-- THE TIED CARD OF 'clerestorylaw1.FormTells'. -/
def formTellsCard : Claim7 := { stood := { row := formTellsRow, standIns := [], harness := (true, "38aa12b987411d00d97d32c3ea4fbdfab8cb9bb18c8b79def127d10d7a7a090e"), looks := false }, kinds := [], alts := [], laidByText := true, laidKinds := [.data, .pinned], laidTests := true, laidLooks := .later }
def FormTellsCardSaid : Prop := Claim7.holds Tryz.pinned (.plain (OpenSpec.ofChange formTellsSpec)) formTellsCard

/-- THE TIED CARD OF 'clerestorylaw1.FormAsks'. -/
def formAsksCard : Claim7 := { stood := { row := formAsksRow, standIns := [], harness := (true, "38aa12b987411d00d97d32c3ea4fbdfab8cb9bb18c8b79def127d10d7a7a090e"), looks := false }, kinds := [], alts := [], laidByText := true, laidKinds := [.data, .pinned], laidTests := true, laidLooks := .later }
def FormAsksCardSaid : Prop := Claim7.holds Tryz.pinned (.plain (OpenSpec.ofChange formAsksSpec)) formAsksCard

/-- THE SECOND FORM's CARD OF 'clerestorylaw1.FormCodes'. -/
def formCodesUptoCard : Claim7 := { stood := { row := formCodesUptoRow, standIns := [], harness := (true, "38aa12b987411d00d97d32c3ea4fbdfab8cb9bb18c8b79def127d10d7a7a090e"), looks := false }, kinds := [], alts := [], laidByText := true, laidKinds := [.data, .pinned], laidTests := true, laidLooks := .later }
def FormCodesUptoCardSaid : Prop := Claim7.holds Tryz.pinned (.plain (OpenSpec.upto formCodesSpec)) formCodesUptoCard

/-- THE SECOND FORM's CARD OF 'clerestorylaw1.FormTells'. -/
def formTellsUptoCard : Claim7 := { stood := { row := formTellsUptoRow, standIns := [], harness := (true, "38aa12b987411d00d97d32c3ea4fbdfab8cb9bb18c8b79def127d10d7a7a090e"), looks := false }, kinds := [], alts := [], laidByText := true, laidKinds := [.data, .pinned], laidTests := true, laidLooks := .later }
def FormTellsUptoCardSaid : Prop := Claim7.holds Tryz.pinned (.plain (OpenSpec.upto formTellsSpec)) formTellsUptoCard

/-- THE SECOND FORM's CARD OF 'clerestorylaw1.FormAsks'. -/
def formAsksUptoCard : Claim7 := { stood := { row := formAsksUptoRow, standIns := [], harness := (true, "38aa12b987411d00d97d32c3ea4fbdfab8cb9bb18c8b79def127d10d7a7a090e"), looks := false }, kinds := [], alts := [], laidByText := true, laidKinds := [.data, .pinned], laidTests := true, laidLooks := .later }
def FormAsksUptoCardSaid : Prop := Claim7.holds Tryz.pinned (.plain (OpenSpec.upto formAsksSpec)) formAsksUptoCard
end Rows
end Go.Proofs.YtkpaokgikhnpgaaGreatDoor
