/-
  DERIVED. GIVEN WITH THE SEED: THE CARDS: each row of YtbieeakcnechoaaGreatDoorRows.lean that lists a variable, with what it lists TIED to the program's text (the seventh form; the later family's looks); each row that meets fmt, with fmt's text TOLD by the authors' own Lean function (tested against real Go, not proved from fmt's source: count such statements apart). THE CARD IS WHAT COUNTS. Prove the row's statement (the work); the ties are given (YtbieeakcnechoaaGreatDoorTie.lean); close each card by the builder's one call (the guide's Derived/Test/ToyasCard.lean, 'card_holds'). Laid BY PROGRAM, IN A SANDBOX (cutbox-door.mjs). By AI agents, Wed Nov 11 2026. No macro, syntax, notation, axiom, sorry.
-/
import Derived.Test.YtbieeakcnechoaaGreatDoorRows
import GoSem.ClaimSeven
namespace Go.Proofs.YtbieeakcnechoaaGreatDoor
namespace Rows

/-- THE TIED CARD OF 'clerestorytop.TopCopy'. -/
def topCopyCard : Claim7 := { stood := { row := topCopyRow, standIns := [], harness := (true, "a194c6cbd5c6c0d8174a2a0128103fa5ffb8e16a299db98e70fe4b86859a1a7e"), looks := false }, kinds := [], alts := [], laidByText := true, laidKinds := [.data, .data, .data, .pinned, .pinned], laidTests := true, laidLooks := .later }
def TopCopyCardSaid : Prop := Claim7.holds Tryz.pinned (.plain (OpenSpec.ofChange topCopySpec)) topCopyCard

/-- THE SECOND FORM's CARD OF 'clerestorytop.TopCopy'. -/
def topCopyUptoCard : Claim7 := { stood := { row := topCopyUptoRow, standIns := [], harness := (true, "a194c6cbd5c6c0d8174a2a0128103fa5ffb8e16a299db98e70fe4b86859a1a7e"), looks := false }, kinds := [], alts := [], laidByText := true, laidKinds := [.data, .data, .data, .pinned, .pinned], laidTests := true, laidLooks := .later }
def TopCopyUptoCardSaid : Prop := Claim7.holds Tryz.pinned (.plain (OpenSpec.upto topCopySpec)) topCopyUptoCard
end Rows
end Go.Proofs.YtbieeakcnechoaaGreatDoor
