/-
  DERIVED. GIVEN WITH THE SEED: THE CARDS: each row of YtbgdedopafgbeaaGreatDoorRows.lean that lists a variable, with what it lists TIED to the program's text (the seventh form; the later family's looks); each row that meets fmt, with fmt's text TOLD by the authors' own Lean function (tested against real Go, not proved from fmt's source: count such statements apart). THE CARD IS WHAT COUNTS. Prove the row's statement (the work); the ties are given (YtbgdedopafgbeaaGreatDoorTie.lean); close each card by the builder's one call (the guide's Derived/Test/ToyasCard.lean, 'card_holds'). Laid BY PROGRAM, IN A SANDBOX (cutbox-door.mjs). By AI agents, Wed Nov 11 2026. No macro, syntax, notation, axiom, sorry.
-/
import Derived.Test.YtbgdedopafgbeaaGreatDoorRows
import GoSem.ClaimSeven
namespace Go.Proofs.YtbgdedopafgbeaaGreatDoor
namespace Rows

/-- THE TIED CARD OF 'clerestorylaw1.TokenReads'. -/
def tokenReadsCard : Claim7 := { stood := { row := tokenReadsRow, standIns := [], harness := (true, "bd2e3f485808e72b1665417552f919ee839235e125cca1deb34e9046fe352d5b"), looks := false }, kinds := [], alts := [], laidByText := true, laidKinds := [.data, .data, .data, .pinned, .pinned], laidTests := true, laidLooks := .later }
def TokenReadsCardSaid : Prop := Claim7.holds Tryz.pinned (.plain (OpenSpec.ofChange tokenReadsSpec)) tokenReadsCard

/-- THE TIED CARD OF 'clerestorylaw1.TokenShows'. -/
def tokenShowsCard : Claim7 := { stood := { row := tokenShowsRow, standIns := [], harness := (true, "bd2e3f485808e72b1665417552f919ee839235e125cca1deb34e9046fe352d5b"), looks := false }, kinds := [], alts := [], laidByText := true, laidKinds := [.data, .data, .data, .pinned, .pinned], laidTests := true, laidLooks := .later }
def TokenShowsCardSaid : Prop := Claim7.holds Tryz.pinned (.plain (OpenSpec.ofChange tokenShowsSpec)) tokenShowsCard

/-- THE SECOND FORM's CARD OF 'clerestorylaw1.TokenReads'. -/
def tokenReadsUptoCard : Claim7 := { stood := { row := tokenReadsUptoRow, standIns := [], harness := (true, "bd2e3f485808e72b1665417552f919ee839235e125cca1deb34e9046fe352d5b"), looks := false }, kinds := [], alts := [], laidByText := true, laidKinds := [.data, .data, .data, .pinned, .pinned], laidTests := true, laidLooks := .later }
def TokenReadsUptoCardSaid : Prop := Claim7.holds Tryz.pinned (.plain (OpenSpec.upto tokenReadsSpec)) tokenReadsUptoCard

/-- THE SECOND FORM's CARD OF 'clerestorylaw1.TokenShows'. -/
def tokenShowsUptoCard : Claim7 := { stood := { row := tokenShowsUptoRow, standIns := [], harness := (true, "bd2e3f485808e72b1665417552f919ee839235e125cca1deb34e9046fe352d5b"), looks := false }, kinds := [], alts := [], laidByText := true, laidKinds := [.data, .data, .data, .pinned, .pinned], laidTests := true, laidLooks := .later }
def TokenShowsUptoCardSaid : Prop := Claim7.holds Tryz.pinned (.plain (OpenSpec.upto tokenShowsSpec)) tokenShowsUptoCard
end Rows
end Go.Proofs.YtbgdedopafgbeaaGreatDoor
