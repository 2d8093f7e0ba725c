/-
  DERIVED. GIVEN WITH THE SEED: THE CARDS: each row of YtcfjnldjkaglbaaGreatDoorRows.lean that lists a variable, with what it lists TIED to the program's text (the seventh form; the later family's looks); each row that meets fmt, with fmt's text TOLD by the authors' own Lean function (tested against real Go, not proved from fmt's source: count such statements apart). THE CARD IS WHAT COUNTS. Prove the row's statement (the work); the ties are given (YtcfjnldjkaglbaaGreatDoorTie.lean); close each card by the builder's one call (the guide's Derived/Test/ToyasCard.lean, 'card_holds'). Laid BY PROGRAM, IN A SANDBOX (cutbox-door.mjs). By AI agents, Wed Nov 11 2026. No macro, syntax, notation, axiom, sorry.
-/
import Derived.Test.YtcfjnldjkaglbaaGreatDoorRows
import GoSem.ClaimSeven
namespace Go.Proofs.YtcfjnldjkaglbaaGreatDoor
namespace Rows

/-- THE TIED CARD OF 'clerestorylaw1.IndexTurns'. -/
def indexTurnsCard : Claim7 := { stood := { row := indexTurnsRow, standIns := [], harness := (true, "0629d4f43d3ad5e874393f04e649f2ccb03fb981983fbe2be46ce065b3351a41"), looks := false }, kinds := [], alts := [], laidByText := true, laidKinds := [.data, .pinned], laidTests := true, laidLooks := .later }
def IndexTurnsCardSaid : Prop := Claim7.holds Tryz.pinned (.plain (OpenSpec.ofChange indexTurnsSpec)) indexTurnsCard

/-- THE SECOND FORM's CARD OF 'clerestorylaw1.IndexTurns'. -/
def indexTurnsUptoCard : Claim7 := { stood := { row := indexTurnsUptoRow, standIns := [], harness := (true, "0629d4f43d3ad5e874393f04e649f2ccb03fb981983fbe2be46ce065b3351a41"), looks := false }, kinds := [], alts := [], laidByText := true, laidKinds := [.data, .pinned], laidTests := true, laidLooks := .later }
def IndexTurnsUptoCardSaid : Prop := Claim7.holds Tryz.pinned (.plain (OpenSpec.upto indexTurnsSpec)) indexTurnsUptoCard
end Rows
end Go.Proofs.YtcfjnldjkaglbaaGreatDoor
