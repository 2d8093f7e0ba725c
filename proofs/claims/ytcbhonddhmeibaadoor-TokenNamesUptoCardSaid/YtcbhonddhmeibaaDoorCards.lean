/-
  DERIVED. GIVEN WITH THE SEED: THE CARDS: each row of YtcbhonddhmeibaaDoorRows.lean that lists a variable, with what it lists TIED to the program's text (the seventh form; the later family's looks); each row that meets fmt, with fmt's text TOLD by the authors' own Lean function (tested against real Go, not proved from fmt's source: count such statements apart). THE CARD IS WHAT COUNTS. Prove the row's statement (the work); the ties are given (YtcbhonddhmeibaaDoorTie.lean); close each card by the builder's one call (the guide's Derived/Test/ToyasCard.lean, 'card_holds'). Laid BY PROGRAM, IN A SANDBOX (cutbox-door.mjs). By AI agents, Wed Nov 11 2026. No macro, syntax, notation, axiom, sorry.
-/
import Derived.Test.YtcbhonddhmeibaaDoorRows
import GoSem.ClaimSeven
namespace Go.Proofs.YtcbhonddhmeibaaDoor
namespace Rows

/-- THE TIED CARD OF 'clerestorylaw1.TokenNames'. -/
def tokenNamesCard : Claim7 := { stood := { row := tokenNamesRow, standIns := [], harness := (true, "a40328eaca5b1f8113bde482679d91c7b683ad59cb292706552f82360bb5c4dc"), looks := false }, kinds := [], alts := [], laidByText := true, laidKinds := [.data, .data, .data, .pinned, .pinned], laidTests := true, laidLooks := .later }
def TokenNamesCardSaid : Prop := Claim7.holds Tryd.pinned (.plain (OpenSpec.ofChange tokenNamesSpec)) tokenNamesCard

/-- THE TIED CARD OF 'clerestorylaw1.SerialReads'. -/
def serialReadsCard : Claim7 := { stood := { row := serialReadsRow, standIns := [], harness := (true, "a40328eaca5b1f8113bde482679d91c7b683ad59cb292706552f82360bb5c4dc"), looks := false }, kinds := [], alts := [], laidByText := true, laidKinds := [.data, .pinned], laidTests := true, laidLooks := .later }
def SerialReadsCardSaid : Prop := Claim7.holds Tryd.pinned (.plain (OpenSpec.ofChange serialReadsSpec)) serialReadsCard

/-- THE SECOND FORM's CARD OF 'clerestorylaw1.TokenNames'. -/
def tokenNamesUptoCard : Claim7 := { stood := { row := tokenNamesUptoRow, standIns := [], harness := (true, "a40328eaca5b1f8113bde482679d91c7b683ad59cb292706552f82360bb5c4dc"), looks := false }, kinds := [], alts := [], laidByText := true, laidKinds := [.data, .data, .data, .pinned, .pinned], laidTests := true, laidLooks := .later }
def TokenNamesUptoCardSaid : Prop := Claim7.holds Tryd.pinned (.plain (OpenSpec.upto tokenNamesSpec)) tokenNamesUptoCard

/-- THE SECOND FORM's CARD OF 'clerestorylaw1.SerialReads'. -/
def serialReadsUptoCard : Claim7 := { stood := { row := serialReadsUptoRow, standIns := [], harness := (true, "a40328eaca5b1f8113bde482679d91c7b683ad59cb292706552f82360bb5c4dc"), looks := false }, kinds := [], alts := [], laidByText := true, laidKinds := [.data, .pinned], laidTests := true, laidLooks := .later }
def SerialReadsUptoCardSaid : Prop := Claim7.holds Tryd.pinned (.plain (OpenSpec.upto serialReadsSpec)) serialReadsUptoCard
end Rows
end Go.Proofs.YtcbhonddhmeibaaDoor
