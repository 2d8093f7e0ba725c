/-
  DERIVED. GIVEN WITH THE SEED: THE CARDS: each row of YtoolkpnnllfhgaaDoorRows.lean that lists a variable, with what it lists TIED to the program's text (the seventh form; the later family's looks); each row that meets fmt, with fmt's text TOLD by the authors' own Lean function (tested against real Go, not proved from fmt's source: count such statements apart). THE CARD IS WHAT COUNTS. Prove the row's statement (the work); the ties are given (YtoolkpnnllfhgaaDoorTie.lean); close each card by the builder's one call (the guide's Derived/Test/ToyasCard.lean, 'card_holds'). Laid BY PROGRAM, IN A SANDBOX (cutbox-door.mjs). By AI agents, Wed Nov 11 2026. No macro, syntax, notation, axiom, sorry.
-/
import Derived.Test.YtoolkpnnllfhgaaDoorRows
import GoSem.ClaimSeven
namespace Go.Proofs.YtoolkpnnllfhgaaDoor
namespace Rows

/-- THE TIED CARD OF 'clerestorylaw1.WalkSelects'. -/
def walkSelectsCard : Claim7 := { stood := { row := walkSelectsRow, standIns := [], harness := (true, "65c2748b2d4ba461e28674f1af351833ab386901d0be9909fae54e72ff9d2ba0"), looks := false }, kinds := [], alts := [], laidByText := true, laidKinds := [.data, .pinned], laidTests := true, laidLooks := .later }
def WalkSelectsCardSaid : Prop := Claim7.holds Tryd.pinned (.plain (OpenSpec.ofChange walkSelectsSpec)) walkSelectsCard

/-- THE TIED CARD OF 'clerestorylaw1.IndexMakes'. -/
def indexMakesCard : Claim7 := { stood := { row := indexMakesRow, standIns := [], harness := (true, "65c2748b2d4ba461e28674f1af351833ab386901d0be9909fae54e72ff9d2ba0"), looks := false }, kinds := [], alts := [], laidByText := true, laidKinds := [.data, .pinned], laidTests := true, laidLooks := .later }
def IndexMakesCardSaid : Prop := Claim7.holds Tryd.pinned (.plain (OpenSpec.ofChange indexMakesSpec)) indexMakesCard

/-- THE TIED CARD OF 'clerestorylaw1.IndexAsks'. -/
def indexAsksCard : Claim7 := { stood := { row := indexAsksRow, standIns := [], harness := (true, "65c2748b2d4ba461e28674f1af351833ab386901d0be9909fae54e72ff9d2ba0"), looks := false }, kinds := [], alts := [], laidByText := true, laidKinds := [.data, .pinned], laidTests := true, laidLooks := .later }
def IndexAsksCardSaid : Prop := Claim7.holds Tryd.pinned (.plain (OpenSpec.ofChange indexAsksSpec)) indexAsksCard

/-- THE TIED CARD OF 'clerestorylaw1.DomCopies'. -/
def domCopiesCard : Claim7 := { stood := { row := domCopiesRow, standIns := [], harness := (true, "65c2748b2d4ba461e28674f1af351833ab386901d0be9909fae54e72ff9d2ba0"), looks := false }, kinds := [], alts := [], laidByText := true, laidKinds := [.data, .pinned], laidTests := true, laidLooks := .later }
def DomCopiesCardSaid : Prop := Claim7.holds Tryd.pinned (.plain (OpenSpec.ofChange domCopiesSpec)) domCopiesCard

/-- THE SECOND FORM's CARD OF 'clerestorylaw1.WalkSelects'. -/
def walkSelectsUptoCard : Claim7 := { stood := { row := walkSelectsUptoRow, standIns := [], harness := (true, "65c2748b2d4ba461e28674f1af351833ab386901d0be9909fae54e72ff9d2ba0"), looks := false }, kinds := [], alts := [], laidByText := true, laidKinds := [.data, .pinned], laidTests := true, laidLooks := .later }
def WalkSelectsUptoCardSaid : Prop := Claim7.holds Tryd.pinned (.plain (OpenSpec.upto walkSelectsSpec)) walkSelectsUptoCard

/-- THE SECOND FORM's CARD OF 'clerestorylaw1.IndexMakes'. -/
def indexMakesUptoCard : Claim7 := { stood := { row := indexMakesUptoRow, standIns := [], harness := (true, "65c2748b2d4ba461e28674f1af351833ab386901d0be9909fae54e72ff9d2ba0"), looks := false }, kinds := [], alts := [], laidByText := true, laidKinds := [.data, .pinned], laidTests := true, laidLooks := .later }
def IndexMakesUptoCardSaid : Prop := Claim7.holds Tryd.pinned (.plain (OpenSpec.upto indexMakesSpec)) indexMakesUptoCard

/-- THE SECOND FORM's CARD OF 'clerestorylaw1.IndexAsks'. -/
def indexAsksUptoCard : Claim7 := { stood := { row := indexAsksUptoRow, standIns := [], harness := (true, "65c2748b2d4ba461e28674f1af351833ab386901d0be9909fae54e72ff9d2ba0"), looks := false }, kinds := [], alts := [], laidByText := true, laidKinds := [.data, .pinned], laidTests := true, laidLooks := .later }
def IndexAsksUptoCardSaid : Prop := Claim7.holds Tryd.pinned (.plain (OpenSpec.upto indexAsksSpec)) indexAsksUptoCard

/-- THE SECOND FORM's CARD OF 'clerestorylaw1.DomCopies'. -/
def domCopiesUptoCard : Claim7 := { stood := { row := domCopiesUptoRow, standIns := [], harness := (true, "65c2748b2d4ba461e28674f1af351833ab386901d0be9909fae54e72ff9d2ba0"), looks := false }, kinds := [], alts := [], laidByText := true, laidKinds := [.data, .pinned], laidTests := true, laidLooks := .later }
def DomCopiesUptoCardSaid : Prop := Claim7.holds Tryd.pinned (.plain (OpenSpec.upto domCopiesSpec)) domCopiesUptoCard
end Rows
end Go.Proofs.YtoolkpnnllfhgaaDoor
