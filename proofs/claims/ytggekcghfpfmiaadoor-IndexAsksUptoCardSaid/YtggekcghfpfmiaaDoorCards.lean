/-
  DERIVED. GIVEN WITH THE SEED: THE CARDS: each row of YtggekcghfpfmiaaDoorRows.lean that lists a variable, with what it lists TIED to the program's text (the seventh form; the later family's looks); each row that meets fmt, with fmt's text TOLD by the authors' own Lean function (tested against real Go, not proved from fmt's source: count such statements apart). THE CARD IS WHAT COUNTS. Prove the row's statement (the work); the ties are given (YtggekcghfpfmiaaDoorTie.lean); close each card by the builder's one call (the guide's Derived/Test/ToyasCard.lean, 'card_holds'). Laid BY PROGRAM, IN A SANDBOX (cutbox-door.mjs). By AI agents, Wed Nov 11 2026. No macro, syntax, notation, axiom, sorry.
-/
import Derived.Test.YtggekcghfpfmiaaDoorRows
import GoSem.ClaimSeven
namespace Go.Proofs.YtggekcghfpfmiaaDoor
namespace Rows

/-- THE TIED CARD OF 'clerestorylaw1.IndexMakes'. -/
def indexMakesCard : Claim7 := { stood := { row := indexMakesRow, standIns := [], harness := (true, "b207953d1c3efd11f1f2e2878428e1b2a233fcdc8dc1822c5ecb662c1d003aee"), looks := false }, kinds := [], alts := [], laidByText := true, laidKinds := [.data, .pinned], laidTests := true, laidLooks := .later }
def IndexMakesCardSaid : Prop := Claim7.holds Tryd.pinned (.plain (OpenSpec.ofChange indexMakesSpec)) indexMakesCard

/-- THE TIED CARD OF 'clerestorylaw1.IndexAsks'. -/
def indexAsksCard : Claim7 := { stood := { row := indexAsksRow, standIns := [], harness := (true, "b207953d1c3efd11f1f2e2878428e1b2a233fcdc8dc1822c5ecb662c1d003aee"), looks := false }, kinds := [], alts := [], laidByText := true, laidKinds := [.data, .pinned], laidTests := true, laidLooks := .later }
def IndexAsksCardSaid : Prop := Claim7.holds Tryd.pinned (.plain (OpenSpec.ofChange indexAsksSpec)) indexAsksCard

/-- THE SECOND FORM's CARD OF 'clerestorylaw1.IndexMakes'. -/
def indexMakesUptoCard : Claim7 := { stood := { row := indexMakesUptoRow, standIns := [], harness := (true, "b207953d1c3efd11f1f2e2878428e1b2a233fcdc8dc1822c5ecb662c1d003aee"), looks := false }, kinds := [], alts := [], laidByText := true, laidKinds := [.data, .pinned], laidTests := true, laidLooks := .later }
def IndexMakesUptoCardSaid : Prop := Claim7.holds Tryd.pinned (.plain (OpenSpec.upto indexMakesSpec)) indexMakesUptoCard

/-- THE SECOND FORM's CARD OF 'clerestorylaw1.IndexAsks'. -/
def indexAsksUptoCard : Claim7 := { stood := { row := indexAsksUptoRow, standIns := [], harness := (true, "b207953d1c3efd11f1f2e2878428e1b2a233fcdc8dc1822c5ecb662c1d003aee"), looks := false }, kinds := [], alts := [], laidByText := true, laidKinds := [.data, .pinned], laidTests := true, laidLooks := .later }
def IndexAsksUptoCardSaid : Prop := Claim7.holds Tryd.pinned (.plain (OpenSpec.upto indexAsksSpec)) indexAsksUptoCard
end Rows
end Go.Proofs.YtggekcghfpfmiaaDoor
