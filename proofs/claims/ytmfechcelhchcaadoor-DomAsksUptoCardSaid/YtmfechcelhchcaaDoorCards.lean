/-
  DERIVED. GIVEN WITH THE SEED: THE CARDS: each row of YtmfechcelhchcaaDoorRows.lean that lists a variable, with what it lists TIED to the program's text (the seventh form; the later family's looks); each row that meets fmt, with fmt's text TOLD by the authors' own Lean function (tested against real Go, not proved from fmt's source: count such statements apart). THE CARD IS WHAT COUNTS. Prove the row's statement (the work); the ties are given (YtmfechcelhchcaaDoorTie.lean); close each card by the builder's one call (the guide's Derived/Test/ToyasCard.lean, 'card_holds'). Laid BY PROGRAM, IN A SANDBOX (cutbox-door.mjs). By AI agents, Wed Nov 11 2026. No macro, syntax, notation, axiom, sorry.
-/
import Derived.Test.YtmfechcelhchcaaDoorRows
import GoSem.ClaimSeven
namespace Go.Proofs.YtmfechcelhchcaaDoor
namespace Rows

/-- THE TIED CARD OF 'clerestorylaw1.WalkSteps'. -/
def walkStepsCard : Claim7 := { stood := { row := walkStepsRow, standIns := [], harness := (true, "7372670115e2d117689b685897a6f70f950a8e1d96ec448b1dc02615b34822c3"), looks := false }, kinds := [], alts := [], laidByText := true, laidKinds := [.data, .pinned], laidTests := true, laidLooks := .later }
def WalkStepsCardSaid : Prop := Claim7.holds Tryd.pinned (.plain (OpenSpec.ofChange walkStepsSpec)) walkStepsCard

/-- THE TIED CARD OF 'clerestorylaw1.WalkPairs'. -/
def walkPairsCard : Claim7 := { stood := { row := walkPairsRow, standIns := [], harness := (true, "7372670115e2d117689b685897a6f70f950a8e1d96ec448b1dc02615b34822c3"), looks := false }, kinds := [], alts := [], laidByText := true, laidKinds := [.data, .pinned], laidTests := true, laidLooks := .later }
def WalkPairsCardSaid : Prop := Claim7.holds Tryd.pinned (.plain (OpenSpec.ofChange walkPairsSpec)) walkPairsCard

/-- THE TIED CARD OF 'clerestorylaw1.WalkSelects'. -/
def walkSelectsCard : Claim7 := { stood := { row := walkSelectsRow, standIns := [], harness := (true, "7372670115e2d117689b685897a6f70f950a8e1d96ec448b1dc02615b34822c3"), looks := false }, kinds := [], alts := [], laidByText := true, laidKinds := [.data, .pinned], laidTests := true, laidLooks := .later }
def WalkSelectsCardSaid : Prop := Claim7.holds Tryd.pinned (.plain (OpenSpec.ofChange walkSelectsSpec)) walkSelectsCard

/-- THE TIED CARD OF 'clerestorylaw1.SpanCuts'. -/
def spanCutsCard : Claim7 := { stood := { row := spanCutsRow, standIns := [], harness := (true, "7372670115e2d117689b685897a6f70f950a8e1d96ec448b1dc02615b34822c3"), looks := false }, kinds := [], alts := [], laidByText := true, laidKinds := [.data, .pinned], laidTests := true, laidLooks := .later }
def SpanCutsCardSaid : Prop := Claim7.holds Tryd.pinned (.plain (OpenSpec.ofChange spanCutsSpec)) spanCutsCard

/-- THE TIED CARD OF 'clerestorylaw1.SpanPoints'. -/
def spanPointsCard : Claim7 := { stood := { row := spanPointsRow, standIns := [], harness := (true, "7372670115e2d117689b685897a6f70f950a8e1d96ec448b1dc02615b34822c3"), looks := false }, kinds := [], alts := [], laidByText := true, laidKinds := [.data, .pinned], laidTests := true, laidLooks := .later }
def SpanPointsCardSaid : Prop := Claim7.holds Tryd.pinned (.plain (OpenSpec.ofChange spanPointsSpec)) spanPointsCard

/-- THE TIED CARD OF 'clerestorylaw1.IndexMakes'. -/
def indexMakesCard : Claim7 := { stood := { row := indexMakesRow, standIns := [], harness := (true, "7372670115e2d117689b685897a6f70f950a8e1d96ec448b1dc02615b34822c3"), looks := false }, kinds := [], alts := [], laidByText := true, laidKinds := [.data, .pinned], laidTests := true, laidLooks := .later }
def IndexMakesCardSaid : Prop := Claim7.holds Tryd.pinned (.plain (OpenSpec.ofChange indexMakesSpec)) indexMakesCard

/-- THE TIED CARD OF 'clerestorylaw1.IndexAsks'. -/
def indexAsksCard : Claim7 := { stood := { row := indexAsksRow, standIns := [], harness := (true, "7372670115e2d117689b685897a6f70f950a8e1d96ec448b1dc02615b34822c3"), looks := false }, kinds := [], alts := [], laidByText := true, laidKinds := [.data, .pinned], laidTests := true, laidLooks := .later }
def IndexAsksCardSaid : Prop := Claim7.holds Tryd.pinned (.plain (OpenSpec.ofChange indexAsksSpec)) indexAsksCard

/-- THE TIED CARD OF 'clerestorylaw1.DomChecks'. -/
def domChecksCard : Claim7 := { stood := { row := domChecksRow, standIns := [], harness := (true, "7372670115e2d117689b685897a6f70f950a8e1d96ec448b1dc02615b34822c3"), looks := false }, kinds := [], alts := [], laidByText := true, laidKinds := [.data, .pinned], laidTests := true, laidLooks := .later }
def DomChecksCardSaid : Prop := Claim7.holds Tryd.pinned (.plain (OpenSpec.ofChange domChecksSpec)) domChecksCard

/-- THE TIED CARD OF 'clerestorylaw1.DomEdits'. -/
def domEditsCard : Claim7 := { stood := { row := domEditsRow, standIns := [], harness := (true, "7372670115e2d117689b685897a6f70f950a8e1d96ec448b1dc02615b34822c3"), looks := false }, kinds := [], alts := [], laidByText := true, laidKinds := [.data, .pinned], laidTests := true, laidLooks := .later }
def DomEditsCardSaid : Prop := Claim7.holds Tryd.pinned (.plain (OpenSpec.ofChange domEditsSpec)) domEditsCard

/-- THE TIED CARD OF 'clerestorylaw1.DomAll'. -/
def domAllCard : Claim7 := { stood := { row := domAllRow, standIns := [], harness := (true, "7372670115e2d117689b685897a6f70f950a8e1d96ec448b1dc02615b34822c3"), looks := false }, kinds := [], alts := [], laidByText := true, laidKinds := [.data, .pinned], laidTests := true, laidLooks := .later }
def DomAllCardSaid : Prop := Claim7.holds Tryd.pinned (.plain (OpenSpec.ofChange domAllSpec)) domAllCard

/-- THE TIED CARD OF 'clerestorylaw1.DomAsks'. -/
def domAsksCard : Claim7 := { stood := { row := domAsksRow, standIns := [], harness := (true, "7372670115e2d117689b685897a6f70f950a8e1d96ec448b1dc02615b34822c3"), looks := false }, kinds := [], alts := [], laidByText := true, laidKinds := [.data, .pinned], laidTests := true, laidLooks := .later }
def DomAsksCardSaid : Prop := Claim7.holds Tryd.pinned (.plain (OpenSpec.ofChange domAsksSpec)) domAsksCard

/-- THE TIED CARD OF 'clerestorylaw1.DomCopies'. -/
def domCopiesCard : Claim7 := { stood := { row := domCopiesRow, standIns := [], harness := (true, "7372670115e2d117689b685897a6f70f950a8e1d96ec448b1dc02615b34822c3"), looks := false }, kinds := [], alts := [], laidByText := true, laidKinds := [.data, .pinned], laidTests := true, laidLooks := .later }
def DomCopiesCardSaid : Prop := Claim7.holds Tryd.pinned (.plain (OpenSpec.ofChange domCopiesSpec)) domCopiesCard

/-- THE SECOND FORM's CARD OF 'clerestorylaw1.WalkSteps'. -/
def walkStepsUptoCard : Claim7 := { stood := { row := walkStepsUptoRow, standIns := [], harness := (true, "7372670115e2d117689b685897a6f70f950a8e1d96ec448b1dc02615b34822c3"), looks := false }, kinds := [], alts := [], laidByText := true, laidKinds := [.data, .pinned], laidTests := true, laidLooks := .later }
def WalkStepsUptoCardSaid : Prop := Claim7.holds Tryd.pinned (.plain (OpenSpec.upto walkStepsSpec)) walkStepsUptoCard

/-- THE SECOND FORM's CARD OF 'clerestorylaw1.WalkPairs'. -/
def walkPairsUptoCard : Claim7 := { stood := { row := walkPairsUptoRow, standIns := [], harness := (true, "7372670115e2d117689b685897a6f70f950a8e1d96ec448b1dc02615b34822c3"), looks := false }, kinds := [], alts := [], laidByText := true, laidKinds := [.data, .pinned], laidTests := true, laidLooks := .later }
def WalkPairsUptoCardSaid : Prop := Claim7.holds Tryd.pinned (.plain (OpenSpec.upto walkPairsSpec)) walkPairsUptoCard

/-- THE SECOND FORM's CARD OF 'clerestorylaw1.WalkSelects'. -/
def walkSelectsUptoCard : Claim7 := { stood := { row := walkSelectsUptoRow, standIns := [], harness := (true, "7372670115e2d117689b685897a6f70f950a8e1d96ec448b1dc02615b34822c3"), looks := false }, kinds := [], alts := [], laidByText := true, laidKinds := [.data, .pinned], laidTests := true, laidLooks := .later }
def WalkSelectsUptoCardSaid : Prop := Claim7.holds Tryd.pinned (.plain (OpenSpec.upto walkSelectsSpec)) walkSelectsUptoCard

/-- THE SECOND FORM's CARD OF 'clerestorylaw1.SpanCuts'. -/
def spanCutsUptoCard : Claim7 := { stood := { row := spanCutsUptoRow, standIns := [], harness := (true, "7372670115e2d117689b685897a6f70f950a8e1d96ec448b1dc02615b34822c3"), looks := false }, kinds := [], alts := [], laidByText := true, laidKinds := [.data, .pinned], laidTests := true, laidLooks := .later }
def SpanCutsUptoCardSaid : Prop := Claim7.holds Tryd.pinned (.plain (OpenSpec.upto spanCutsSpec)) spanCutsUptoCard

/-- THE SECOND FORM's CARD OF 'clerestorylaw1.SpanPoints'. -/
def spanPointsUptoCard : Claim7 := { stood := { row := spanPointsUptoRow, standIns := [], harness := (true, "7372670115e2d117689b685897a6f70f950a8e1d96ec448b1dc02615b34822c3"), looks := false }, kinds := [], alts := [], laidByText := true, laidKinds := [.data, .pinned], laidTests := true, laidLooks := .later }
def SpanPointsUptoCardSaid : Prop := Claim7.holds Tryd.pinned (.plain (OpenSpec.upto spanPointsSpec)) spanPointsUptoCard

/-- THE SECOND FORM's CARD OF 'clerestorylaw1.IndexMakes'. -/
def indexMakesUptoCard : Claim7 := { stood := { row := indexMakesUptoRow, standIns := [], harness := (true, "7372670115e2d117689b685897a6f70f950a8e1d96ec448b1dc02615b34822c3"), looks := false }, kinds := [], alts := [], laidByText := true, laidKinds := [.data, .pinned], laidTests := true, laidLooks := .later }
def IndexMakesUptoCardSaid : Prop := Claim7.holds Tryd.pinned (.plain (OpenSpec.upto indexMakesSpec)) indexMakesUptoCard

/-- THE SECOND FORM's CARD OF 'clerestorylaw1.IndexAsks'. -/
def indexAsksUptoCard : Claim7 := { stood := { row := indexAsksUptoRow, standIns := [], harness := (true, "7372670115e2d117689b685897a6f70f950a8e1d96ec448b1dc02615b34822c3"), looks := false }, kinds := [], alts := [], laidByText := true, laidKinds := [.data, .pinned], laidTests := true, laidLooks := .later }
def IndexAsksUptoCardSaid : Prop := Claim7.holds Tryd.pinned (.plain (OpenSpec.upto indexAsksSpec)) indexAsksUptoCard

/-- THE SECOND FORM's CARD OF 'clerestorylaw1.DomChecks'. -/
def domChecksUptoCard : Claim7 := { stood := { row := domChecksUptoRow, standIns := [], harness := (true, "7372670115e2d117689b685897a6f70f950a8e1d96ec448b1dc02615b34822c3"), looks := false }, kinds := [], alts := [], laidByText := true, laidKinds := [.data, .pinned], laidTests := true, laidLooks := .later }
def DomChecksUptoCardSaid : Prop := Claim7.holds Tryd.pinned (.plain (OpenSpec.upto domChecksSpec)) domChecksUptoCard

/-- THE SECOND FORM's CARD OF 'clerestorylaw1.DomEdits'. -/
def domEditsUptoCard : Claim7 := { stood := { row := domEditsUptoRow, standIns := [], harness := (true, "7372670115e2d117689b685897a6f70f950a8e1d96ec448b1dc02615b34822c3"), looks := false }, kinds := [], alts := [], laidByText := true, laidKinds := [.data, .pinned], laidTests := true, laidLooks := .later }
def DomEditsUptoCardSaid : Prop := Claim7.holds Tryd.pinned (.plain (OpenSpec.upto domEditsSpec)) domEditsUptoCard

/-- THE SECOND FORM's CARD OF 'clerestorylaw1.DomAll'. -/
def domAllUptoCard : Claim7 := { stood := { row := domAllUptoRow, standIns := [], harness := (true, "7372670115e2d117689b685897a6f70f950a8e1d96ec448b1dc02615b34822c3"), looks := false }, kinds := [], alts := [], laidByText := true, laidKinds := [.data, .pinned], laidTests := true, laidLooks := .later }
def DomAllUptoCardSaid : Prop := Claim7.holds Tryd.pinned (.plain (OpenSpec.upto domAllSpec)) domAllUptoCard

/-- THE SECOND FORM's CARD OF 'clerestorylaw1.DomAsks'. -/
def domAsksUptoCard : Claim7 := { stood := { row := domAsksUptoRow, standIns := [], harness := (true, "7372670115e2d117689b685897a6f70f950a8e1d96ec448b1dc02615b34822c3"), looks := false }, kinds := [], alts := [], laidByText := true, laidKinds := [.data, .pinned], laidTests := true, laidLooks := .later }
def DomAsksUptoCardSaid : Prop := Claim7.holds Tryd.pinned (.plain (OpenSpec.upto domAsksSpec)) domAsksUptoCard

/-- THE SECOND FORM's CARD OF 'clerestorylaw1.DomCopies'. -/
def domCopiesUptoCard : Claim7 := { stood := { row := domCopiesUptoRow, standIns := [], harness := (true, "7372670115e2d117689b685897a6f70f950a8e1d96ec448b1dc02615b34822c3"), looks := false }, kinds := [], alts := [], laidByText := true, laidKinds := [.data, .pinned], laidTests := true, laidLooks := .later }
def DomCopiesUptoCardSaid : Prop := Claim7.holds Tryd.pinned (.plain (OpenSpec.upto domCopiesSpec)) domCopiesUptoCard
end Rows
end Go.Proofs.YtmfechcelhchcaaDoor
