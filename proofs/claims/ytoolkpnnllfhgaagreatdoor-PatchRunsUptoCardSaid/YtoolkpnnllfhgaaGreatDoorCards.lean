/-
  DERIVED. GIVEN WITH THE SEED: THE CARDS: each row of YtoolkpnnllfhgaaGreatDoorRows.lean that lists a variable, with what it lists TIED to the program's text (the seventh form; the later family's looks); each row that meets fmt, with fmt's text TOLD by the authors' own Lean function (tested against real Go, not proved from fmt's source: count such statements apart). THE CARD IS WHAT COUNTS. Prove the row's statement (the work); the ties are given (YtoolkpnnllfhgaaGreatDoorTie.lean); close each card by the builder's one call (the guide's Derived/Test/ToyasCard.lean, 'card_holds'). Laid BY PROGRAM, IN A SANDBOX (cutbox-door.mjs). By AI agents, Wed Nov 11 2026. No macro, syntax, notation, axiom, sorry.
-/
import Derived.Test.YtoolkpnnllfhgaaGreatDoorRows
import GoSem.ClaimSeven
namespace Go.Proofs.YtoolkpnnllfhgaaGreatDoor
namespace Rows

/-- THE TIED CARD OF 'clerestorylaw1.RecordDoes'. -/
def recordDoesCard : Claim7 := { stood := { row := recordDoesRow, standIns := [], harness := (true, "05d41cf381bdaa30767c2fd1b36bfe68bde9886c51bd8f604ff6033bb267776a"), looks := false }, kinds := [], alts := [], laidByText := true, laidKinds := [.data, .pinned], laidTests := true, laidLooks := .later }
def RecordDoesCardSaid : Prop := Claim7.holds Tryz.pinned (.plain (OpenSpec.ofChange recordDoesSpec)) recordDoesCard

/-- THE TIED CARD OF 'clerestorylaw1.RecordUndoes'. -/
def recordUndoesCard : Claim7 := { stood := { row := recordUndoesRow, standIns := [], harness := (true, "05d41cf381bdaa30767c2fd1b36bfe68bde9886c51bd8f604ff6033bb267776a"), looks := false }, kinds := [], alts := [], laidByText := true, laidKinds := [.data, .pinned], laidTests := true, laidLooks := .later }
def RecordUndoesCardSaid : Prop := Claim7.holds Tryz.pinned (.plain (OpenSpec.ofChange recordUndoesSpec)) recordUndoesCard

/-- THE TIED CARD OF 'clerestorylaw1.PatchRuns'. -/
def patchRunsCard : Claim7 := { stood := { row := patchRunsRow, standIns := [], harness := (true, "05d41cf381bdaa30767c2fd1b36bfe68bde9886c51bd8f604ff6033bb267776a"), looks := false }, kinds := [], alts := [], laidByText := true, laidKinds := [.data, .pinned], laidTests := true, laidLooks := .later }
def PatchRunsCardSaid : Prop := Claim7.holds Tryz.pinned (.plain (OpenSpec.ofChange patchRunsSpec)) patchRunsCard

/-- THE TIED CARD OF 'clerestorylaw1.SpanLives'. -/
def spanLivesCard : Claim7 := { stood := { row := spanLivesRow, standIns := [], harness := (true, "05d41cf381bdaa30767c2fd1b36bfe68bde9886c51bd8f604ff6033bb267776a"), looks := false }, kinds := [], alts := [], laidByText := true, laidKinds := [.data, .pinned], laidTests := true, laidLooks := .later }
def SpanLivesCardSaid : Prop := Claim7.holds Tryz.pinned (.plain (OpenSpec.ofChange spanLivesSpec)) spanLivesCard

/-- THE TIED CARD OF 'clerestorylaw1.ApartTouches'. -/
def apartTouchesCard : Claim7 := { stood := { row := apartTouchesRow, standIns := [], harness := (true, "05d41cf381bdaa30767c2fd1b36bfe68bde9886c51bd8f604ff6033bb267776a"), looks := false }, kinds := [], alts := [], laidByText := true, laidKinds := [.data, .pinned], laidTests := true, laidLooks := .later }
def ApartTouchesCardSaid : Prop := Claim7.holds Tryz.pinned (.plain (OpenSpec.ofChange apartTouchesSpec)) apartTouchesCard

/-- THE TIED CARD OF 'clerestorylaw1.ApartFolds'. -/
def apartFoldsCard : Claim7 := { stood := { row := apartFoldsRow, standIns := [], harness := (true, "05d41cf381bdaa30767c2fd1b36bfe68bde9886c51bd8f604ff6033bb267776a"), looks := false }, kinds := [], alts := [], laidByText := true, laidKinds := [.data, .pinned], laidTests := true, laidLooks := .later }
def ApartFoldsCardSaid : Prop := Claim7.holds Tryz.pinned (.plain (OpenSpec.ofChange apartFoldsSpec)) apartFoldsCard

/-- THE TIED CARD OF 'clerestorylaw1.RecordTouches'. -/
def recordTouchesCard : Claim7 := { stood := { row := recordTouchesRow, standIns := [], harness := (true, "05d41cf381bdaa30767c2fd1b36bfe68bde9886c51bd8f604ff6033bb267776a"), looks := false }, kinds := [], alts := [], laidByText := true, laidKinds := [.data, .pinned], laidTests := true, laidLooks := .later }
def RecordTouchesCardSaid : Prop := Claim7.holds Tryz.pinned (.plain (OpenSpec.ofChange recordTouchesSpec)) recordTouchesCard

/-- THE SECOND FORM's CARD OF 'clerestorylaw1.RecordDoes'. -/
def recordDoesUptoCard : Claim7 := { stood := { row := recordDoesUptoRow, standIns := [], harness := (true, "05d41cf381bdaa30767c2fd1b36bfe68bde9886c51bd8f604ff6033bb267776a"), looks := false }, kinds := [], alts := [], laidByText := true, laidKinds := [.data, .pinned], laidTests := true, laidLooks := .later }
def RecordDoesUptoCardSaid : Prop := Claim7.holds Tryz.pinned (.plain (OpenSpec.upto recordDoesSpec)) recordDoesUptoCard

/-- THE SECOND FORM's CARD OF 'clerestorylaw1.RecordUndoes'. -/
def recordUndoesUptoCard : Claim7 := { stood := { row := recordUndoesUptoRow, standIns := [], harness := (true, "05d41cf381bdaa30767c2fd1b36bfe68bde9886c51bd8f604ff6033bb267776a"), looks := false }, kinds := [], alts := [], laidByText := true, laidKinds := [.data, .pinned], laidTests := true, laidLooks := .later }
def RecordUndoesUptoCardSaid : Prop := Claim7.holds Tryz.pinned (.plain (OpenSpec.upto recordUndoesSpec)) recordUndoesUptoCard

/-- THE SECOND FORM's CARD OF 'clerestorylaw1.PatchRuns'. -/
def patchRunsUptoCard : Claim7 := { stood := { row := patchRunsUptoRow, standIns := [], harness := (true, "05d41cf381bdaa30767c2fd1b36bfe68bde9886c51bd8f604ff6033bb267776a"), looks := false }, kinds := [], alts := [], laidByText := true, laidKinds := [.data, .pinned], laidTests := true, laidLooks := .later }
def PatchRunsUptoCardSaid : Prop := Claim7.holds Tryz.pinned (.plain (OpenSpec.upto patchRunsSpec)) patchRunsUptoCard

/-- THE SECOND FORM's CARD OF 'clerestorylaw1.SpanLives'. -/
def spanLivesUptoCard : Claim7 := { stood := { row := spanLivesUptoRow, standIns := [], harness := (true, "05d41cf381bdaa30767c2fd1b36bfe68bde9886c51bd8f604ff6033bb267776a"), looks := false }, kinds := [], alts := [], laidByText := true, laidKinds := [.data, .pinned], laidTests := true, laidLooks := .later }
def SpanLivesUptoCardSaid : Prop := Claim7.holds Tryz.pinned (.plain (OpenSpec.upto spanLivesSpec)) spanLivesUptoCard

/-- THE SECOND FORM's CARD OF 'clerestorylaw1.ApartTouches'. -/
def apartTouchesUptoCard : Claim7 := { stood := { row := apartTouchesUptoRow, standIns := [], harness := (true, "05d41cf381bdaa30767c2fd1b36bfe68bde9886c51bd8f604ff6033bb267776a"), looks := false }, kinds := [], alts := [], laidByText := true, laidKinds := [.data, .pinned], laidTests := true, laidLooks := .later }
def ApartTouchesUptoCardSaid : Prop := Claim7.holds Tryz.pinned (.plain (OpenSpec.upto apartTouchesSpec)) apartTouchesUptoCard

/-- THE SECOND FORM's CARD OF 'clerestorylaw1.ApartFolds'. -/
def apartFoldsUptoCard : Claim7 := { stood := { row := apartFoldsUptoRow, standIns := [], harness := (true, "05d41cf381bdaa30767c2fd1b36bfe68bde9886c51bd8f604ff6033bb267776a"), looks := false }, kinds := [], alts := [], laidByText := true, laidKinds := [.data, .pinned], laidTests := true, laidLooks := .later }
def ApartFoldsUptoCardSaid : Prop := Claim7.holds Tryz.pinned (.plain (OpenSpec.upto apartFoldsSpec)) apartFoldsUptoCard

/-- THE SECOND FORM's CARD OF 'clerestorylaw1.RecordTouches'. -/
def recordTouchesUptoCard : Claim7 := { stood := { row := recordTouchesUptoRow, standIns := [], harness := (true, "05d41cf381bdaa30767c2fd1b36bfe68bde9886c51bd8f604ff6033bb267776a"), looks := false }, kinds := [], alts := [], laidByText := true, laidKinds := [.data, .pinned], laidTests := true, laidLooks := .later }
def RecordTouchesUptoCardSaid : Prop := Claim7.holds Tryz.pinned (.plain (OpenSpec.upto recordTouchesSpec)) recordTouchesUptoCard
end Rows
end Go.Proofs.YtoolkpnnllfhgaaGreatDoor
