/-
  DERIVED. GIVEN WITH THE SEED: THE CARDS: each row of YtallaohkbcilhaaDoorRows.lean that lists a variable, with what it lists TIED to the program's text (the seventh form; the later family's looks); each row that meets fmt, with fmt's text TOLD by the authors' own Lean function (tested against real Go, not proved from fmt's source: count such statements apart). THE CARD IS WHAT COUNTS. Prove the row's statement (the work); the ties are given (YtallaohkbcilhaaDoorTie.lean); close each card by the builder's one call (the guide's Derived/Test/ToyasCard.lean, 'card_holds'). Laid BY PROGRAM, IN A SANDBOX (cutbox-door.mjs). By AI agents, Wed Nov 11 2026. No macro, syntax, notation, axiom, sorry.
-/
import Derived.Test.YtallaohkbcilhaaDoorRows
import GoSem.ClaimSeven
namespace Go.Proofs.YtallaohkbcilhaaDoor
namespace Rows

/-- THE TIED CARD OF 'clerestorylaw1.WalkSelects'. -/
def walkSelectsCard : Claim7 := { stood := { row := walkSelectsRow, standIns := [], harness := (true, "d3627868661fa6a28f33579dc0c49fcb36d70acacf39367455a777efa3bb58ba"), looks := false }, kinds := [], alts := [], laidByText := true, laidKinds := [.data, .pinned], laidTests := true, laidLooks := .later }
def WalkSelectsCardSaid : Prop := Claim7.holds Tryd.pinned (.plain (OpenSpec.ofChange walkSelectsSpec)) walkSelectsCard

/-- THE SECOND FORM's CARD OF 'clerestorylaw1.WalkSelects'. -/
def walkSelectsUptoCard : Claim7 := { stood := { row := walkSelectsUptoRow, standIns := [], harness := (true, "d3627868661fa6a28f33579dc0c49fcb36d70acacf39367455a777efa3bb58ba"), looks := false }, kinds := [], alts := [], laidByText := true, laidKinds := [.data, .pinned], laidTests := true, laidLooks := .later }
def WalkSelectsUptoCardSaid : Prop := Claim7.holds Tryd.pinned (.plain (OpenSpec.upto walkSelectsSpec)) walkSelectsUptoCard
end Rows
end Go.Proofs.YtallaohkbcilhaaDoor
