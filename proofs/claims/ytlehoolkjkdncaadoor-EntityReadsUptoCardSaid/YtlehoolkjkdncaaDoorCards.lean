/-
  DERIVED. GIVEN WITH THE SEED: THE CARDS: each row of YtlehoolkjkdncaaDoorRows.lean that lists a variable, with what it lists TIED to the program's text (the seventh form; the later family's looks); each row that meets fmt, with fmt's text TOLD by the authors' own Lean function (tested against real Go, not proved from fmt's source: count such statements apart). THE CARD IS WHAT COUNTS. Prove the row's statement (the work); the ties are given (YtlehoolkjkdncaaDoorTie.lean); close each card by the builder's one call (the guide's Derived/Test/ToyasCard.lean, 'card_holds'). Laid BY PROGRAM, IN A SANDBOX (cutbox-door.mjs). By AI agents, Wed Nov 11 2026. No macro, syntax, notation, axiom, sorry.
-/
import Derived.Test.YtlehoolkjkdncaaDoorRows
import GoSem.ClaimSeven
namespace Go.Proofs.YtlehoolkjkdncaaDoor
namespace Rows

/-- THE TIED CARD OF 'clerestorylaw1.CharsReads'. -/
def charsReadsCard : Claim7 := { stood := { row := charsReadsRow, standIns := [], harness := (true, "c525f1ae82619f2aad6cd80dc761eed2a1eba3ea3e047336b39713ce3bf3adc1"), looks := false }, kinds := [], alts := [], laidByText := true, laidKinds := [.data, .pinned], laidTests := true, laidLooks := .later }
def CharsReadsCardSaid : Prop := Claim7.holds Tryd.pinned (.plain (OpenSpec.ofChange charsReadsSpec)) charsReadsCard

/-- THE TIED CARD OF 'clerestorylaw1.EntityReads'. -/
def entityReadsCard : Claim7 := { stood := { row := entityReadsRow, standIns := [], harness := (true, "c525f1ae82619f2aad6cd80dc761eed2a1eba3ea3e047336b39713ce3bf3adc1"), looks := false }, kinds := [], alts := [], laidByText := true, laidKinds := [.data, .pinned], laidTests := true, laidLooks := .later }
def EntityReadsCardSaid : Prop := Claim7.holds Tryd.pinned (.plain (OpenSpec.ofChange entityReadsSpec)) entityReadsCard

/-- THE SECOND FORM's CARD OF 'clerestorylaw1.CharsReads'. -/
def charsReadsUptoCard : Claim7 := { stood := { row := charsReadsUptoRow, standIns := [], harness := (true, "c525f1ae82619f2aad6cd80dc761eed2a1eba3ea3e047336b39713ce3bf3adc1"), looks := false }, kinds := [], alts := [], laidByText := true, laidKinds := [.data, .pinned], laidTests := true, laidLooks := .later }
def CharsReadsUptoCardSaid : Prop := Claim7.holds Tryd.pinned (.plain (OpenSpec.upto charsReadsSpec)) charsReadsUptoCard

/-- THE SECOND FORM's CARD OF 'clerestorylaw1.EntityReads'. -/
def entityReadsUptoCard : Claim7 := { stood := { row := entityReadsUptoRow, standIns := [], harness := (true, "c525f1ae82619f2aad6cd80dc761eed2a1eba3ea3e047336b39713ce3bf3adc1"), looks := false }, kinds := [], alts := [], laidByText := true, laidKinds := [.data, .pinned], laidTests := true, laidLooks := .later }
def EntityReadsUptoCardSaid : Prop := Claim7.holds Tryd.pinned (.plain (OpenSpec.upto entityReadsSpec)) entityReadsUptoCard
end Rows
end Go.Proofs.YtlehoolkjkdncaaDoor
