/-
  No cell of these rows narrows 'for every input' (looked for: loops, veiled, ifaces, maps, wideKeys, modest, calm, conditions, laid).
  DERIVED. THE GIVEN ROWS OF THIS SEAT. 7 by the template 'for every input the law returns true; each argument reads behind the call as it read before'; 0 by the template 'total and deterministic' (their statements: YtlehoolkjkdncaaTotals.lean).
  GIVEN WITH THE SEED: the statements are not yours to turn. If you find one false, say at which input.
  Laid BY PROGRAM, IN A SANDBOX (cutbox-rows.mjs): the forced cells as the released guide's own fill.sh prints them over the translation a638ab98299fc4ed… (all of the seat's roots in one cut). By AI agents, Wed Nov 11 2026. No macro, syntax, notation, axiom, sorry.
-/
import Derived.Test.YtlehoolkjkdncaaChecked
import GoSem.Claim
import GoSem.ClaimJoined
import GoSem.ClaimMapViews
import Derived.JoinedTies
import Derived.KernelRfl
namespace Go.Proofs.Ytlehoolkjkdncaa
/- THE CELL 'sum', in the pinned program and in every row, IS THE sha256 OF THE DUMP (.gsa) THAT YtlehoolkjkdncaaProg.lean LOADS. Nothing in Lean hashes anything: it is a label: what it is worth is what the hold of that sum in a sandbox is worth. -/
noncomputable def Try.pinned : Pinned := { name := "ytlehoolkjkdncaa", sum := "a638ab98299fc4ede6003d7cbad7ed73adb64ada68156891bab6e2bde235de28", checked := Try.checked }
namespace Rows
def none {H : Type} : Left H := { results := [], args := [] }

/-- 'clerestorylaw1.ActiveTurns': WHATEVER THE INPUT: true; the input reads as it did. -/
def activeTurnsSpec : ChangeSpec := { name := "activeTurns", fn := fun _ => fun
  | [d1, d2] => { results := [.lit (.bool true)], args := [d1, d2] }
  | _ => none }
def activeTurnsRow : OpenClaim := { program := "ytlehoolkjkdncaa", sum := "a638ab98299fc4ede6003d7cbad7ed73adb64ada68156891bab6e2bde235de28", func := "clerestory/clerestorylaw1.ActiveTurns", spec := "activeTurns", unfollowed := true, recurses := true, apart := false }
def ActiveTurnsSaid : Prop := activeTurnsRow.holds Try.pinned (OpenSpec.ofChange activeTurnsSpec)

/-- ITS FALSE NEIGHBOUR: 'it returns false'. Refute it at one input. -/
def activeTurnsWrong : ChangeSpec := { name := "activeTurns", fn := fun _ => fun
  | [d1, d2] => { results := [.lit (.bool false)], args := [d1, d2] }
  | _ => none }
def ActiveTurnsWrongFalsely : Prop := activeTurnsRow.holds Try.pinned (OpenSpec.ofChange activeTurnsWrong)

/-- 'clerestorylaw1.CharsCleans': WHATEVER THE INPUT: true; the input reads as it did. -/
def charsCleansSpec : ChangeSpec := { name := "charsCleans", fn := fun _ => fun
  | [d] => { results := [.lit (.bool true)], args := [d] }
  | _ => none }
def charsCleansRow : OpenClaim := { program := "ytlehoolkjkdncaa", sum := "a638ab98299fc4ede6003d7cbad7ed73adb64ada68156891bab6e2bde235de28", func := "clerestory/clerestorylaw1.CharsCleans", spec := "charsCleans", inPlace := ["internal/abi.NoEscape"], unfollowed := true, recurses := true, apart := false }
def CharsCleansSaid : Prop := charsCleansRow.holds Try.pinned (OpenSpec.ofChange charsCleansSpec)

/-- ITS FALSE NEIGHBOUR: 'it returns false'. Refute it at one input. -/
def charsCleansWrong : ChangeSpec := { name := "charsCleans", fn := fun _ => fun
  | [d] => { results := [.lit (.bool false)], args := [d] }
  | _ => none }
def CharsCleansWrongFalsely : Prop := charsCleansRow.holds Try.pinned (OpenSpec.ofChange charsCleansWrong)

/-- 'clerestorylaw1.ActiveAsks': WHATEVER THE INPUT: true; the input reads as it did. -/
def activeAsksSpec : ChangeSpec := { name := "activeAsks", fn := fun _ => fun
  | [d1, d2, d3] => { results := [.lit (.bool true)], args := [d1, d2, d3] }
  | _ => none }
def activeAsksRow : OpenClaim := { program := "ytlehoolkjkdncaa", sum := "a638ab98299fc4ede6003d7cbad7ed73adb64ada68156891bab6e2bde235de28", func := "clerestory/clerestorylaw1.ActiveAsks", spec := "activeAsks", unfollowed := true, recurses := true, apart := false }
def ActiveAsksSaid : Prop := activeAsksRow.holds Try.pinned (OpenSpec.ofChange activeAsksSpec)

/-- ITS FALSE NEIGHBOUR: 'it returns false'. Refute it at one input. -/
def activeAsksWrong : ChangeSpec := { name := "activeAsks", fn := fun _ => fun
  | [d1, d2, d3] => { results := [.lit (.bool false)], args := [d1, d2, d3] }
  | _ => none }
def ActiveAsksWrongFalsely : Prop := activeAsksRow.holds Try.pinned (OpenSpec.ofChange activeAsksWrong)

/-- 'clerestorylaw1.OpenNames': WHATEVER THE INPUT: true; the input reads as it did. -/
def openNamesSpec : ChangeSpec := { name := "openNames", fn := fun _ => fun
  | [d] => { results := [.lit (.bool true)], args := [d] }
  | _ => none }
def openNamesRow : OpenClaim := { program := "ytlehoolkjkdncaa", sum := "a638ab98299fc4ede6003d7cbad7ed73adb64ada68156891bab6e2bde235de28", func := "clerestory/clerestorylaw1.OpenNames", spec := "openNames", inPlace := ["internal/bytealg.IndexByteString", "internal/bytealg.IndexString"], named := ["internal/bytealg.MaxLen"], apart := false }
def OpenNamesSaid : Prop := openNamesRow.holds Try.pinned (OpenSpec.ofChange openNamesSpec)

/-- ITS FALSE NEIGHBOUR: 'it returns false'. Refute it at one input. -/
def openNamesWrong : ChangeSpec := { name := "openNames", fn := fun _ => fun
  | [d] => { results := [.lit (.bool false)], args := [d] }
  | _ => none }
def OpenNamesWrongFalsely : Prop := openNamesRow.holds Try.pinned (OpenSpec.ofChange openNamesWrong)

/-- 'clerestorylaw1.OpenScopes': WHATEVER THE INPUT: true; the input reads as it did. -/
def openScopesSpec : ChangeSpec := { name := "openScopes", fn := fun _ => fun
  | [d1, d2, d3] => { results := [.lit (.bool true)], args := [d1, d2, d3] }
  | _ => none }
def openScopesRow : OpenClaim := { program := "ytlehoolkjkdncaa", sum := "a638ab98299fc4ede6003d7cbad7ed73adb64ada68156891bab6e2bde235de28", func := "clerestory/clerestorylaw1.OpenScopes", spec := "openScopes", inPlace := ["internal/bytealg.IndexByteString", "internal/bytealg.IndexString"], recurses := true, named := ["internal/bytealg.MaxLen"], apart := false }
def OpenScopesSaid : Prop := openScopesRow.holds Try.pinned (OpenSpec.ofChange openScopesSpec)

/-- ITS FALSE NEIGHBOUR: 'it returns false'. Refute it at one input. -/
def openScopesWrong : ChangeSpec := { name := "openScopes", fn := fun _ => fun
  | [d1, d2, d3] => { results := [.lit (.bool false)], args := [d1, d2, d3] }
  | _ => none }
def OpenScopesWrongFalsely : Prop := openScopesRow.holds Try.pinned (OpenSpec.ofChange openScopesWrong)

/-- 'clerestorylaw1.EntityFinds': WHATEVER THE INPUT: true; the input reads as it did. -/
def entityFindsSpec : ChangeSpec := { name := "entityFinds", fn := fun _ => fun
  | [d1, d2] => { results := [.lit (.bool true)], args := [d1, d2] }
  | _ => none }
def entityFindsRow : OpenClaim := { program := "ytlehoolkjkdncaa", sum := "a638ab98299fc4ede6003d7cbad7ed73adb64ada68156891bab6e2bde235de28", func := "clerestory/clerestorylaw1.EntityFinds", spec := "entityFinds", inPlace := ["internal/abi.NoEscape"], apart := false }
def EntityFindsSaid : Prop := entityFindsRow.holds Try.pinned (OpenSpec.ofChange entityFindsSpec)

/-- ITS FALSE NEIGHBOUR: 'it returns false'. Refute it at one input. -/
def entityFindsWrong : ChangeSpec := { name := "entityFinds", fn := fun _ => fun
  | [d1, d2] => { results := [.lit (.bool false)], args := [d1, d2] }
  | _ => none }
def EntityFindsWrongFalsely : Prop := entityFindsRow.holds Try.pinned (OpenSpec.ofChange entityFindsWrong)

/-- 'clerestorylaw1.CharsKinds': WHATEVER THE INPUT: true; the input reads as it did. -/
def charsKindsSpec : ChangeSpec := { name := "charsKinds", fn := fun _ => fun
  | [d1, d2] => { results := [.lit (.bool true)], args := [d1, d2] }
  | _ => none }
def charsKindsRow : OpenClaim := { program := "ytlehoolkjkdncaa", sum := "a638ab98299fc4ede6003d7cbad7ed73adb64ada68156891bab6e2bde235de28", func := "clerestory/clerestorylaw1.CharsKinds", spec := "charsKinds", inPlace := ["internal/abi.NoEscape"], unfollowed := true, recurses := true, apart := false }
def CharsKindsSaid : Prop := charsKindsRow.holds Try.pinned (OpenSpec.ofChange charsKindsSpec)

/-- ITS FALSE NEIGHBOUR: 'it returns false'. Refute it at one input. -/
def charsKindsWrong : ChangeSpec := { name := "charsKinds", fn := fun _ => fun
  | [d1, d2] => { results := [.lit (.bool false)], args := [d1, d2] }
  | _ => none }
def CharsKindsWrongFalsely : Prop := charsKindsRow.holds Try.pinned (OpenSpec.ofChange charsKindsWrong)

/- THE SECOND FORM. 'bulk': how many values and letters a reading holds, each counted each time it is reached (what is shared counts as often as it is met; a slice's spare places count too). A statement '..UptoSaid' is the law's where the arguments, and the package variables that the reading takes, are together of bulk at most 1048576: NARROWER than '..Said'. Prove '..Said' where nothing that the law and all that it calls make is longer than what came in: it says more and counts as full. Else prove '..UptoSaid'. A law counts once. -/
mutual
def uptoBulk {H : Type} : DataW H → Nat
  | .lit (.string bytes) => bytes.length + 1
  | .lit _ => 1
  | .nil => 1
  | .ptr d => uptoBulk d + 1
  | .slice elems spare => uptoBulkAll elems + uptoBulkAll spare + 1
  | .agg parts => uptoBulkAll parts + 1
  | .iface _ d => uptoBulk d + 1
  | .map entries => uptoBulkEntries entries + 1
  | .held _ => 1
def uptoBulkAll {H : Type} : List (DataW H) → Nat
  | [] => 0
  | d :: r => uptoBulk d + uptoBulkAll r
def uptoBulkEntries {H : Type} : List (Lit × DataW H) → Nat
  | [] => 0
  | x :: r => uptoBulkEntry x + uptoBulkEntries r
def uptoBulkEntry {H : Type} : Lit × DataW H → Nat
  | (.string bytes, d) => bytes.length + uptoBulk d + 1
  | (_, d) => uptoBulk d + 1
 end
def uptoSmall : (H : Type) → List (DataW H) → Bool := fun _ ds => decide (uptoBulkAll ds ≤ 1048576)
def OpenSpec.upto (s : _root_.Go.ChangeSpec) : _root_.Go.OpenSpec := { _root_.Go.OpenSpec.ofChange s with cond := some uptoSmall }

/-- 'clerestorylaw1.ActiveTurns', WHERE WHAT IT READS IS OF BULK AT MOST 1048576: true; the input reads as it did. -/
def activeTurnsUptoRow : OpenClaim := { program := "ytlehoolkjkdncaa", sum := "a638ab98299fc4ede6003d7cbad7ed73adb64ada68156891bab6e2bde235de28", func := "clerestory/clerestorylaw1.ActiveTurns", spec := "activeTurns", unfollowed := true, recurses := true, apart := false, narrowed := true }
def ActiveTurnsUptoSaid : Prop := activeTurnsUptoRow.holds Try.pinned (OpenSpec.upto activeTurnsSpec)

/-- 'clerestorylaw1.CharsCleans', WHERE WHAT IT READS IS OF BULK AT MOST 1048576: true; the input reads as it did. -/
def charsCleansUptoRow : OpenClaim := { program := "ytlehoolkjkdncaa", sum := "a638ab98299fc4ede6003d7cbad7ed73adb64ada68156891bab6e2bde235de28", func := "clerestory/clerestorylaw1.CharsCleans", spec := "charsCleans", inPlace := ["internal/abi.NoEscape"], unfollowed := true, recurses := true, apart := false, narrowed := true }
def CharsCleansUptoSaid : Prop := charsCleansUptoRow.holds Try.pinned (OpenSpec.upto charsCleansSpec)

/-- 'clerestorylaw1.ActiveAsks', WHERE WHAT IT READS IS OF BULK AT MOST 1048576: true; the input reads as it did. -/
def activeAsksUptoRow : OpenClaim := { program := "ytlehoolkjkdncaa", sum := "a638ab98299fc4ede6003d7cbad7ed73adb64ada68156891bab6e2bde235de28", func := "clerestory/clerestorylaw1.ActiveAsks", spec := "activeAsks", unfollowed := true, recurses := true, apart := false, narrowed := true }
def ActiveAsksUptoSaid : Prop := activeAsksUptoRow.holds Try.pinned (OpenSpec.upto activeAsksSpec)

/-- 'clerestorylaw1.OpenNames', WHERE WHAT IT READS IS OF BULK AT MOST 1048576: true; the input reads as it did. -/
def openNamesUptoRow : OpenClaim := { program := "ytlehoolkjkdncaa", sum := "a638ab98299fc4ede6003d7cbad7ed73adb64ada68156891bab6e2bde235de28", func := "clerestory/clerestorylaw1.OpenNames", spec := "openNames", inPlace := ["internal/bytealg.IndexByteString", "internal/bytealg.IndexString"], named := ["internal/bytealg.MaxLen"], apart := false, narrowed := true }
def OpenNamesUptoSaid : Prop := openNamesUptoRow.holds Try.pinned (OpenSpec.upto openNamesSpec)

/-- 'clerestorylaw1.OpenScopes', WHERE WHAT IT READS IS OF BULK AT MOST 1048576: true; the input reads as it did. -/
def openScopesUptoRow : OpenClaim := { program := "ytlehoolkjkdncaa", sum := "a638ab98299fc4ede6003d7cbad7ed73adb64ada68156891bab6e2bde235de28", func := "clerestory/clerestorylaw1.OpenScopes", spec := "openScopes", inPlace := ["internal/bytealg.IndexByteString", "internal/bytealg.IndexString"], recurses := true, named := ["internal/bytealg.MaxLen"], apart := false, narrowed := true }
def OpenScopesUptoSaid : Prop := openScopesUptoRow.holds Try.pinned (OpenSpec.upto openScopesSpec)

/-- 'clerestorylaw1.EntityFinds', WHERE WHAT IT READS IS OF BULK AT MOST 1048576: true; the input reads as it did. -/
def entityFindsUptoRow : OpenClaim := { program := "ytlehoolkjkdncaa", sum := "a638ab98299fc4ede6003d7cbad7ed73adb64ada68156891bab6e2bde235de28", func := "clerestory/clerestorylaw1.EntityFinds", spec := "entityFinds", inPlace := ["internal/abi.NoEscape"], apart := false, narrowed := true }
def EntityFindsUptoSaid : Prop := entityFindsUptoRow.holds Try.pinned (OpenSpec.upto entityFindsSpec)

/-- 'clerestorylaw1.CharsKinds', WHERE WHAT IT READS IS OF BULK AT MOST 1048576: true; the input reads as it did. -/
def charsKindsUptoRow : OpenClaim := { program := "ytlehoolkjkdncaa", sum := "a638ab98299fc4ede6003d7cbad7ed73adb64ada68156891bab6e2bde235de28", func := "clerestory/clerestorylaw1.CharsKinds", spec := "charsKinds", inPlace := ["internal/abi.NoEscape"], unfollowed := true, recurses := true, apart := false, narrowed := true }
def CharsKindsUptoSaid : Prop := charsKindsUptoRow.holds Try.pinned (OpenSpec.upto charsKindsSpec)

end Rows
end Go.Proofs.Ytlehoolkjkdncaa
