/-
  NARROWER THAN 'FOR EVERY INPUT', by the rows' own cells (each row's printed sentence says how): RecordDoes: laid · RecordUndoes: laid · PatchRuns: laid · SpanLives: laid · ApartTouches: laid · ApartFolds: laid · RecordTouches: laid.
  DERIVED. THE GIVEN ROWS OF THIS SEAT. 7 by the template 'for every input the law returns true; each argument reads behind the call as it read before'; 0 by the template 'total and deterministic' (their statements: YtoolkpnnllfhgaaGreatDoorTotals.lean).
  GIVEN WITH THE SEED: the statements are not yours to turn. If you find one false, say at which input.
  Laid BY PROGRAM, IN A SANDBOX (cutbox-rows.mjs): the forced cells as the released guide's own fill.sh prints them over the translation 05ea9877c7406fe0… (all of the seat's roots in one cut). By AI agents, Wed Nov 11 2026. No macro, syntax, notation, axiom, sorry.
-/
import Derived.Test.YtoolkpnnllfhgaaGreatDoorChecked
import GoSem.PinnedTables
import GoSem.Claim
import GoSem.ClaimJoined
import GoSem.ClaimMapViews
import Derived.JoinedTies
import Derived.KernelRfl
namespace Go.Proofs.YtoolkpnnllfhgaaGreatDoor
/- THE CELL 'sum', in the pinned program and in every row, IS THE sha256 OF THE DUMP (.gsa) THAT YtoolkpnnllfhgaaGreatDoorProg.lean LOADS. Nothing in Lean hashes anything: it is a label: what it is worth is what the hold of that sum in a sandbox is worth. -/
noncomputable def Tryz.pinned : Pinned := { name := "ytoolkpnnllfhgaagreatdoor", sum := "05ea9877c7406fe0bc681bd8f8843bbb1c95d173853642688ab90abd0190428d", checked := Tryz.checked }
namespace Rows
def none {H : Type} : Left H := { results := [], args := [] }

/- WHAT THE LISTED PACKAGE-LEVEL VARIABLES READ AS WHEN THE CALL BEGINS. Each datum BY PROGRAM (the guide's laid-datum.mjs) off the statement by which the dump's own 'gosem.cut.vars' lays the variable. In a bare row this is a premise. The card (YtoolkpnnllfhgaaGreatDoorCards.lean) ties it to the program's text. -/
def laid_unicode_utf8_acceptRanges {H : Type} : DataW H := .agg [.agg [.lit (.int .u8 128), .lit (.int .u8 191)], .agg [.lit (.int .u8 160), .lit (.int .u8 191)], .agg [.lit (.int .u8 128), .lit (.int .u8 159)], .agg [.lit (.int .u8 144), .lit (.int .u8 191)], .agg [.lit (.int .u8 128), .lit (.int .u8 143)], .agg [.lit (.int .u8 0), .lit (.int .u8 0)], .agg [.lit (.int .u8 0), .lit (.int .u8 0)], .agg [.lit (.int .u8 0), .lit (.int .u8 0)], .agg [.lit (.int .u8 0), .lit (.int .u8 0)], .agg [.lit (.int .u8 0), .lit (.int .u8 0)], .agg [.lit (.int .u8 0), .lit (.int .u8 0)], .agg [.lit (.int .u8 0), .lit (.int .u8 0)], .agg [.lit (.int .u8 0), .lit (.int .u8 0)], .agg [.lit (.int .u8 0), .lit (.int .u8 0)], .agg [.lit (.int .u8 0), .lit (.int .u8 0)], .agg [.lit (.int .u8 0), .lit (.int .u8 0)]]
/-- One of Go's own tables, pinned by name: the form's constant. -/
def laid_unicode_utf8_first : DataW Unit := Go.Pinned.utf8First

/-- 'clerestorylaw1.RecordDoes': WHATEVER THE INPUT: true; the input reads as it did. -/
def recordDoesSpec : ChangeSpec := { name := "recordDoes", fn := fun _ => fun
  | [d1, d2] => { results := [.lit (.bool true)], args := [d1, d2] }
  | _ => none }
def recordDoesRow : OpenClaim := { program := "ytoolkpnnllfhgaagreatdoor", sum := "05ea9877c7406fe0bc681bd8f8843bbb1c95d173853642688ab90abd0190428d", func := "clerestory/clerestorylaw1.RecordDoes", spec := "recordDoes", inPlace := ["internal/bytealg.IndexByteString", "internal/bytealg.IndexString", "slices.overlaps[int]", "slices.overlaps[clerestory/api.Attr]"], unfollowed := true, recurses := true, named := ["unicode/utf8.first", "unicode/utf8.acceptRanges", "internal/bytealg.MaxLen"], apart := false, laid := [("unicode/utf8.acceptRanges", laid_unicode_utf8_acceptRanges), ("unicode/utf8.first", laid_unicode_utf8_first)] }
def RecordDoesSaid : Prop := recordDoesRow.holds Tryz.pinned (OpenSpec.ofChange recordDoesSpec)

/-- ITS FALSE NEIGHBOUR: 'it returns false'. Refute it at one input. -/
def recordDoesWrong : ChangeSpec := { name := "recordDoes", fn := fun _ => fun
  | [d1, d2] => { results := [.lit (.bool false)], args := [d1, d2] }
  | _ => none }
def RecordDoesWrongFalsely : Prop := recordDoesRow.holds Tryz.pinned (OpenSpec.ofChange recordDoesWrong)

/-- 'clerestorylaw1.RecordUndoes': WHATEVER THE INPUT: true; the input reads as it did. -/
def recordUndoesSpec : ChangeSpec := { name := "recordUndoes", fn := fun _ => fun
  | [d1, d2] => { results := [.lit (.bool true)], args := [d1, d2] }
  | _ => none }
def recordUndoesRow : OpenClaim := { program := "ytoolkpnnllfhgaagreatdoor", sum := "05ea9877c7406fe0bc681bd8f8843bbb1c95d173853642688ab90abd0190428d", func := "clerestory/clerestorylaw1.RecordUndoes", spec := "recordUndoes", inPlace := ["internal/bytealg.IndexByteString", "internal/bytealg.IndexString", "slices.overlaps[int]", "slices.overlaps[clerestory/api.Attr]"], unfollowed := true, recurses := true, named := ["unicode/utf8.first", "unicode/utf8.acceptRanges", "internal/bytealg.MaxLen"], apart := false, laid := [("unicode/utf8.acceptRanges", laid_unicode_utf8_acceptRanges), ("unicode/utf8.first", laid_unicode_utf8_first)] }
def RecordUndoesSaid : Prop := recordUndoesRow.holds Tryz.pinned (OpenSpec.ofChange recordUndoesSpec)

/-- ITS FALSE NEIGHBOUR: 'it returns false'. Refute it at one input. -/
def recordUndoesWrong : ChangeSpec := { name := "recordUndoes", fn := fun _ => fun
  | [d1, d2] => { results := [.lit (.bool false)], args := [d1, d2] }
  | _ => none }
def RecordUndoesWrongFalsely : Prop := recordUndoesRow.holds Tryz.pinned (OpenSpec.ofChange recordUndoesWrong)

/-- 'clerestorylaw1.PatchRuns': WHATEVER THE INPUT: true; the input reads as it did. -/
def patchRunsSpec : ChangeSpec := { name := "patchRuns", fn := fun _ => fun
  | [d1, d2] => { results := [.lit (.bool true)], args := [d1, d2] }
  | _ => none }
def patchRunsRow : OpenClaim := { program := "ytoolkpnnllfhgaagreatdoor", sum := "05ea9877c7406fe0bc681bd8f8843bbb1c95d173853642688ab90abd0190428d", func := "clerestory/clerestorylaw1.PatchRuns", spec := "patchRuns", inPlace := ["internal/bytealg.IndexByteString", "internal/bytealg.IndexString", "slices.overlaps[int]"], unfollowed := true, recurses := true, named := ["unicode/utf8.first", "unicode/utf8.acceptRanges", "internal/bytealg.MaxLen"], apart := false, laid := [("unicode/utf8.acceptRanges", laid_unicode_utf8_acceptRanges), ("unicode/utf8.first", laid_unicode_utf8_first)] }
def PatchRunsSaid : Prop := patchRunsRow.holds Tryz.pinned (OpenSpec.ofChange patchRunsSpec)

/-- ITS FALSE NEIGHBOUR: 'it returns false'. Refute it at one input. -/
def patchRunsWrong : ChangeSpec := { name := "patchRuns", fn := fun _ => fun
  | [d1, d2] => { results := [.lit (.bool false)], args := [d1, d2] }
  | _ => none }
def PatchRunsWrongFalsely : Prop := patchRunsRow.holds Tryz.pinned (OpenSpec.ofChange patchRunsWrong)

/-- 'clerestorylaw1.SpanLives': WHATEVER THE INPUT: true; the input reads as it did. -/
def spanLivesSpec : ChangeSpec := { name := "spanLives", fn := fun _ => fun
  | [d1, d2, d3] => { results := [.lit (.bool true)], args := [d1, d2, d3] }
  | _ => none }
def spanLivesRow : OpenClaim := { program := "ytoolkpnnllfhgaagreatdoor", sum := "05ea9877c7406fe0bc681bd8f8843bbb1c95d173853642688ab90abd0190428d", func := "clerestory/clerestorylaw1.SpanLives", spec := "spanLives", inPlace := ["internal/bytealg.IndexByteString", "internal/bytealg.IndexString", "slices.overlaps[int]"], unfollowed := true, recurses := true, named := ["unicode/utf8.first", "unicode/utf8.acceptRanges", "internal/bytealg.MaxLen"], apart := false, laid := [("unicode/utf8.acceptRanges", laid_unicode_utf8_acceptRanges), ("unicode/utf8.first", laid_unicode_utf8_first)] }
def SpanLivesSaid : Prop := spanLivesRow.holds Tryz.pinned (OpenSpec.ofChange spanLivesSpec)

/-- ITS FALSE NEIGHBOUR: 'it returns false'. Refute it at one input. -/
def spanLivesWrong : ChangeSpec := { name := "spanLives", fn := fun _ => fun
  | [d1, d2, d3] => { results := [.lit (.bool false)], args := [d1, d2, d3] }
  | _ => none }
def SpanLivesWrongFalsely : Prop := spanLivesRow.holds Tryz.pinned (OpenSpec.ofChange spanLivesWrong)

/-- 'clerestorylaw1.ApartTouches': WHATEVER THE INPUT: true; the input reads as it did. -/
def apartTouchesSpec : ChangeSpec := { name := "apartTouches", fn := fun _ => fun
  | [d1, d2, d3] => { results := [.lit (.bool true)], args := [d1, d2, d3] }
  | _ => none }
def apartTouchesRow : OpenClaim := { program := "ytoolkpnnllfhgaagreatdoor", sum := "05ea9877c7406fe0bc681bd8f8843bbb1c95d173853642688ab90abd0190428d", func := "clerestory/clerestorylaw1.ApartTouches", spec := "apartTouches", inPlace := ["internal/bytealg.IndexByteString", "internal/bytealg.IndexString", "slices.overlaps[int]"], unfollowed := true, recurses := true, named := ["unicode/utf8.first", "unicode/utf8.acceptRanges", "internal/bytealg.MaxLen"], apart := false, laid := [("unicode/utf8.acceptRanges", laid_unicode_utf8_acceptRanges), ("unicode/utf8.first", laid_unicode_utf8_first)] }
def ApartTouchesSaid : Prop := apartTouchesRow.holds Tryz.pinned (OpenSpec.ofChange apartTouchesSpec)

/-- ITS FALSE NEIGHBOUR: 'it returns false'. Refute it at one input. -/
def apartTouchesWrong : ChangeSpec := { name := "apartTouches", fn := fun _ => fun
  | [d1, d2, d3] => { results := [.lit (.bool false)], args := [d1, d2, d3] }
  | _ => none }
def ApartTouchesWrongFalsely : Prop := apartTouchesRow.holds Tryz.pinned (OpenSpec.ofChange apartTouchesWrong)

/-- 'clerestorylaw1.ApartFolds': WHATEVER THE INPUT: true; the input reads as it did. -/
def apartFoldsSpec : ChangeSpec := { name := "apartFolds", fn := fun _ => fun
  | [d1, d2] => { results := [.lit (.bool true)], args := [d1, d2] }
  | _ => none }
def apartFoldsRow : OpenClaim := { program := "ytoolkpnnllfhgaagreatdoor", sum := "05ea9877c7406fe0bc681bd8f8843bbb1c95d173853642688ab90abd0190428d", func := "clerestory/clerestorylaw1.ApartFolds", spec := "apartFolds", inPlace := ["internal/bytealg.IndexByteString", "internal/bytealg.IndexString", "slices.overlaps[int]"], unfollowed := true, recurses := true, named := ["unicode/utf8.first", "unicode/utf8.acceptRanges", "internal/bytealg.MaxLen"], apart := false, laid := [("unicode/utf8.acceptRanges", laid_unicode_utf8_acceptRanges), ("unicode/utf8.first", laid_unicode_utf8_first)] }
def ApartFoldsSaid : Prop := apartFoldsRow.holds Tryz.pinned (OpenSpec.ofChange apartFoldsSpec)

/-- ITS FALSE NEIGHBOUR: 'it returns false'. Refute it at one input. -/
def apartFoldsWrong : ChangeSpec := { name := "apartFolds", fn := fun _ => fun
  | [d1, d2] => { results := [.lit (.bool false)], args := [d1, d2] }
  | _ => none }
def ApartFoldsWrongFalsely : Prop := apartFoldsRow.holds Tryz.pinned (OpenSpec.ofChange apartFoldsWrong)

/-- 'clerestorylaw1.RecordTouches': WHATEVER THE INPUT: true; the input reads as it did. -/
def recordTouchesSpec : ChangeSpec := { name := "recordTouches", fn := fun _ => fun
  | [d1, d2] => { results := [.lit (.bool true)], args := [d1, d2] }
  | _ => none }
def recordTouchesRow : OpenClaim := { program := "ytoolkpnnllfhgaagreatdoor", sum := "05ea9877c7406fe0bc681bd8f8843bbb1c95d173853642688ab90abd0190428d", func := "clerestory/clerestorylaw1.RecordTouches", spec := "recordTouches", inPlace := ["internal/bytealg.IndexByteString", "internal/bytealg.IndexString", "slices.overlaps[int]", "slices.overlaps[clerestory/api.Attr]"], unfollowed := true, recurses := true, named := ["unicode/utf8.first", "unicode/utf8.acceptRanges", "internal/bytealg.MaxLen"], apart := false, laid := [("unicode/utf8.acceptRanges", laid_unicode_utf8_acceptRanges), ("unicode/utf8.first", laid_unicode_utf8_first)] }
def RecordTouchesSaid : Prop := recordTouchesRow.holds Tryz.pinned (OpenSpec.ofChange recordTouchesSpec)

/-- ITS FALSE NEIGHBOUR: 'it returns false'. Refute it at one input. -/
def recordTouchesWrong : ChangeSpec := { name := "recordTouches", fn := fun _ => fun
  | [d1, d2] => { results := [.lit (.bool false)], args := [d1, d2] }
  | _ => none }
def RecordTouchesWrongFalsely : Prop := recordTouchesRow.holds Tryz.pinned (OpenSpec.ofChange recordTouchesWrong)

/- THE SECOND FORM. 'bulk': how many values and letters a reading holds, each counted each time it is reached (what is shared counts as often as it is met; a slice's spare places count too). A statement '..UptoSaid' is the law's where the arguments, and the package variables that the reading takes, are together of bulk at most 1048576: NARROWER than '..Said'. Prove '..Said' where nothing that the law and all that it calls make is longer than what came in: it says more and counts as full. Else prove '..UptoSaid'. A law counts once. -/
mutual
def uptoBulk {H : Type} : DataW H → Nat
  | .lit (.string bytes) => bytes.length + 1
  | .lit _ => 1
  | .nil => 1
  | .ptr d => uptoBulk d + 1
  | .slice elems spare => uptoBulkAll elems + uptoBulkAll spare + 1
  | .agg parts => uptoBulkAll parts + 1
  | .iface _ d => uptoBulk d + 1
  | .map entries => uptoBulkEntries entries + 1
  | .held _ => 1
def uptoBulkAll {H : Type} : List (DataW H) → Nat
  | [] => 0
  | d :: r => uptoBulk d + uptoBulkAll r
def uptoBulkEntries {H : Type} : List (Lit × DataW H) → Nat
  | [] => 0
  | x :: r => uptoBulkEntry x + uptoBulkEntries r
def uptoBulkEntry {H : Type} : Lit × DataW H → Nat
  | (.string bytes, d) => bytes.length + uptoBulk d + 1
  | (_, d) => uptoBulk d + 1
 end
def uptoSmall : (H : Type) → List (DataW H) → Bool := fun _ ds => decide (uptoBulkAll ds ≤ 1048576)
def OpenSpec.upto (s : _root_.Go.ChangeSpec) : _root_.Go.OpenSpec := { _root_.Go.OpenSpec.ofChange s with cond := some uptoSmall }

/-- 'clerestorylaw1.RecordDoes', WHERE WHAT IT READS IS OF BULK AT MOST 1048576: true; the input reads as it did. -/
def recordDoesUptoRow : OpenClaim := { program := "ytoolkpnnllfhgaagreatdoor", sum := "05ea9877c7406fe0bc681bd8f8843bbb1c95d173853642688ab90abd0190428d", func := "clerestory/clerestorylaw1.RecordDoes", spec := "recordDoes", inPlace := ["internal/bytealg.IndexByteString", "internal/bytealg.IndexString", "slices.overlaps[int]", "slices.overlaps[clerestory/api.Attr]"], unfollowed := true, recurses := true, named := ["unicode/utf8.first", "unicode/utf8.acceptRanges", "internal/bytealg.MaxLen"], apart := false, laid := [("unicode/utf8.acceptRanges", laid_unicode_utf8_acceptRanges), ("unicode/utf8.first", laid_unicode_utf8_first)], narrowed := true }
def RecordDoesUptoSaid : Prop := recordDoesUptoRow.holds Tryz.pinned (OpenSpec.upto recordDoesSpec)

/-- 'clerestorylaw1.RecordUndoes', WHERE WHAT IT READS IS OF BULK AT MOST 1048576: true; the input reads as it did. -/
def recordUndoesUptoRow : OpenClaim := { program := "ytoolkpnnllfhgaagreatdoor", sum := "05ea9877c7406fe0bc681bd8f8843bbb1c95d173853642688ab90abd0190428d", func := "clerestory/clerestorylaw1.RecordUndoes", spec := "recordUndoes", inPlace := ["internal/bytealg.IndexByteString", "internal/bytealg.IndexString", "slices.overlaps[int]", "slices.overlaps[clerestory/api.Attr]"], unfollowed := true, recurses := true, named := ["unicode/utf8.first", "unicode/utf8.acceptRanges", "internal/bytealg.MaxLen"], apart := false, laid := [("unicode/utf8.acceptRanges", laid_unicode_utf8_acceptRanges), ("unicode/utf8.first", laid_unicode_utf8_first)], narrowed := true }
def RecordUndoesUptoSaid : Prop := recordUndoesUptoRow.holds Tryz.pinned (OpenSpec.upto recordUndoesSpec)

/-- 'clerestorylaw1.PatchRuns', WHERE WHAT IT READS IS OF BULK AT MOST 1048576: true; the input reads as it did. -/
def patchRunsUptoRow : OpenClaim := { program := "ytoolkpnnllfhgaagreatdoor", sum := "05ea9877c7406fe0bc681bd8f8843bbb1c95d173853642688ab90abd0190428d", func := "clerestory/clerestorylaw1.PatchRuns", spec := "patchRuns", inPlace := ["internal/bytealg.IndexByteString", "internal/bytealg.IndexString", "slices.overlaps[int]"], unfollowed := true, recurses := true, named := ["unicode/utf8.first", "unicode/utf8.acceptRanges", "internal/bytealg.MaxLen"], apart := false, laid := [("unicode/utf8.acceptRanges", laid_unicode_utf8_acceptRanges), ("unicode/utf8.first", laid_unicode_utf8_first)], narrowed := true }
def PatchRunsUptoSaid : Prop := patchRunsUptoRow.holds Tryz.pinned (OpenSpec.upto patchRunsSpec)

/-- 'clerestorylaw1.SpanLives', WHERE WHAT IT READS IS OF BULK AT MOST 1048576: true; the input reads as it did. -/
def spanLivesUptoRow : OpenClaim := { program := "ytoolkpnnllfhgaagreatdoor", sum := "05ea9877c7406fe0bc681bd8f8843bbb1c95d173853642688ab90abd0190428d", func := "clerestory/clerestorylaw1.SpanLives", spec := "spanLives", inPlace := ["internal/bytealg.IndexByteString", "internal/bytealg.IndexString", "slices.overlaps[int]"], unfollowed := true, recurses := true, named := ["unicode/utf8.first", "unicode/utf8.acceptRanges", "internal/bytealg.MaxLen"], apart := false, laid := [("unicode/utf8.acceptRanges", laid_unicode_utf8_acceptRanges), ("unicode/utf8.first", laid_unicode_utf8_first)], narrowed := true }
def SpanLivesUptoSaid : Prop := spanLivesUptoRow.holds Tryz.pinned (OpenSpec.upto spanLivesSpec)

/-- 'clerestorylaw1.ApartTouches', WHERE WHAT IT READS IS OF BULK AT MOST 1048576: true; the input reads as it did. -/
def apartTouchesUptoRow : OpenClaim := { program := "ytoolkpnnllfhgaagreatdoor", sum := "05ea9877c7406fe0bc681bd8f8843bbb1c95d173853642688ab90abd0190428d", func := "clerestory/clerestorylaw1.ApartTouches", spec := "apartTouches", inPlace := ["internal/bytealg.IndexByteString", "internal/bytealg.IndexString", "slices.overlaps[int]"], unfollowed := true, recurses := true, named := ["unicode/utf8.first", "unicode/utf8.acceptRanges", "internal/bytealg.MaxLen"], apart := false, laid := [("unicode/utf8.acceptRanges", laid_unicode_utf8_acceptRanges), ("unicode/utf8.first", laid_unicode_utf8_first)], narrowed := true }
def ApartTouchesUptoSaid : Prop := apartTouchesUptoRow.holds Tryz.pinned (OpenSpec.upto apartTouchesSpec)

/-- 'clerestorylaw1.ApartFolds', WHERE WHAT IT READS IS OF BULK AT MOST 1048576: true; the input reads as it did. -/
def apartFoldsUptoRow : OpenClaim := { program := "ytoolkpnnllfhgaagreatdoor", sum := "05ea9877c7406fe0bc681bd8f8843bbb1c95d173853642688ab90abd0190428d", func := "clerestory/clerestorylaw1.ApartFolds", spec := "apartFolds", inPlace := ["internal/bytealg.IndexByteString", "internal/bytealg.IndexString", "slices.overlaps[int]"], unfollowed := true, recurses := true, named := ["unicode/utf8.first", "unicode/utf8.acceptRanges", "internal/bytealg.MaxLen"], apart := false, laid := [("unicode/utf8.acceptRanges", laid_unicode_utf8_acceptRanges), ("unicode/utf8.first", laid_unicode_utf8_first)], narrowed := true }
def ApartFoldsUptoSaid : Prop := apartFoldsUptoRow.holds Tryz.pinned (OpenSpec.upto apartFoldsSpec)

/-- 'clerestorylaw1.RecordTouches', WHERE WHAT IT READS IS OF BULK AT MOST 1048576: true; the input reads as it did. -/
def recordTouchesUptoRow : OpenClaim := { program := "ytoolkpnnllfhgaagreatdoor", sum := "05ea9877c7406fe0bc681bd8f8843bbb1c95d173853642688ab90abd0190428d", func := "clerestory/clerestorylaw1.RecordTouches", spec := "recordTouches", inPlace := ["internal/bytealg.IndexByteString", "internal/bytealg.IndexString", "slices.overlaps[int]", "slices.overlaps[clerestory/api.Attr]"], unfollowed := true, recurses := true, named := ["unicode/utf8.first", "unicode/utf8.acceptRanges", "internal/bytealg.MaxLen"], apart := false, laid := [("unicode/utf8.acceptRanges", laid_unicode_utf8_acceptRanges), ("unicode/utf8.first", laid_unicode_utf8_first)], narrowed := true }
def RecordTouchesUptoSaid : Prop := recordTouchesUptoRow.holds Tryz.pinned (OpenSpec.upto recordTouchesSpec)

end Rows
end Go.Proofs.YtoolkpnnllfhgaaGreatDoor
