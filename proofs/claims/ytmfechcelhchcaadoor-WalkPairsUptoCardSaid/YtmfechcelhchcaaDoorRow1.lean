/- What every card of this seat takes: the tables as the row lists them, and a world that holds them. -/
import Derived.Test.YtmfechcelhchcaaDoorCards
import Derived.Test.YtmfechcelhchcaaDoorTie
import Derived.Deep.DeepHandedRow
import Derived.MakeChecks
import Derived.Test.YtmfechcelhchcaaDoorRow0
import Derived.Test.YtmfechcelhchcaaDoorTab
set_option linter.unusedSimpArgs false
set_option linter.unusedVariables false
namespace Go.Proofs.YtmfechcelhchcaaDoor
open Go Go.Sim Go.Proofs Go.Proofs.K Go.ChangeShapes Go.WideShapes Go.ChangeAt Go.RowKit Go.Shelf Go.Lib
noncomputable def GT (m : Int) : Glob := fun b => if b = 0 then .pin [aInt m] else if b = 1 then .pin (intsA .u8 firstL) else if b = 2 then .pin (intsA .u8 acceptL) else .dead
theorem GT_max (m : Int) : ∃ m', GT m 0 = .pin [aInt m'] := ⟨m, if_pos rfl⟩
theorem GT_tabs (m : Int) : TabsOK (GT m) := ⟨rfl, rfl⟩
def tren : Ren := ⟨fun n => n, fun | 5 => 5 | 119 => 227 | 138 => 229 | 139 => 230 | n => n, fun | 3 => 1 | 4 => 2 | n => n⟩
theorem utypes : U8Types Tryd.prog tren := { t5 := Tryd.underlying5, t119 := Tryd.underlying227, t138 := Tryd.underlying229, t139 := Tryd.underlying230 }
theorem uextra : U8Extra Tryd.prog tren := { n3 := by kernel_rfl, n4 := by kernel_rfl, y3 := by kernel_rfl, y4 := by kernel_rfl, c5 := by kernel_rfl, c119 := by kernel_rfl, c138 := by kernel_rfl }
def laidL : List (String × DataW Unit) := [("unicode/utf8.acceptRanges", Rows.laid_unicode_utf8_acceptRanges), ("unicode/utf8.first", Rows.laid_unicode_utf8_first)]
theorem acc_eq : (Rows.laid_unicode_utf8_acceptRanges : DataW Unit) = acceptData := by kernel_rfl
theorem tabs_met {W : World} (hL : laidMetH Tryd.prog laidL W) : Utf8Tabs 1 2 W := by
  rw [MakeChecks.laidMetH_plain _ _ _ (by kernel_rfl)] at hL
  have h4 := laidMet.reads hL (n := "unicode/utf8.acceptRanges") (d := Rows.laid_unicode_utf8_acceptRanges) (by simp [laidL])
  have h3 := laidMet.reads hL (n := "unicode/utf8.first") (d := Rows.laid_unicode_utf8_first) (by simp [laidL])
  rw [acc_eq] at h4
  have e3 : Rows.laid_unicode_utf8_first = firstData := Pinned.utf8First_eq
  rw [e3] at h3
  exact utf8Tabs_of_readsT utypes uextra h3 h4
theorem firstL_get {j : Nat} {x : Int} (h : firstL[j]? = some x) : j < 256 ∧ x = (firstT j : Int) := by
  have hl : firstL.length = 256 := by simp [firstL]
  have hj := (List.getElem?_eq_some_iff.1 h).1
  rw [firstL_at j (by omega)] at h
  exact ⟨by omega, (Option.some.inj h).symm⟩
theorem acceptL_get {j : Nat} {x : Int} (h : acceptL[j]? = some x) : j < 32 ∧ ((∃ i, j = 2 * i ∧ x = (accLo i : Int)) ∨ ∃ i, j = 2 * i + 1 ∧ x = (accHi i : Int)) := by
  have hl : acceptL.length = 32 := by simp [acceptL]
  have hj := (List.getElem?_eq_some_iff.1 h).1
  refine ⟨by omega, ?_⟩
  obtain ⟨i, rfl | rfl⟩ : ∃ i, j = 2 * i ∨ j = 2 * i + 1 := ⟨j / 2, by omega⟩
  · rw [acceptL_lo i (by omega)] at h
    exact .inl ⟨i, rfl, (Option.some.inj h).symm⟩
  · rw [acceptL_hi i (by omega)] at h
    exact .inr ⟨i, rfl, (Option.some.inj h).symm⟩
theorem GT_rel {W : World} (hsh : W.ShapedOpen Tryd.prog) (hL : laidMetH Tryd.prog laidL W) : ∃ m, GRel (Pg (GT m)).gl (Sim.g0 W) W := by
  obtain ⟨m, hm⟩ := Go.Proofs.cell_of_shapedOpen_int (g := 0) (t := 3) (zero := #[.int .i64 0]) (k := .i64) hsh (by decide +kernel) (by kernel_rfl) rfl (by kernel_rfl) (by kernel_rfl) Tryd.underlying3
  obtain ⟨T3, T4⟩ := tabs_met hL
  refine ⟨m, fun b => ?_⟩
  show Dat (GT m b) ∧ VRel _ _ _ (GT m b)
  unfold GT
  split
  · rename_i h; subst h; exact ⟨.pin _ (fun c hc => by simp at hc; subst hc; exact .int _ _), VRel.pinInt hm⟩
  · split
    · rename_i h; subst h
      refine ⟨dat_ints _ _, vrel_ints (by decide +kernel) fun j x hj => ?_⟩
      obtain ⟨h1, rfl⟩ := firstL_get hj
      exact T3 j h1
    · split
      · rename_i h; subst h
        refine ⟨dat_ints _ _, vrel_ints (by decide +kernel) fun j x hj => ?_⟩
        obtain ⟨h1, ⟨i, rfl, rfl⟩ | ⟨i, rfl, rfl⟩⟩ := acceptL_get hj
        · exact (T4 i (by omega)).1
        · exact (T4 i (by omega)).2
      · exact ⟨.dead, .dead _⟩
/-- a world for the witness: the settled one, the tables holding what the program's text lays -/
noncomputable def lay8 (l : List Int) : Obj → Obj
  | .cells _ t frozen => .cells (l.map fun x => Value.int .u8 x).toArray t frozen
  | o => o
noncomputable def laidWorld (os : Os) : World :=
  { World.holding Tryd.prog os ⟨#[], #[], []⟩ with heap := ((World.holding Tryd.prog os ⟨#[], #[], []⟩).heap.modify 1 (lay8 firstL)).modify 2 (lay8 acceptL) }
end Go.Proofs.YtmfechcelhchcaaDoor
