/- What every row of this seat takes: the measure of what is read, and readers of plain types. -/
import Derived.Test.YtmfechcelhchcaaDoorRows
import Derived.Test.YtmfechcelhchcaaDoorSimLaw
import Derived.Test.YtmfechcelhchcaaDoorBase
import Derived.WalkKit
import Derived.ProofKit
import Derived.OpenShut
import Derived.JoinedCond
set_option linter.unusedSimpArgs false
set_option linter.unusedVariables false
namespace Go.Proofs.YtmfechcelhchcaaDoor
open Go Go.Sim Go.Proofs Go.ChangeShapes Go.WideShapes Go.ChangeAt Go.RowKit

theorem own : ownKnob Tryd.prog.godebug = none := by kernel_rfl

theorem bulkAll_mem {H : Type} {d : DataW H} {l : List (DataW H)} (h : d ∈ l) : Rows.uptoBulk d ≤ Rows.uptoBulkAll l := by
  induction l with
  | nil => cases h
  | cons x r ih =>
    simp only [Rows.uptoBulkAll]
    rcases List.mem_cons.1 h with e | e
    · subst e; omega
    · have := ih e; omega
theorem bulk_pos {H : Type} (d : DataW H) : 1 ≤ Rows.uptoBulk d := by
  cases d with
  | lit l => cases l <;> simp [Rows.uptoBulk]
  | _ => simp [Rows.uptoBulk]
theorem bulkAll_len {H : Type} (l : List (DataW H)) : l.length ≤ Rows.uptoBulkAll l := by
  induction l with
  | nil => simp [Rows.uptoBulkAll]
  | cons x r ih => have := bulk_pos x; simp only [Rows.uptoBulkAll, List.length_cons]; omega
theorem bulk (H : Type) : Bulk (Rows.uptoBulk (H := H)) where
  str l := by simp [Rows.uptoBulk]
  len es sp := by have := bulkAll_len es; simp only [Rows.uptoBulk]; omega
  elem es sp d h := by have := bulkAll_mem h; simp only [Rows.uptoBulk]; omega
  part ps d h := by have := bulkAll_mem h; simp only [Rows.uptoBulk]; omega

noncomputable def G0 : Glob := fun _ => .dead
theorem GRel.g0 (W : World) : GRel (K.Pg G0).gl (Sim.g0 W) W := fun _ => ⟨.dead, .dead _⟩
variable {H : Type} {enc : TypeId × Value → H} {w : World}
theorem mStr : Mono (fun k (l : List UInt8) => l.length ≤ k) := fun _ _ _ h1 h2 => Nat.le_trans h2 h1
theorem mInt {k : IntKind} : Mono (fun (_ : Nat) (n : Int) => (Lit.int k n).wf = true) := fun _ _ _ _ h => h
theorem mBool : Mono (fun (_ : Nat) (_ : Bool) => True) := fun _ _ _ _ h => h
theorem mLen {α : Type} : Mono (fun k (l : List α) => l.length ≤ k) := fun _ _ _ h1 h2 => Nat.le_trans h2 h1
theorem mAll {α : Type} {p : Nat → α → Prop} (h : Mono p) : Mono (fun k (l : List α) => l.length ≤ k ∧ ∀ a ∈ l, p k a) := fun _ _ _ h1 h2 => ⟨Nat.le_trans h2.1 h1, fun a ha => h _ _ a h1 (h2.2 a ha)⟩
theorem rInt : Rdr enc Tryd.prog w Rows.uptoBulk 3 eInt (fun _ n => (Lit.int .i64 n).wf = true) := Rdr.int Tryd.underlying3
theorem rBool : Rdr enc Tryd.prog w Rows.uptoBulk 4 (fun b : Bool => [.bool b]) (fun _ _ => True) := Rdr.bool Tryd.underlying4
theorem rStr : Rdr enc Tryd.prog w Rows.uptoBulk 9 (fun l : List UInt8 => [.str l]) (fun k l => l.length ≤ k) := Rdr.str (bulk H) Tryd.underlying9
theorem rInts : Rdr enc Tryd.prog w Rows.uptoBulk 31 (fun l : List Int => [sl eInt l]) (fun k l => l.length ≤ k ∧ ∀ x ∈ l, (Lit.int .i64 x).wf = true) :=
  Rdr.slice (bulk H) mInt (sz := 1) (enc := eInt) Tryd.underlying31 (by kernel_rfl) (by decide) (fun _ => rfl) rInt
end Go.Proofs.YtmfechcelhchcaaDoor
