/- Documents as they are handed in: readers. -/
import Derived.Test.YtmfechcelhchcaaDoorRow0
import Derived.Test.YtmfechcelhchcaaDoorDom0
set_option linter.unusedSimpArgs false
set_option linter.unusedVariables false
namespace Go.Proofs.YtmfechcelhchcaaDoor
open Go Go.Sim Go.Proofs Go.Proofs.K Go.ChangeShapes Go.WideShapes Go.ChangeAt Go.RowKit
variable {H : Type} {enc : TypeId × Value → H} {w : World}
def goodA (k : Nat) (x : HAttr) : Prop := x.name.length ≤ k ∧ x.value.length ≤ k
theorem mA : Mono goodA := fun _ _ _ h1 h2 => ⟨Nat.le_trans h2.1 h1, Nat.le_trans h2.2 h1⟩
theorem rAttr : Rdr enc Tryd.prog w Rows.uptoBulk 122 eAttr goodA := by
  have hB := bulk H
  have r := Rdr.struct (eh := enc) (w := w) hB Tryd.underlying122 (by kernel_rfl) (.cons (sz := 1) rfl (by kernel_rfl) mStr rStr (.cons (sz := 1) rfl (by kernel_rfl) mStr rStr (.nil _)))
  exact r.map (fun p => ⟨p.1, p.2.1⟩) (fun _ => rfl) (fun _ _ h => ⟨h.1, h.2.1⟩)
def goodN (k : Nat) (x : HNode) : Prop := x.name.length ≤ k ∧ (x.attrs.length ≤ k ∧ ∀ a ∈ x.attrs, goodA k a) ∧ x.text.length ≤ k ∧ x.kids.length ≤ k
theorem mN : Mono goodN := fun _ _ _ h1 h2 => ⟨Nat.le_trans h2.1 h1, ⟨Nat.le_trans h2.2.1.1 h1, fun a ha => mA _ _ _ h1 (h2.2.1.2 a ha)⟩, Nat.le_trans h2.2.2.1 h1, Nat.le_trans h2.2.2.2 h1⟩
theorem rNode : Rdr enc Tryd.prog w Rows.uptoBulk 43 eNode goodN := by
  have hB := bulk H
  have ra := Rdr.slice (eh := enc) (w := w) hB mA (sz := 2) (enc := eAttr) Tryd.underlying41 (by kernel_rfl) (by decide) (fun _ => rfl) (rAttr (H := H))
  have r := Rdr.struct (eh := enc) (w := w) hB Tryd.underlying43 (by kernel_rfl) (.cons (sz := 1) rfl (by kernel_rfl) mInt rInt (.cons (sz := 1) rfl (by kernel_rfl) mStr rStr
    (.cons (sz := 1) rfl (by kernel_rfl) (fun _ _ _ h1 h2 => ⟨Nat.le_trans h2.1 h1, fun a ha => mA _ _ _ h1 (h2.2 a ha)⟩) ra (.cons (sz := 1) rfl (by kernel_rfl) mStr rStr (.cons (sz := 1) rfl (by kernel_rfl) mInt rInt
    (.cons (sz := 1) rfl (by kernel_rfl) (fun _ _ _ h1 h2 => ⟨Nat.le_trans h2.1 h1, h2.2⟩) rInts (.nil _)))))))
  exact r.map (fun p => ⟨p.1, p.2.1, p.2.2.1, p.2.2.2.1, p.2.2.2.2.1, p.2.2.2.2.2.1⟩) (fun _ => rfl) (fun _ _ h => ⟨h.2.1, h.2.2.1, h.2.2.2.1, h.2.2.2.2.2.1.1⟩)
def goodD (k : Nat) (x : HDoc) : Prop := x.nodes.length ≤ k ∧ ∀ n ∈ x.nodes, goodN k n
theorem rDoc : Rdr enc Tryd.prog w Rows.uptoBulk 24 eDoc goodD := by
  have hB := bulk H
  have ra := Rdr.slice (eh := enc) (w := w) hB mN (sz := 6) (enc := eNode) Tryd.underlying22 (by kernel_rfl) (by decide) (fun _ => rfl) (rNode (H := H))
  have r := Rdr.struct (eh := enc) (w := w) hB Tryd.underlying24 (by kernel_rfl) (.cons (sz := 1) rfl (by kernel_rfl) (fun _ _ _ h1 h2 => ⟨Nat.le_trans h2.1 h1, fun a ha => mN _ _ _ h1 (h2.2 a ha)⟩) ra (.cons (sz := 1) rfl (by kernel_rfl) (fun _ _ _ _ _ => trivial) rBool (.nil _)))
  exact r.map (fun p => ⟨p.1, p.2.1⟩) (fun _ => rfl) (fun _ _ h => h.1)
theorem docSm_of {k : Nat} {d : HDoc} (hk : k ≤ 1073741824) (g : goodD k d) : DocSm d :=
  ⟨Nat.le_trans g.1 hk, fun x hx => by
    obtain ⟨g1, ⟨g2, g3⟩, g4, g5⟩ := g.2 x hx
    exact ⟨Nat.le_trans g1 hk, Nat.le_trans g2 hk, fun a ha => ⟨Nat.le_trans (g3 a ha).1 hk, Nat.le_trans (g3 a ha).2 hk⟩, Nat.le_trans g4 hk, Nat.le_trans g5 hk⟩⟩
end Go.Proofs.YtmfechcelhchcaaDoor
