/- Documents: what the contracts speak in. -/
import Derived.Test.YtmfechcelhchcaaDoorAtt
set_option linter.unusedSimpArgs false
set_option linter.unusedVariables false
namespace Go.Proofs.K
open Go Go.Sim Go.Proofs
variable {G : Glob}

structure HNode where
  kind : Int
  name : List UInt8
  attrs : List HAttr
  text : List UInt8
  parent : Int
  kids : List Int
deriving DecidableEq, Inhabited
def eNode (x : HNode) : List AVal := [aInt x.kind, .str x.name, sl eAttr x.attrs, .str x.text, aInt x.parent, sl eInt x.kids]
instance : LenE eNode 6 := ⟨fun _ => rfl⟩
structure HDoc where
  nodes : List HNode
  quirks : Bool
deriving DecidableEq, Inhabited
def eDoc (d : HDoc) : List AVal := [sl eNode d.nodes, .bool d.quirks]
instance : LenE eDoc 2 := ⟨fun _ => rfl⟩
/-- the node of a number -/
def nd (d : HDoc) (n : Int) : HNode := nth d.nodes n.toNat
/-- what is read is not too great -/
structure NodeSm (x : HNode) : Prop where
  name : x.name.length ≤ 1073741824
  attrs : x.attrs.length ≤ 1073741824
  each : ∀ a ∈ x.attrs, a.name.length ≤ 1073741824 ∧ a.value.length ≤ 1073741824
  text : x.text.length ≤ 1073741824
  kids : x.kids.length ≤ 1073741824
structure DocSm (d : HDoc) : Prop where
  len : d.nodes.length ≤ 1073741824
  each : ∀ x ∈ d.nodes, NodeSm x
theorem nodeSm_default : NodeSm default := ⟨by decide, by decide, (fun a ha => by cases ha), by decide, by decide⟩
theorem nth_def {α : Type} [Inhabited α] {l : List α} {k : Nat} (h : ¬ k < l.length) : nth l k = default := by
  unfold nth; rw [List.getD_eq_getElem?_getD, List.getElem?_eq_none (by omega)]; rfl
theorem DocSm.nth {d : HDoc} (h : DocSm d) (k : Nat) : NodeSm (nth d.nodes k) := by
  by_cases hk : k < d.nodes.length
  · exact h.each _ (nth_mem' hk)
  · rw [nth_def hk]; exact nodeSm_default
theorem DocSm.nd {d : HDoc} (h : DocSm d) (n : Int) : NodeSm (nd d n) := h.nth _

/-! ## the first fault of some -/
def fe : Nat → (Nat → Int) → Int
  | 0, _ => 0
  | n + 1, f => if fe n f ≠ 0 then fe n f else f n
theorem fe_none {n : Nat} {f : Nat → Int} (h : ∀ j, j < n → f j = 0) : fe n f = 0 := by
  induction n with
  | zero => rfl
  | succ n ih => unfold fe; rw [if_neg (by rw [ih fun j hj => h j (by omega)]; simp)]; exact h n (by omega)
theorem fe_some {n k : Nat} {f : Nat → Int} (hk : k < n) (h1 : ∀ j, j < k → f j = 0) (h2 : f k ≠ 0) : fe n f = f k := by
  induction n with
  | zero => omega
  | succ n ih =>
    unfold fe
    by_cases hkn : k = n
    · subst hkn; rw [if_neg (by rw [fe_none h1]; simp)]
    · have := ih (by omega); rw [this, if_pos h2]
theorem fe_zero {n : Nat} {f : Nat → Int} (h : fe n f = 0) : ∀ j, j < n → f j = 0 := by
  induction n with
  | zero => intro j hj; omega
  | succ n ih =>
    unfold fe at h
    split at h
    · rename_i h1; exact absurd h h1
    · rename_i h1
      have h1 : fe n f = 0 := by simpa using h1
      intro j hj
      by_cases hjn : j = n
      · subst hjn; exact h
      · exact ih h1 j (by omega)
theorem fe_iff {n : Nat} {f : Nat → Int} : fe n f = 0 ↔ ∀ j, j < n → f j = 0 := ⟨fe_zero, fe_none⟩
theorem fe_cases (n : Nat) (f : Nat → Int) : (∀ j, j < n → f j = 0) ∨ ∃ k, k < n ∧ (∀ j, j < k → f j = 0) ∧ f k ≠ 0 := by
  induction n with
  | zero => exact .inl fun j hj => by omega
  | succ n ih =>
    rcases ih with h | ⟨k, h1, h2, h3⟩
    · by_cases hn : f n = 0
      · exact .inl fun j hj => by
          by_cases hjn : j = n
          · subst hjn; exact hn
          · exact h j (by omega)
      · exact .inr ⟨n, by omega, h, hn⟩
    · exact .inr ⟨k, by omega, h2, h3⟩
theorem fe_congr {n : Nat} {f g : Nat → Int} (h : ∀ k, k < n → (∀ j, j < k → f j = 0) → f k = g k) : fe n f = fe n g := by
  rcases fe_cases n f with h0 | ⟨k, h1, h2, h3⟩
  · rw [fe_none h0, fe_none fun j hj => by rw [← h j hj fun i hi => h0 i (by omega)]; exact h0 j hj]
  · rw [fe_some h1 h2 h3, fe_some h1 (fun j hj => by rw [← h j (by omega) fun i hi => h2 i (by omega)]; exact h2 j hj) (by rw [← h k h1 h2]; exact h3), h k h1 h2]

/-! ## what is wrong with a document -/
def signB (b : UInt8) : Bool := (decide (97 ≤ b.toNat) && decide (b.toNat ≤ 122)) || ((decide (48 ≤ b.toNat) && decide (b.toNat ≤ 57)) || (b == 45 || (b == 95 || b == 58)))
def firstB (element : Bool) (b : UInt8) : Bool := (decide (97 ≤ b.toNat) && decide (b.toNat ≤ 122)) || (!element && (b == 45 || b == 95))
def nameOK (element : Bool) (s : List UInt8) : Bool := decide (1 ≤ s.length) && (decide (s.length ≤ 40) && (firstB element (s.getD 0 0) && s.all signB))
/-- the place of an attribute; -1: there is none -/
def attrAt (l : List HAttr) (name : List UInt8) : Int := idxM (fun a => a.name == name) l
def attrE (l : List HAttr) (i : Nat) : Int :=
  if nameOK false (nth l i).name = false then 3 else if 400 < (nth l i).value.length then 2 else if 0 ≤ attrAt (l.take i) (nth l i).name then 3 else 0
def attrsE (l : List HAttr) : Int := if 12 < l.length then 2 else fe l.length (attrE l)
def bareM (x : HNode) : Bool :=
  (decide (x.kind = 2) || decide (x.kind = 5) || decide (x.name = [])) && (decide (x.kind = 2) || decide (x.attrs = [])) && (decide (x.kind = 3) || decide (x.kind = 4) || decide (x.text = [])) && (decide (x.kind = 1) || decide (x.kind = 2) || decide (x.kids = []))
def nodeE (x : HNode) : Int :=
  if x.kind < 1 ∨ 5 < x.kind ∨ bareM x = false then 7 else if x.kind = 2 ∧ nameOK true x.name = false then 3
  else if attrsE x.attrs ≠ 0 then attrsE x.attrs else if 400 < x.text.length ∨ 400 < x.name.length then 2 else 0
def inD (d : HDoc) (n : Int) : Prop := 0 ≤ n ∧ n < d.nodes.length
instance (d : HDoc) (n : Int) : Decidable (inD d n) := by unfold inD; infer_instance
def headE (d : HDoc) (i : Nat) : Int := if ¬ ((nth d.nodes i).kind = 1 ↔ i = 0) then 3 else nodeE (nth d.nodes i)
def kidE (d : HDoc) (i k : Nat) : Int :=
  let kid := nth (nth d.nodes i).kids k
  if ¬ inD d kid ∨ (nd d kid).parent ≠ i ∨ kid ∈ (nth d.nodes i).kids.take k then 3 else if i = 0 ∧ (nd d kid).kind = 3 then 7 else 0
def kidsE (d : HDoc) (i : Nat) : Int := fe (nth d.nodes i).kids.length (kidE d i)
def parE (d : HDoc) (i : Nat) : Int :=
  let p := (nth d.nodes i).parent
  if p ≠ -1 ∧ (¬ inD d p ∨ (i : Int) ∉ (nd d p).kids) then 3 else 0
/-- how many are above -/
def upF : Nat → HDoc → Int → Nat
  | 0, _, _ => 0
  | f + 1, d, n => if 0 ≤ (nd d n).parent then upF f d (nd d n).parent + 1 else 0
def up (d : HDoc) (n : Int) : Nat := upF (d.nodes.length + 1) d n
def deepE (d : HDoc) (i : Nat) : Int := if d.nodes.length < up d i then 8 else if 40 < up d i then 2 else 0
def docE (d : HDoc) : Int :=
  if 200 < d.nodes.length then 2 else if d.nodes.length = 0 then 3
  else if fe d.nodes.length (headE d) ≠ 0 then fe d.nodes.length (headE d)
  else if fe d.nodes.length (kidsE d) ≠ 0 then fe d.nodes.length (kidsE d)
  else if fe d.nodes.length (parE d) ≠ 0 then fe d.nodes.length (parE d)
  else if (nd d 0).parent ≠ -1 then 3
  else fe d.nodes.length (deepE d)
end Go.Proofs.K
