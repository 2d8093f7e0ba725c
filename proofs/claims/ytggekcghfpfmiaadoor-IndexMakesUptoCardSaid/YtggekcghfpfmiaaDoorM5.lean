/- Texts of this claim, one behind the other. -/
import Derived.Test.YtggekcghfpfmiaaDoorM4
import Derived.Test.YtggekcghfpfmiaaDoorM3
import Derived.Lib.SlicesCompact
import Derived.Shelf.Spec.SlicesInsert
import Derived.Shelf.Spec.SlicesInsertGrow
section
/- Documents of one's own: nodes in a root, lists of each node in roots of their own. -/
set_option linter.unusedSimpArgs false
set_option linter.unusedVariables false
namespace Go.Proofs.K
open Go Go.Sim Go.Proofs
variable {G : Glob}
def rootOf : AVal → Option Nat
  | .osl r _ _ _ => some r
  | _ => none
/-- a list of one's own; or data -/
def OwnS (h : Heap) (ty sz : Nat) (cells : List (List AVal)) (a : AVal) : Prop :=
  (cells = [] ∧ a = .emp) ∨ (a = .slc cells ∧ ∀ e ∈ cells, e.length = sz) ∨ ∃ r es, a = .osl r sz 0 cells.length ∧ h r = some ⟨ty, sz, es⟩ ∧ cells.length ≤ es.length ∧ es.take cells.length = cells
def Mut (a : AVal) : Prop := ∀ es, a ≠ .slc es
theorem OwnS.live {h : Heap} {ty sz : Nat} {cells : List (List AVal)} {a : AVal} (O : OwnS h ty sz cells a) (M : Mut a) : (cells = [] ∧ a = .emp) ∨ ∃ r es, a = .osl r sz 0 cells.length ∧ h r = some ⟨ty, sz, es⟩ ∧ cells.length ≤ es.length ∧ es.take cells.length = cells := by
  rcases O with O | O | O
  · exact .inl O
  · exact absurd O.1 (M _)
  · exact .inr O
theorem OwnS.keep {h h2 : Heap} {ty sz : Nat} {cells : List (List AVal)} {a : AVal} (O : OwnS h ty sz cells a) (hk : ∀ r o, rootOf a = some r → h r = some o → h2 r = some o) : OwnS h2 ty sz cells a := by
  rcases O with O | O | ⟨r, es, ha, hr, h1, h2⟩
  · exact .inl O
  · exact .inr (.inl O)
  · exact .inr (.inr ⟨r, es, ha, hk r _ (by rw [ha]; rfl) hr, h1, h2⟩)
theorem OwnS.of_acc {h h' : Heap} {ty sz : Nat} {cells : List (List AVal)} {a : AVal} (A : Acc h ty sz cells a h') : OwnS h' ty sz cells a ∧ (∀ r, rootOf a = some r → h r = none) ∧ Mut a := by
  rcases A with ⟨h1, h2⟩ | ⟨r, h0, h1, h2⟩
  · exact ⟨.inl ⟨h1, h2⟩, fun r hr => by (rw [h2] at hr; cases hr), fun es e => by rw [h2] at e; cases e⟩
  · exact ⟨.inr (.inr ⟨r, _, h2, h1, Nat.le_refl _, by rw [List.take_length]⟩), fun r' hr => by (rw [h2] at hr; cases hr; exact h0), fun es e => by rw [h2] at e; cases e⟩
theorem OwnS.len {h : Heap} {ty sz : Nat} {cells : List (List AVal)} {a : AVal} (O : OwnS h ty sz cells a) : aLen a = aInt cells.length ∧ okLen a = True := by
  rcases O with ⟨h1, h2⟩ | ⟨h2, _⟩ | ⟨r, es, ha, _⟩
  · subst h1; subst h2; exact ⟨rfl, rfl⟩
  · subst h2; exact ⟨rfl, rfl⟩
  · subst ha; exact ⟨rfl, rfl⟩
theorem OwnS.isV {h : Heap} {ty sz : Nat} {cells : List (List AVal)} {a : AVal} (O : OwnS h ty sz cells a) : isV a = true ∧ cellsOf a = [a] := by
  rcases O with ⟨h1, h2⟩ | ⟨h2, _⟩ | ⟨r, es, ha, _⟩
  · subst h2; exact ⟨rfl, rfl⟩
  · subst h2; exact ⟨rfl, rfl⟩
  · subst ha; exact ⟨rfl, rfl⟩
theorem OwnS.root {h : Heap} {ty sz : Nat} {cells : List (List AVal)} {a : AVal} (O : OwnS h ty sz cells a) {r : Nat} (hr : rootOf a = some r) : ∃ o, h r = some o := by
  rcases O with ⟨h1, h2⟩ | ⟨h2, _⟩ | ⟨r', es, ha, h1, _⟩
  · subst h2; cases hr
  · subst h2; cases hr
  · subst ha; cases hr; exact ⟨_, h1⟩
/-- .. lent to a reader -/
theorem OwnS.vw {α : Type} [Inhabited α] {enc : α → List AVal} {h : Heap} {ty sz : Nat} [LenE enc sz] {l : List α} {a : AVal} (O : OwnS h ty sz (l.map enc) a) : Vw h a (sl enc l) := by
  rcases O with ⟨h1, h2⟩ | ⟨h2, _⟩ | ⟨r, es, ha, hr, h1, h2⟩
  · have : l = [] := by simpa using h1
    subst this; subst h2; exact .emp
  · subst h2; exact .refl _
  · subst ha
    refine .osl r sz 0 _ ⟨ty, sz, es⟩ (l.map enc) hr (by simpa using h1) rfl (fun f hf => by obtain ⟨x, _, rfl⟩ := List.mem_map.1 hf; exact LenE.len x) fun k j e f x y he hf hx hy => ?_
    have hk : k < (l.map enc).length := (List.getElem?_eq_some_iff.1 hf).1
    simp only [Nat.zero_add] at he
    have he' : (es.take (l.map enc).length)[k]? = some e := by rw [List.getElem?_take, if_pos hk]; exact he
    rw [h2] at he'
    rw [he'] at hf
    cases hf
    rw [hx] at hy; cases hy; exact .refl _
def rowA (x : HNode) (a k : AVal) : List AVal := [aInt x.kind, .str x.name, a, .str x.text, aInt x.parent, k]
def rowsA (d : HDoc) (sl : Nat → AVal) : List (List AVal) := (List.range d.nodes.length).map fun i => rowA (nth d.nodes i) (sl (2 * i)) (sl (2 * i + 1))
theorem rowsA_len (d : HDoc) (sl : Nat → AVal) : (rowsA d sl).length = d.nodes.length := by simp [rowsA]
structure Dw (X : List Nat) (h0 h : Heap) (rN : Nat) (d : HDoc) (sl : Nat → AVal) : Prop where
  sub : Sim.Sub h0 h
  nodes : h rN = some ⟨.t 53, 6, rowsA d sl⟩
  new : h0 rN = none ∧ rN ∉ X
  own : ∀ i, i < d.nodes.length → OwnS h 77 2 ((nth d.nodes i).attrs.map eAttr) (sl (2 * i)) ∧ OwnS h 3 1 ((nth d.nodes i).kids.map eInt) (sl (2 * i + 1))
  fresh : ∀ k, k < 2 * d.nodes.length → ∀ r, rootOf (sl k) = some r → h0 r = none ∧ r ≠ rN ∧ r ∉ X
  sep : ∀ j k, j < 2 * d.nodes.length → k < 2 * d.nodes.length → j ≠ k → ∀ r, rootOf (sl j) = some r → rootOf (sl k) ≠ some r
  keep : ∀ r ∈ X, ∃ o, h r = some o
theorem Dw.slot {X : List Nat} {h0 h : Heap} {rN : Nat} {d : HDoc} {sl : Nat → AVal} (E : Dw X h0 h rN d sl) {k : Nat} (hk : k < 2 * d.nodes.length) {r : Nat} (hr : rootOf (sl k) = some r) : ∃ o, h r = some o := by
  have hi : k / 2 < d.nodes.length := by omega
  obtain ⟨h1, h2⟩ := E.own _ hi
  rcases (by omega : k = 2 * (k / 2) ∨ k = 2 * (k / 2) + 1) with h | h
  · rw [h] at hr; exact h1.root hr
  · rw [h] at hr; exact h2.root hr
/-- A node is changed: its row, its lists. -/
theorem Dw.put {X : List Nat} {h0 h h2 : Heap} {rN : Nat} {d : HDoc} {sl sl' : Nat → AVal} (E : Dw X h0 h rN d sl) {i : Nat} (hi : i < d.nodes.length) {x' : HNode}
    (hs : ∀ j, j ≠ 2 * i → j ≠ 2 * i + 1 → sl' j = sl j)
    (hN : h2 rN = some ⟨.t 53, 6, (rowsA d sl).set i (rowA x' (sl' (2 * i)) (sl' (2 * i + 1)))⟩)
    (hk : ∀ r o, h r = some o → r ≠ rN → rootOf (sl (2 * i)) ≠ some r → rootOf (sl (2 * i + 1)) ≠ some r → h2 r = some o)
    (hA : OwnS h2 77 2 (x'.attrs.map eAttr) (sl' (2 * i))) (hK : OwnS h2 3 1 (x'.kids.map eInt) (sl' (2 * i + 1)))
    (hf : ∀ r, rootOf (sl' (2 * i)) = some r ∨ rootOf (sl' (2 * i + 1)) = some r → rootOf (sl (2 * i)) = some r ∨ rootOf (sl (2 * i + 1)) = some r ∨ h r = none)
    (hd : ∀ r, rootOf (sl' (2 * i)) = some r → rootOf (sl' (2 * i + 1)) ≠ some r) : Dw X h0 h2 rN ⟨d.nodes.set i x', d.quirks⟩ sl' := by
  have hl : (d.nodes.set i x').length = d.nodes.length := by simp
  have fr : ∀ r, rootOf (sl' (2 * i)) = some r ∨ rootOf (sl' (2 * i + 1)) = some r → h0 r = none ∧ r ≠ rN ∧ r ∉ X := fun r hr => by
    rcases hf r hr with h | h | h
    · exact E.fresh _ (by omega) r h
    · exact E.fresh _ (by omega) r h
    · refine ⟨E.sub.none h, fun e => ?_, fun hx => ?_⟩
      · rw [e, E.nodes] at h; cases h
      · obtain ⟨o, ho⟩ := E.keep r hx; rw [h] at ho; cases ho
  have oth : ∀ j, j < 2 * d.nodes.length → j ≠ 2 * i → j ≠ 2 * i + 1 → ∀ r, rootOf (sl j) = some r → rootOf (sl' (2 * i)) ≠ some r ∧ rootOf (sl' (2 * i + 1)) ≠ some r := fun j hj h1 h2 r hr => by
    have key : ¬ (rootOf (sl (2 * i)) = some r ∨ rootOf (sl (2 * i + 1)) = some r ∨ h r = none) := by
      rintro (h | h | h)
      · exact E.sep j (2 * i) hj (by omega) h1 r hr h
      · exact E.sep j (2 * i + 1) hj (by omega) h2 r hr h
      · obtain ⟨o, ho⟩ := E.slot hj hr; rw [h] at ho; cases ho
    exact ⟨fun h => key (hf r (.inl h)), fun h => key (hf r (.inr h))⟩
  refine ⟨fun t o ht => ?_, ?_, E.new, fun j hj => ?_, fun k hk' r hr => ?_, fun j k hj hk' hne r hr => ?_, fun r hr => ?_⟩
  · have hne : t ≠ rN := fun e => by rw [e, E.new.1] at ht; cases ht
    refine hk t o (E.sub t o ht) hne (fun h => ?_) (fun h => ?_)
    · have := (E.fresh _ (by omega) t h).1; rw [this] at ht; cases ht
    · have := (E.fresh _ (by omega) t h).1; rw [this] at ht; cases ht
  · rw [hN]
    congr 2
    apply List.ext_getElem?
    intro j
    rw [List.getElem?_set]
    show _ = (rowsA ⟨d.nodes.set i x', d.quirks⟩ sl')[j]?
    unfold rowsA
    simp only [hl]
    by_cases hij : i = j
    · subst hij
      rw [if_pos rfl, if_pos (by simpa using hi), List.getElem?_map, List.getElem?_range hi, Option.map_some, nth_set _ _ _ _ hi, if_pos rfl]
    · rw [if_neg hij]
      by_cases hj : j < d.nodes.length
      · rw [List.getElem?_map, List.getElem?_map, List.getElem?_range hj, Option.map_some, Option.map_some, nth_set _ _ _ _ hi, if_neg (fun e => hij e.symm), hs (2 * j) (by omega) (by omega), hs (2 * j + 1) (by omega) (by omega)]
      · rw [List.getElem?_eq_none (by simp; omega), List.getElem?_eq_none (by simp; omega)]
  · simp only [hl] at hj
    show OwnS h2 _ _ ((nth (d.nodes.set i x') j).attrs.map eAttr) _ ∧ OwnS h2 _ _ ((nth (d.nodes.set i x') j).kids.map eInt) _
    rw [nth_set _ _ _ _ hi]
    by_cases hij : j = i
    · subst hij; rw [if_pos rfl]; exact ⟨hA, hK⟩
    · rw [if_neg hij, hs (2 * j) (by omega) (by omega), hs (2 * j + 1) (by omega) (by omega)]
      obtain ⟨g1, g2⟩ := E.own j hj
      exact ⟨g1.keep fun r o hr ho => hk r o ho (E.fresh _ (by omega) r hr).2.1 (fun h => E.sep (2 * j) (2 * i) (by omega) (by omega) (by omega) r hr h) (fun h => E.sep (2 * j) (2 * i + 1) (by omega) (by omega) (by omega) r hr h),
        g2.keep fun r o hr ho => hk r o ho (E.fresh _ (by omega) r hr).2.1 (fun h => E.sep (2 * j + 1) (2 * i) (by omega) (by omega) (by omega) r hr h) (fun h => E.sep (2 * j + 1) (2 * i + 1) (by omega) (by omega) (by omega) r hr h)⟩
  · simp only [hl] at hk'
    by_cases e1 : k = 2 * i
    · subst e1; exact fr r (.inl hr)
    · by_cases e2 : k = 2 * i + 1
      · subst e2; exact fr r (.inr hr)
      · rw [hs k e1 e2] at hr; exact E.fresh k hk' r hr
  · simp only [hl] at hj hk'
    by_cases j1 : j = 2 * i <;> by_cases j2 : j = 2 * i + 1 <;> by_cases k1 : k = 2 * i <;> by_cases k2 : k = 2 * i + 1
    all_goals first
      | (exfalso; omega)
      | (subst j1; subst k2; exact hd r hr)
      | (subst j2; subst k1; exact fun h => hd r h hr)
      | (subst j1; rw [hs k k1 k2]; exact fun h => (oth k hk' k1 k2 r h).1 hr)
      | (subst j2; rw [hs k k1 k2]; exact fun h => (oth k hk' k1 k2 r h).2 hr)
      | (subst k1; rw [hs j j1 j2] at hr; exact (oth j hj j1 j2 r hr).1)
      | (subst k2; rw [hs j j1 j2] at hr; exact (oth j hj j1 j2 r hr).2)
      | (rw [hs j j1 j2] at hr; rw [hs k k1 k2]; exact E.sep j k hj hk' hne r hr)
  · obtain ⟨o, ho⟩ := E.keep r hr
    refine ⟨o, hk r o ho (fun e => E.new.2 (e ▸ hr)) (fun h => ?_) (fun h => ?_)⟩
    · exact (E.fresh _ (by omega) r h).2.2 hr
    · exact (E.fresh _ (by omega) r h).2.2 hr
/-- a document lent to a reader -/
theorem Dw.vw {X : List Nat} {h0 h : Heap} {rN : Nat} {d : HDoc} {sl' : Nat → AVal} (E : Dw X h0 h rN d sl') : Vw h (.osl rN 6 0 d.nodes.length) (sl eNode d.nodes) := by
  refine Vw.osl0 E.nodes (by simp) (by rw [rowsA_len]; exact Nat.le_refl _) (fun f hf => by obtain ⟨x, _, rfl⟩ := List.mem_map.1 hf; rfl) ?_
  show F2 (F2 (Vw h)) ((rowsA d sl').take d.nodes.length) (d.nodes.map eNode)
  rw [List.take_of_length_le (by rw [rowsA_len]; exact Nat.le_refl _)]
  have key : ∀ (i : Nat), i < d.nodes.length → F2 (Vw h) (rowA (nth d.nodes i) (sl' (2 * i)) (sl' (2 * i + 1))) (eNode (nth d.nodes i)) := fun i hi => by
    obtain ⟨g1, g2⟩ := E.own i hi
    exact .cons (.refl _) (.cons (.refl _) (.cons g1.vw (.cons (.refl _) (.cons (.refl _) (.cons g2.vw .nil)))))
  have e : d.nodes.map eNode = (List.range d.nodes.length).map fun i => eNode (nth d.nodes i) := by
    apply List.ext_getElem?
    intro j
    by_cases hj : j < d.nodes.length
    · rw [List.getElem?_map, List.getElem?_map, List.getElem?_range hj, nth_some hj]; rfl
    · rw [List.getElem?_eq_none (by simp; omega), List.getElem?_eq_none (by simp; omega)]
  rw [e]
  unfold rowsA
  have gen : ∀ l : List Nat, (∀ i ∈ l, i < d.nodes.length) → F2 (F2 (Vw h)) (l.map fun i => rowA (nth d.nodes i) (sl' (2 * i)) (sl' (2 * i + 1))) (l.map fun i => eNode (nth d.nodes i)) := fun l => by
    induction l with
    | nil => intro _; exact .nil
    | cons i l ih => intro hl; exact .cons (key i (hl i List.mem_cons_self)) (ih fun j hj => hl j (List.mem_cons_of_mem _ hj))
  exact gen _ fun i hi => List.mem_range.1 hi
end Go.Proofs.K
end
section
/- Lists that are being built, beside other roots. -/
set_option linter.unusedSimpArgs false
set_option linter.unusedVariables false
namespace Go.Proofs.K
open Go Go.Sim Go.Proofs
variable {G : Glob}
theorem _root_.Go.Sim.Acc.re {h1 h2 h1' h2' : Heap} {ty : TypeId} {sz : Nat} {cells : List (List AVal)} {a : AVal} (A : Acc h1 ty sz cells a h2) (hd : ∀ r o, h1 r = none → h2 r = some o → h1' r = none ∧ h2' r = some o) : Acc h1' ty sz cells a h2' := by
  rcases A with h | ⟨r, h0, h1, h2⟩
  · exact .inl h
  · exact .inr ⟨r, (hd r _ h0 h1).1, (hd r _ h0 h1).2, h2⟩
theorem _root_.Go.Sim.Acc.keepA {h h1 : Heap} {ty : TypeId} {sz : Nat} {cells : List (List AVal)} {a : AVal} (A : Acc h ty sz cells a h1) {r2 : Nat} (hn : rootOf a ≠ some r2) (o : Option AObj) : Acc h ty sz cells a (upd h1 r2 o) := by
  rcases A with q | ⟨r, q0, q1, q2⟩
  · exact .inl q
  · have : r ≠ r2 := fun e => hn (by rw [q2, e]; rfl)
    exact .inr ⟨r, q0, by rw [upd_ne _ _ this]; exact q1, q2⟩
theorem _root_.Go.Sim.Acc.vw {h h' : Heap} {ty : TypeId} {sz : Nat} {cells : List (List AVal)} {a : AVal} (A : Acc h ty sz cells a h') (hl : ∀ f ∈ cells, f.length = sz) : Vw (newH h h') a (.slc cells) := by
  rcases A with ⟨rfl, rfl⟩ | ⟨r, h0, h1, rfl⟩
  · exact .emp
  · exact Vw.osl0 (by rw [newH_none h0]; exact h1) rfl (Nat.le_refl _) hl (by rw [List.take_length]; exact F2.refl (F2.refl .refl) _)
theorem _root_.Go.Sim.Acc.appW {h h' : Heap} {ty : TypeId} {sz b : Nat} {cells es2 : List (List AVal)} {a : AVal} {K : AVal → Heap → Prop} (A : Acc h ty sz cells a h') (S : Sub h h')
    (h1 : (cells.length + es2.length) * b ≤ 140737488355328) (h2 : cells.length + es2.length ≤ 140737488355328)
    (hk : ∀ a' h'', Acc h ty sz (cells ++ es2) a' h'' → Sub h h'' → (∀ r o, h' r = some o → rootOf a ≠ some r → h'' r = some o ∧ rootOf a' ≠ some r) → K a' h'') : Hd (appE ty sz b a es2 h') K .mk := by
  rcases A with ⟨rfl, rfl⟩ | ⟨r, h0, hr, rfl⟩
  · refine ⟨by simpa using h1, by simpa using h2, fun r hr => hk _ _ ?_ (S.upd (S.none hr)) fun x o hx _ => ?_⟩
    · exact .inr ⟨r, S.none hr, by simp, rfl⟩
    · have : x ≠ r := fun e => by rw [e, hr] at hx; cases hx
      exact ⟨by rw [upd_ne _ _ this]; exact hx, fun e => this (by cases e; rfl)⟩
  · refine ⟨rfl, _, hr, rfl, by simp, h1, h2, fun r' hr' => hk _ _ ?_ ?_ fun x o hx hn => ?_⟩
    · have hn : h r' = none := (S.del h0).none hr'
      refine .inr ⟨r', hn, by simp, by simp⟩
    · exact (S.del h0).upd ((S.del h0).none hr')
    · have hxr : x ≠ r := fun e => hn (by rw [e]; rfl)
      have hd : del h' r x = some o := by unfold del; rw [if_neg hxr]; exact hx
      have : x ≠ r' := fun e => by rw [e, hr'] at hd; cases hd
      exact ⟨by rw [upd_ne _ _ this]; exact hd, fun e => this (by cases e; rfl)⟩
end Go.Proofs.K
end
section
/- Words of a class: strings.FieldsFunc with blanks, index.Words, the reference's IndexWords. -/
set_option linter.unusedSimpArgs false
set_option linter.unusedVariables false
namespace Go.Proofs.K
open Go Go.Sim Go.Proofs
variable {G : Glob}
/-! ## fields, plain -/
/-- what has been closed, and where one is open, behind the bytes up to p -/
def fsp (s : List UInt8) : Nat → List (Nat × Nat) × Option Nat
  | 0 => ([], none)
  | p + 1 => if blankI (bt s p) = true then (match (fsp s p).2 with | some a => ((fsp s p).1 ++ [(a, p)], none) | none => fsp s p)
    else match (fsp s p).2 with | some _ => fsp s p | none => ((fsp s p).1, some p)
def spansM (s : List UInt8) : List (Nat × Nat) := match (fsp s s.length).2 with | some a => (fsp s s.length).1 ++ [(a, s.length)] | none => (fsp s s.length).1
def fieldsM (s : List UInt8) : List (List UInt8) := (spansM s).map fun x => seg s x.1 x.2
theorem fsp_bl {s : List UInt8} {p : Nat} (h : blankI (bt s p) = true) : fsp s (p + 1) = match (fsp s p).2 with | some a => ((fsp s p).1 ++ [(a, p)], none) | none => fsp s p := by
  rw [fsp, if_pos h]
theorem fsp_no {s : List UInt8} {p : Nat} (h : blankI (bt s p) = false) : fsp s (p + 1) = match (fsp s p).2 with | some _ => fsp s p | none => ((fsp s p).1, some p) := by
  rw [fsp, if_neg (by rw [h]; decide)]
theorem fsp_on {s : List UInt8} {a q : Nat} (ha : (fsp s q).2 = some a) : ∀ k, (∀ i, q ≤ i → i < q + k → blankI (bt s i) = false) → fsp s (q + k) = fsp s q
  | 0, _ => rfl
  | k + 1, h => by
    have ih := fsp_on ha k fun i h1 h2 => h i h1 (by omega)
    rw [← Nat.add_assoc, fsp_no (h _ (by omega) (by omega)), ih, ha]
/-- a whole sign on -/
theorem fsp_sign {s : List UInt8} {p w : Nat} (hw : 1 ≤ w) (hb : blankI (bt s p) = false) (hc : ∀ i, p < i → i < p + w → blankI (bt s i) = false) : fsp s (p + w) = fsp s (p + 1) := by
  have h1 : ∃ a, (fsp s (p + 1)).2 = some a := by
    rw [fsp_no hb]
    cases h : (fsp s p).2 with
    | some a => exact ⟨a, by simp only [h]⟩
    | none => exact ⟨p, rfl⟩
  obtain ⟨a, ha⟩ := h1
  have := fsp_on ha (w - 1) fun i h1 h2 => hc i (by omega) (by omega)
  rwa [show p + 1 + (w - 1) = p + w by omega] at this
structure FspOK (s : List UInt8) (p : Nat) : Prop where
  len : (fsp s p).1.length ≤ p
  each : ∀ x ∈ (fsp s p).1, x.1 < x.2 ∧ x.2 ≤ p
  cur : ∀ a, (fsp s p).2 = some a → a < p
theorem fsp_is (s : List UInt8) : ∀ p, FspOK s p
  | 0 => ⟨Nat.le_refl _, (fun x hx => by cases hx), (fun a ha => by cases ha)⟩
  | p + 1 => by
    obtain ⟨h1, h2, h3⟩ := fsp_is s p
    cases hb : blankI (bt s p) with
    | true =>
      have e := fsp_bl hb
      cases hq : (fsp s p).2 with
      | some a =>
        rw [hq] at e
        have ha := h3 a hq
        refine ⟨by rw [e]; simp; omega, fun x hx => ?_, fun b hb => by rw [e] at hb; cases hb⟩
        rw [e] at hx
        rcases List.mem_append.1 hx with hx | hx
        · have := h2 x hx; omega
        · simp at hx; subst hx; simp; omega
      | none =>
        rw [hq] at e
        simp only at e
        exact ⟨by rw [e]; omega, fun x hx => by rw [e] at hx; have := h2 x hx; omega, fun b hb => by rw [e, hq] at hb; cases hb⟩
    | false =>
      have e := fsp_no hb
      cases hq : (fsp s p).2 with
      | some a =>
        rw [hq] at e
        simp only at e
        exact ⟨by rw [e]; omega, fun x hx => by rw [e] at hx; have := h2 x hx; omega, fun b hb => by rw [e] at hb; have := h3 b hb; omega⟩
      | none =>
        rw [hq] at e
        exact ⟨by rw [e]; simp; omega, fun x hx => by rw [e] at hx; have := h2 x hx; omega, fun b hb => by rw [e] at hb; cases hb; omega⟩
theorem spansM_is (s : List UInt8) : (spansM s).length ≤ s.length + 1 ∧ ∀ x ∈ spansM s, x.1 < x.2 ∧ x.2 ≤ s.length := by
  obtain ⟨h1, h2, h3⟩ := fsp_is s s.length
  unfold spansM
  cases hq : (fsp s s.length).2 with
  | some a =>
    have := h3 a hq
    refine ⟨by simp; omega, fun x hx => ?_⟩
    rcases List.mem_append.1 hx with hx | hx
    · exact h2 x hx
    · simp at hx; subst hx; simp; omega
  | none => exact ⟨by simp only; omega, h2⟩
/-- a word once -/
def addW (L : List (List UInt8)) (w : List UInt8) : List (List UInt8) := if w = [] ∨ w ∈ L then L else L ++ [w]
def wordsM (s : List UInt8) : List (List UInt8) := (fieldsM s).foldl addW []
/-- the reference's way: words so far, and the one that is open -/
def refW (s : List UInt8) : Nat → List (List UInt8) × List UInt8
  | 0 => ([], [])
  | p + 1 => if blankI (bt s p) = true then (addW (refW s p).1 (refW s p).2, []) else ((refW s p).1, (refW s p).2 ++ [s.getD p 0])
theorem seg_snoc {s : List UInt8} {a p : Nat} (ha : a ≤ p) (hp : p < s.length) : seg s a (p + 1) = seg s a p ++ [s.getD p 0] := by
  unfold seg
  have e : s[p]? = some (s.getD p 0) := by rw [List.getD_eq_getElem?_getD, List.getElem?_eq_getElem hp]; rfl
  rw [List.take_add_one, e, List.drop_append_of_le_length (by rw [List.length_take]; omega)]; rfl
theorem addW_nil (L : List (List UInt8)) : addW L [] = L := if_pos (.inl rfl)
theorem refW_is (s : List UInt8) : ∀ p, p ≤ s.length → refW s p = (((fsp s p).1.map fun x => seg s x.1 x.2).foldl addW [], match (fsp s p).2 with | some a => seg s a p | none => [])
  | 0, _ => rfl
  | p + 1, hp => by
    have ih := refW_is s p (by omega)
    have K := fsp_is s p
    rw [refW, ih]
    cases hb : blankI (bt s p) with
    | true =>
      rw [if_pos rfl, fsp_bl hb]
      cases hq : (fsp s p).2 with
      | some a => simp only [List.map_append, List.foldl_append, List.map_cons, List.map_nil, List.foldl_cons, List.foldl_nil]
      | none => simp only [hq, addW_nil]
    | false =>
      rw [if_neg (by decide), fsp_no hb]
      cases hq : (fsp s p).2 with
      | some a => simp only [hq]; rw [seg_snoc (by have := K.cur a hq; omega) (by omega)]
      | none => simp only [List.nil_append]; rw [seg_snoc (Nat.le_refl _) (by omega), seg_self]; rfl
theorem refW_end (s : List UInt8) : addW (refW s s.length).1 (refW s s.length).2 = wordsM s := by
  rw [refW_is s s.length (Nat.le_refl _)]
  unfold wordsM fieldsM spansM
  cases hq : (fsp s s.length).2 with
  | some a => simp only [List.map_append, List.foldl_append, List.map_cons, List.map_nil, List.foldl_cons, List.foldl_nil]
  | none => simp only [addW_nil]
theorem fieldsM_ne (s : List UInt8) : ∀ w ∈ fieldsM s, w ≠ [] := fun w hw e => by
  obtain ⟨x, hx, rfl⟩ := List.mem_map.1 hw
  have h := (spansM_is s).2 x hx
  have := seg_len (s := s) (a := x.1) (b := x.2) h.2
  rw [e] at this; simp at this; omega
theorem fieldsM_len (s : List UInt8) : (fieldsM s).length ≤ s.length + 1 := by unfold fieldsM; rw [List.length_map]; exact (spansM_is s).1
/-! ## the program's -/
def blW : List UInt8 := [32, 9, 10, 12, 13]
theorem runeAt_small (s : List UInt8) (p : Nat) : (runeAt s p).1 < 2147483648 := by
  show (Utf8.decode ⟨s.toArray⟩ p).1 < 2147483648
  unfold Utf8.decode
  simp only [Utf8.runeError]
  (repeat' split) <;> (simp only) <;> omega
theorem blW_is (b : UInt8) : blW.contains b = blankI b.toNat := of_decide_eq_true (u8_all (p := fun b => decide (blW.contains b = blankI b.toNat)) (by decide +kernel) b)
theorem blankI_hi {b : Int} (h : 128 ≤ b) : blankI b = false := by
  unfold blankI
  simp only [Bool.or_eq_false_iff, beq_eq_false_iff_ne]
  omega
def c26 : SFun := ⟨(.seq (.reg [⟨(some 4), (.mv (.c (.bool false))), none⟩]) (.seq (.reg [⟨(some 5), (.mv (.t 0)), none⟩, ⟨(some 6), (.mv (.t 1)), none⟩, ⟨(some 7), (.pcall 41 [(.t 5), (.t 6)]), none⟩, ⟨(some 8), (.bin .geq (.t 7) (.c (.int .i64 (0)))), none⟩, ⟨(some 4), (.mv (.t 8)), none⟩]) .ret)), [(.tmp 4)]⟩
theorem hc26 : toSF Tryd.prog {pure := [41]} Tryd.f26 = some c26 := by kernel_rfl
theorem hn26 : (Tryd.f26.name == "runtime.NumGoroutine") = false := by kernel_rfl
def c25 : SFun := ⟨(.seq (.reg [⟨(some 2), (.mv (.c (.bool false))), none⟩]) (.seq (.reg [⟨(some 3), (.mv (.t 0)), none⟩, ⟨(some 4), (.pcall 26 [(.c (.str [32, 9, 10, 12, 13])), (.t 3)]), none⟩, ⟨(some 2), (.mv (.t 4)), none⟩]) .ret)), [(.tmp 2)]⟩
theorem hc25 : toSF Tryd.prog {pure := [26]} Tryd.f25 = some c25 := by kernel_rfl
theorem hn25 : (Tryd.f25.name == "runtime.NumGoroutine") = false := by kernel_rfl
theorem words1_ok (c : Nat) (hc : c < 2147483648) : PCalls (Pg G) 25 [.int .i32 c] (.bool (blankI c)) := fun h => by
  have cI := indexRune_ok (G := G) blW c hc (by decide) (by decide)
  have hd : decide (0 ≤ ixR blW c) = blankI c := by
    unfold ixR
    by_cases h1 : c < 128
    · rw [if_pos h1]
      have e1 : (UInt8.ofNat c).toNat = c := by simp; omega
      have e2 := blW_is (UInt8.ofNat c)
      rw [e1] at e2
      rw [← e2]
      cases hb : blW.contains (UInt8.ofNat c) with
      | true => exact decide_eq_true (idxB_some (by simpa using hb))
      | false => exact decide_eq_false (by rw [idxB_none (by simpa using hb)]; decide)
    · rw [if_neg h1, blankI_hi (by omega)]; rfl
  have hK : PCalls (Pg G) 26 [.str blW, .int .i32 c] (.bool (blankI c)) := fun h => by
    refine dcalls_of_vc Tryd.func26 hn26 hc26 (by rw [Tryd.ntmps26]; simp) (by rw [Tryd.ntmps26]; decide) ?_
    simp -dsimp -implicitDefEqProofs (disch := omega) only [VCA, Nat.reduceEqDiff, ↓reduceIte, reduceCtorEq, c26]
    repeat' (first | ((with_reducible refine Br.dec (fun _ => ?_) (fun _ => ?_)) <;> try (exfalso; omega)) | ((with_reducible refine Br.eq (fun _ => ?_) (fun _ => ?_)) <;> try (exfalso; omega)) | ((with_reducible refine Br.ne (fun _ => ?_) (fun _ => ?_)) <;> try (exfalso; omega)) | ((with_reducible refine brNdec (fun _ => ?_) (fun _ => ?_)) <;> try (exfalso; omega)) | ((with_reducible refine brNeq (fun _ => ?_) (fun _ => ?_)) <;> try (exfalso; omega)) | with_reducible refine Br.intro (fun _ => ?_) (fun _ => ?_) | (with_reducible apply pcallE.of; · exact cI) | (with_reducible refine And.intro ?_ ?_; · omega) | simp -dsimp -implicitDefEqProofs (disch := omega) only [VCA, ↓reduceIte, exists_eq_right, hd])
    exact Sub.refl _
  unfold blW at hK
  refine dcalls_of_vc Tryd.func25 hn25 hc25 (by rw [Tryd.ntmps25]; simp) (by rw [Tryd.ntmps25]; decide) ?_
  simp -dsimp -implicitDefEqProofs (disch := omega) only [VCA, ↓reduceIte, reduceCtorEq, c25]
  repeat' (first | ((with_reducible refine Br.dec (fun _ => ?_) (fun _ => ?_)) <;> try (exfalso; omega)) | ((with_reducible refine Br.eq (fun _ => ?_) (fun _ => ?_)) <;> try (exfalso; omega)) | ((with_reducible refine Br.ne (fun _ => ?_) (fun _ => ?_)) <;> try (exfalso; omega)) | ((with_reducible refine brNdec (fun _ => ?_) (fun _ => ?_)) <;> try (exfalso; omega)) | ((with_reducible refine brNeq (fun _ => ?_) (fun _ => ?_)) <;> try (exfalso; omega)) | with_reducible refine Br.intro (fun _ => ?_) (fun _ => ?_) | (with_reducible apply pcallE.of; · exact hK) | (with_reducible refine And.intro ?_ ?_; · omega) | simp -dsimp -implicitDefEqProofs (disch := omega) only [VCA, ↓reduceIte, exists_eq_right])
  exact Sub.refl _
theorem sign_bl {s : List UInt8} {p : Nat} (hp : p < s.length) : blankI ((runeAt s p).1 : Int) = blankI (bt s p) := by
  have h := runeAt_is s p hp
  have h0 : 0 ≤ bt s p := by unfold bt; omega
  by_cases h1 : bt s p < 128
  · rw [h.1 h1]
    show blankI (((bt s p).toNat : Nat) : Int) = _
    rw [show (((bt s p).toNat : Nat) : Int) = bt s p by omega]
  · rw [blankI_hi (b := bt s p) (by omega)]
    rcases h.2.1 (by omega) with h2 | h2
    · rw [h2]; decide
    · exact blankI_hi (by omega)
def eSpan (x : Nat × Nat) : List AVal := [aInt x.1, aInt x.2]
/-- where a field is open: its place, or less than nothing -/
def StI (o : Option Nat) (a : AVal) : Prop := match o with | some p => a = aInt p | none => ∃ z : Int, z < 0 ∧ -1000000000 ≤ z ∧ a = aInt z
/-- the spans so far, and the range over the text -/
structure FJ (h h' : Heap) (s : List UInt8) (p : Nat) (ri : Nat) (a5 a6 : AVal) (q : List (Nat × Nat) × Option Nat) : Prop where
  sub : Sim.Sub h h'
  it : h' ri = some (itO s p)
  itn : h ri = none
  sp : ∃ r es, a5 = .osl r 2 0 q.1.length ∧ h' r = some ⟨.t 84, 2, es⟩ ∧ q.1.length ≤ es.length ∧ es.take q.1.length = q.1.map eSpan ∧ h r = none ∧ r ≠ ri
  st : StI q.2 a6
theorem FJ.app {h HH : Heap} {s : List UInt8} {p ri r r' n : Nat} {a6 : AVal} {rows : List (List AVal)} {q : List (Nat × Nat) × Option Nat} (SH : Sim.Sub h HH) (hit : HH ri = some (itO s p)) (itn : h ri = none) (hri : r ≠ ri) (hrn : h r = none) (hr' : del HH r r' = none)
    (hq : rows = q.1.map eSpan) (hn : n = q.1.length) (st : StI q.2 a6) : FJ h (upd (del HH r) r' (some ⟨.t 84, 2, rows⟩)) s p ri (.osl r' 2 0 n) a6 q := by
  have hd : del HH r ri = some (itO s p) := by unfold del; rw [if_neg (fun e => hri e.symm)]; exact hit
  have h1 : r' ≠ ri := fun e => by rw [e, hd] at hr'; cases hr'
  have S2 := SH.del hrn
  refine ⟨S2.upd (S2.none hr'), by rw [upd_ne _ _ (fun e => h1 e.symm)]; exact hd, itn, ⟨r', rows, by rw [hn], upd_same _ _ _, ?_, ?_, S2.none hr', h1⟩, st⟩
  · rw [hq, List.length_map]; exact Nat.le_refl _
  · rw [hq, ← List.length_map (f := eSpan), List.take_length]
def c24_s5 : SCode := (.seq (.reg [⟨(some 44), (.mv (.t 5)), none⟩, ⟨(some 45), (.len (.t 44)), none⟩, ⟨(some 46), (.mks 9 1 16 [(.str [])] (.t 45) (.t 45)), none⟩, ⟨(some 9), (.mv (.t 46)), none⟩]) (.seq (.seq (.reg [⟨(some 47), (.mv (.t 5)), none⟩, ⟨(some 48), (.len (.t 47)), none⟩, ⟨(some 49), (.mv (.c (.int .i64 (0)))), none⟩]) (.block 2 (.loop (.seq (.reg [⟨(some 50), (.bin .lss (.t 49) (.t 48)), none⟩]) (.seq (.cond (.t 50) .skip (.exit 2)) (.seq (.block 3 (.seq (.reg [⟨(some 51), (.mv (.t 49)), none⟩, ⟨(some 52), (.idxA 2 (.t 47) (.t 49)), none⟩, ⟨(some 53), (.ld 2 true (.t 52)), none⟩, ⟨(some 11), (.new 84 2 [(.int .i64 (0)), (.int .i64 (0))]), none⟩, ⟨(some 10), (.mv (.t 51)), none⟩, ⟨none, (.st 2 (.t 11) (.t 53)), none⟩]) (.reg [⟨(some 54), (.mv (.t 9)), none⟩, ⟨(some 55), (.mv (.t 10)), none⟩, ⟨(some 56), (.mv (.t 0)), none⟩, ⟨(some 57), (.fldA 0 (.t 11)), none⟩, ⟨(some 58), (.ld 1 false (.t 57)), none⟩, ⟨(some 59), (.fldA 1 (.t 11)), none⟩, ⟨(some 60), (.ld 1 false (.t 59)), none⟩, ⟨(some 61), (.slS (.t 56) (some (.t 58)) (some (.t 60))), none⟩, ⟨(some 62), (.idxA 1 (.t 54) (.t 55)), none⟩, ⟨none, (.st 1 (.t 62) (.t 61)), none⟩]))) (.reg [⟨(some 63), (.bin .add (.t 49) (.c (.int .i64 (1)))), none⟩, ⟨(some 49), (.mv (.t 63)), none⟩]))))))) (.seq (.reg [⟨(some 64), (.mv (.t 9)), none⟩, ⟨(some 4), (.mv (.t 64)), none⟩]) .ret)))
def c24 : SFun := ⟨(.seq (.reg [⟨(some 4), (.mv (.c .emp)), none⟩]) (.seq (.reg [⟨(some 12), (.mks 84 2 16 [(.int .i64 (0)), (.int .i64 (0))] (.c (.int .i64 (0))) (.c (.int .i64 (32)))), none⟩, ⟨(some 5), (.mv (.t 12)), none⟩]) (.seq (.reg [⟨(some 6), (.mv (.c (.int .i64 (-1)))), none⟩]) (.seq (.seq (.reg [⟨(some 13), (.mv (.t 0)), none⟩, ⟨(some 14), (.rng (.t 13)), none⟩]) (.block 0 (.loop (.seq (.reg [⟨(some 15), (.nxt (.t 14)), none⟩, ⟨(some 16), (.ext (.t 15) 0), none⟩]) (.seq (.cond (.t 16) .skip (.exit 0)) (.block 1 (.seq (.reg [⟨(some 17), (.ext (.t 15) 1), none⟩, ⟨(some 18), (.ext (.t 15) 2), none⟩, ⟨(some 7), (.mv (.t 17)), none⟩, ⟨(some 8), (.mv (.t 18)), none⟩]) (.seq (.reg [⟨(some 19), (.mv (.t 1)), none⟩, ⟨(some 20), (.mv (.t 8)), none⟩, ⟨(some 21), (.call (.t 19) [(.t 20)]), none⟩]) (.cond (.t 21) (.seq (.reg [⟨(some 22), (.mv (.t 6)), none⟩, ⟨(some 23), (.bin .geq (.t 22) (.c (.int .i64 (0)))), none⟩]) (.cond (.t 23) (.seq (.reg [⟨(some 24), (.mv (.t 5)), none⟩, ⟨(some 25), (.mv (.t 6)), none⟩, ⟨(some 26), (.mv (.t 7)), none⟩, ⟨(some 27), (.bld [(.int .i64 (0)), (.int .i64 (0))] [(0, (1, (.t 25))), (1, (1, (.t 26)))]), none⟩, ⟨(some 28), (.bldF 84 2 [(.t 27)]), none⟩, ⟨(some 29), (.app 84 2 16 (.t 24) (.t 28)), none⟩, ⟨(some 5), (.mv (.t 29)), none⟩]) (.reg [⟨(some 30), (.mv (.t 6)), none⟩, ⟨(some 31), (.un .xor (.t 30)), none⟩, ⟨(some 6), (.mv (.t 31)), none⟩])) .skip)) (.seq (.reg [⟨(some 32), (.mv (.t 6)), none⟩, ⟨(some 33), (.bin .lss (.t 32) (.c (.int .i64 (0)))), none⟩]) (.cond (.t 33) (.reg [⟨(some 34), (.mv (.t 7)), none⟩, ⟨(some 6), (.mv (.t 34)), none⟩]) .skip))))))))))) (.seq (.seq (.reg [⟨(some 35), (.mv (.t 6)), none⟩, ⟨(some 36), (.bin .geq (.t 35) (.c (.int .i64 (0)))), none⟩]) (.cond (.t 36) (.reg [⟨(some 37), (.mv (.t 5)), none⟩, ⟨(some 38), (.mv (.t 6)), none⟩, ⟨(some 39), (.mv (.t 0)), none⟩, ⟨(some 40), (.lenS (.t 39)), none⟩, ⟨(some 41), (.bld [(.int .i64 (0)), (.int .i64 (0))] [(0, (1, (.t 38))), (1, (1, (.t 40)))]), none⟩, ⟨(some 42), (.bldF 84 2 [(.t 41)]), none⟩, ⟨(some 43), (.app 84 2 16 (.t 37) (.t 42)), none⟩, ⟨(some 5), (.mv (.t 43)), none⟩]) .skip)) c24_s5))))), [(.tmp 4)]⟩
theorem hc24 : toSF Tryd.prog {mp := [14]} Tryd.f24 = some c24 := by kernel_rfl
theorem hn24 : (Tryd.f24.name == "runtime.NumGoroutine") = false := by kernel_rfl
set_option maxHeartbeats 1000000 in
theorem fieldsF_rest (s : List UInt8) (hs : s.length ≤ 1000000) (L : List (Nat × Nat)) (hL : L.length ≤ 1000001) (hx : ∀ x ∈ L, x.1 < x.2 ∧ x.2 ≤ s.length) {h h1 : Heap} (S : Sim.Sub h h1) {r : Nat} {es : List (List AVal)} (hr : h1 r = some ⟨.t 84, 2, es⟩)
    (hle : L.length ≤ es.length) (ht : es.take L.length = L.map eSpan) (e : Env) (e0 : e 0 = .str s) (e5 : e 5 = .osl r 2 0 L.length) :
    vc (Pg G) c24_s5 (retK [.tmp 4] fun a h' => Sim.Sub h h' ∧ VwT (newH h h') a (sl eStr (L.map fun x => seg s x.1 x.2))) e h1 := by
  unfold c24_s5
  skip
  simp -dsimp -implicitDefEqProofs (disch := omega) only [VCA, Nat.reduceEqDiff, ↓reduceIte, e5]
  refine ⟨by omega, Int.le_refl _, by omega, by omega, fun r9 hr9 => ?_⟩
  obtain ⟨W, hW⟩ : ∃ W, L.map (fun x => seg s x.1 x.2) = W := ⟨_, rfl⟩
  have wl : W.length = L.length := by rw [← hW, List.length_map]
  have wn : ∀ k, k < L.length → nth W k = seg s (nth L k).1 (nth L k).2 := fun k hk => by
    have := nth_some (show k < W.length by omega)
    rw [← hW, List.getElem?_map, nth_some hk] at this
    rw [← hW]; exact (Option.some.inj this).symm
  have en : ∀ k, k < L.length → es.getD k [] = eSpan (nth L k) := fun k hk => by
    have h1 : (es.take L.length)[k]? = some (eSpan (nth L k)) := by rw [ht, List.getElem?_map, nth_some hk]; rfl
    rw [List.getElem?_take, if_pos hk] at h1
    rw [List.getD_eq_getElem?_getD, h1]; rfl
  have hne : r ≠ r9 := fun e => by rw [← e, hr] at hr9; cases hr9
  rw [hW]
  refine LoopVC.intro (fun m e h' => ∃ (k : Nat) (fs : List (List AVal)), k ≤ L.length ∧ m = L.length - k ∧ e 0 = .str s ∧ e 9 = .osl r9 1 0 L.length ∧ e 47 = .osl r 2 0 L.length ∧ e 48 = aInt L.length ∧ e 49 = aInt k ∧ h' r9 = some ⟨.t 9, 1, fs⟩ ∧ fs.length = L.length ∧ (∀ c ∈ fs, c.length = 1) ∧ fs.take k = (W.take k).map eStr ∧ h' r = some ⟨.t 84, 2, es⟩ ∧ Sim.Sub h h') L.length
    ⟨0, _, Nat.zero_le _, by omega, e0, rfl, rfl, rfl, rfl, upd_same _ _ _, by simp, (fun c hc => by rw [List.eq_of_mem_replicate hc]; rfl), rfl, by rw [upd_ne _ _ hne]; exact hr, S.upd (S.none hr9)⟩ ?_
  clear e0 e5 hr
  rintro m e h' ⟨k, fs, hk, rfl, e0, e9, e47, e48, e49, g9, fl, f1, ft, hr, S'⟩
  simp -dsimp -implicitDefEqProofs (disch := omega) only [VCA, ↓reduceIte, e48, e49]
  refine Br.dec (fun hlt => ?_) (fun hge => ?_)
  · have hk' : k < L.length := by omega
    have hx' := hx _ (nth_mem' hk')
    have enk := en k hk'
    have wnk := wn k hk'
    obtain ⟨y, hy⟩ : ∃ y, nth L k = y := ⟨_, rfl⟩
    rw [hy] at hx' enk wnk
    repeat' (first | ((with_reducible refine Br.dec (fun _ => ?_) (fun _ => ?_)) <;> try (exfalso; omega)) | ((with_reducible refine Br.eq (fun _ => ?_) (fun _ => ?_)) <;> try (exfalso; omega)) | ((with_reducible refine Br.ne (fun _ => ?_) (fun _ => ?_)) <;> try (exfalso; omega)) | ((with_reducible refine brNdec (fun _ => ?_) (fun _ => ?_)) <;> try (exfalso; omega)) | ((with_reducible refine brNeq (fun _ => ?_) (fun _ => ?_)) <;> try (exfalso; omega)) | with_reducible refine Br.intro (fun _ => ?_) (fun _ => ?_) | (with_reducible refine And.intro ?_ ?_; · omega) | simp -dsimp -implicitDefEqProofs (disch := omega) only [VCA, Nat.reduceEqDiff, Nat.reduceAdd, Nat.reduceLT, Nat.reduceLeDiff, ↓reduceIte, reduceCtorEq, setAt, exists_eq_left', e0, e9, e47, e48, e49, hr, enk, eSpan])
    intro r1 hr1
    have hrow : List.drop 1 (fs.getD k []) = [] := by
      rw [List.getD_eq_getElem?_getD, List.getElem?_eq_getElem (by omega), Option.getD_some]
      exact List.drop_eq_nil_of_le (by rw [f1 _ (List.getElem_mem _)]; exact Nat.le_refl _)
    have n91 : ¬ r9 = r1 := fun e => by rw [← e, g9] at hr1; cases hr1
    refine ⟨⟨by omega, by omega, by omega⟩, ⟨by omega, by omega⟩, _, by rw [if_neg n91]; exact g9, by simp only [fl]; omega, ?_, ?_⟩
    · simp only
      rw [List.getD_eq_getElem?_getD, List.getElem?_eq_getElem (by omega), Option.getD_some, f1 _ (List.getElem_mem _)]
      exact Nat.le_refl _
    · refine ⟨_, by omega, k + 1, _, by omega, rfl, by omega, rfl, ?_, ?_, ?_, ?_, ?_⟩
      · simpa using fl
      · intro c hc
        rcases List.mem_or_eq_of_mem_set hc with hc | rfl
        · exact f1 c hc
        · simp only [hrow]; rfl
      · simp only [hrow]
        have hkf : k < fs.length := by omega
        rw [List.take_add_one, List.take_set_of_le (Nat.le_refl _), ft, List.getElem?_set_self hkf, take_snoc (by omega), wnk, List.map_append]
        rfl
      · rw [if_neg hne, if_neg (fun e => by rw [← e, hr] at hr1; cases hr1)]
      · exact (S'.upd (S'.none hr1)).upd (S.none hr9)
  · obtain rfl : k = L.length := by omega
    simp -dsimp -implicitDefEqProofs (disch := omega) only [VCA, Nat.reduceEqDiff, ↓reduceIte, e9]
    rw [← wl, List.take_length] at ft
    exact ⟨_, Sub.refl _, S', .one _ _ (Vw.osl0 (by rw [newH_none (S.none hr9)]; exact g9) (by rw [List.length_map, wl]) (by rw [fl]; exact Nat.le_refl _) (fun f hf => by obtain ⟨w, _, rfl⟩ := List.mem_map.1 hf; rfl) (by rw [← wl, ft]; exact F2.refl (F2.refl .refl) _))⟩
set_option maxHeartbeats 1000000 in
theorem fieldsF_ok (s : List UInt8) (hs : s.length ≤ 1000000) (f : Nat) (hf : ∀ c : Nat, c < 2147483648 → PCalls (Pg G) f [.int .i32 c] (.bool (blankI c))) : PCalls (Pg G) 24 [.str s, .fn f [] []] (sl eStr (fieldsM s)) := PCalls.outV fun h => by
  refine dcalls_of_vc Tryd.func24 hn24 hc24 (by rw [Tryd.ntmps24]; simp) (by rw [Tryd.ntmps24]; decide) ?_
  simp -dsimp -implicitDefEqProofs (disch := omega) only [VCA, ↓upd_none, ↓reduceIte, reduceCtorEq, ne_eq, c24]
  refine ⟨by decide, by decide, by decide, by decide, fun r5 hr5 r14 hr14 => ?_⟩
  have J0 : FJ h (upd (upd h r5 (some ⟨.t 84, 2, List.replicate 32 [aInt 0, aInt 0]⟩)) r14 (some (itO s 0))) s 0 r14 (.osl r5 2 0 0) (aInt (-1)) (fsp s 0) :=
    ⟨((Sub.refl h).upd hr5).upd hr14.2, upd_same _ _ _, hr14.2, ⟨r5, _, rfl, by rw [upd_ne _ _ (fun e => hr14.1 e.symm)]; exact upd_same _ _ _, Nat.zero_le _, rfl, hr5, fun e => hr14.1 e.symm⟩, -1, by decide, by decide, rfl⟩
  refine LoopVC.intro (fun m e h' => ∃ p : Nat, p ≤ s.length ∧ m = s.length - p ∧ e 0 = .str s ∧ e 1 = .fn f [] [] ∧ e 14 = .ptr r14 0 0 ∧ FJ h h' s p r14 (e 5) (e 6) (fsp s p)) s.length ⟨0, Nat.zero_le _, by omega, rfl, rfl, rfl, J0⟩ ?_
  clear J0
  rintro m e h' ⟨p, hp, rfl, e0, e1, e14, J⟩
  have hit := J.it
  simp -dsimp -implicitDefEqProofs (disch := omega) only [VCA, Nat.reduceEqDiff, Nat.reduceAdd, Nat.reduceLT, ↓reduceIte, e1, e14, hit]
  refine ⟨_, _, rfl, fun hlt => ?_, fun hge => ?_⟩
  · have hb := sign_bl hlt
    have hq := runeAt_is s p hlt
    have hcn := runeAt_cont s p
    have hF := hf (runeAt s p).1 (runeAt_small s p)
    rw [hb] at hF
    obtain ⟨q, hqq⟩ : ∃ q, runeAt s p = q := ⟨_, rfl⟩
    rw [hqq] at hq hcn hF
    have J2 : ∀ o6 : AVal, StI (fsp s (p + q.2)).2 o6 → (fsp s (p + q.2)).1 = (fsp s p).1 → FJ h (upd h' r14 (some (itO s (p + q.2)))) s (p + q.2) r14 (e 5) o6 (fsp s (p + q.2)) := fun o6 h6 h1 => by
      obtain ⟨r, es, g1, g2, g3, g4, g5, g6⟩ := J.sp
      refine ⟨J.sub.upd J.itn, upd_same _ _ _, J.itn, ⟨r, es, ?_, by rw [upd_ne _ _ g6]; exact g2, ?_, ?_, g5, g6⟩, h6⟩
      · rw [h1]; exact g1
      · rw [h1]; exact g3
      · rw [h1]; exact g4
    obtain ⟨r, es, g1, g2, g3, g4, g5, g6⟩ := J.sp
    have K := fsp_is s p
    have K1 := K.len
    cases hbl : blankI (bt s p) with
    | true =>
      rw [hbl] at hF
      have hw1 : q = ((bt s p).toNat, 1) := hq.1 (by
        refine Int.not_le.1 fun hc => ?_
        rw [blankI_hi hc] at hbl; cases hbl)
      have hq2 : q.2 = 1 := by rw [hw1]
      have hn := fsp_bl hbl
      cases hst : (fsp s p).2 with
      | some a =>
        rw [hst] at hn
        have e6 : e 6 = aInt a := by have := J.st; rw [hst] at this; exact this
        have ha := K.cur a hst
        simp -dsimp -implicitDefEqProofs (disch := omega) only [hqq]
        refine DCalls.of (hF _) ?_
        rintro v h2 ⟨rfl, rfl⟩
        repeat' (first | ((with_reducible refine Br.dec (fun _ => ?_) (fun _ => ?_)) <;> try (exfalso; omega)) | ((with_reducible refine Br.eq (fun _ => ?_) (fun _ => ?_)) <;> try (exfalso; omega)) | ((with_reducible refine Br.ne (fun _ => ?_) (fun _ => ?_)) <;> try (exfalso; omega)) | ((with_reducible refine brNdec (fun _ => ?_) (fun _ => ?_)) <;> try (exfalso; omega)) | ((with_reducible refine brNeq (fun _ => ?_) (fun _ => ?_)) <;> try (exfalso; omega)) | with_reducible refine Br.intro (fun _ => ?_) (fun _ => ?_) | (with_reducible refine And.intro ?_ ?_; · omega) | simp -dsimp -implicitDefEqProofs (disch := omega) only [VCA, Nat.reduceEqDiff, Nat.reduceAdd, Nat.reduceLeDiff, ↓reduceIte, reduceCtorEq, okParts, fillA, okFill, forall_eq, exists_eq_left, e6, g1])
        refine ⟨_, by rw [if_neg g6]; exact g2, rfl, by simpa using g3, by omega, by omega, fun r' hr' => ?_⟩
        repeat' (first | ((with_reducible refine Br.dec (fun _ => ?_) (fun _ => ?_)) <;> try (exfalso; omega)) | ((with_reducible refine Br.eq (fun _ => ?_) (fun _ => ?_)) <;> try (exfalso; omega)) | ((with_reducible refine Br.ne (fun _ => ?_) (fun _ => ?_)) <;> try (exfalso; omega)) | ((with_reducible refine brNdec (fun _ => ?_) (fun _ => ?_)) <;> try (exfalso; omega)) | ((with_reducible refine brNeq (fun _ => ?_) (fun _ => ?_)) <;> try (exfalso; omega)) | with_reducible refine Br.intro (fun _ => ?_) (fun _ => ?_) | (with_reducible refine And.intro ?_ ?_; · omega) | simp -dsimp -implicitDefEqProofs (disch := omega) only [])
        have hrow : List.take (fsp s p).1.length es ++ [[aInt a, aInt p]] = (fsp s (p + q.2)).1.map eSpan := by rw [g4, hq2, hn, List.map_append]; rfl
        exact ⟨_, by omega, p + q.2, by omega, rfl, e0, e1, e14, FJ.app (J.sub.upd J.itn) (upd_same _ _ _) J.itn g6 g5 hr' hrow (by rw [hq2, hn, List.length_append]; rfl) (by rw [hq2, hn]; exact ⟨-1 - a, by omega, by omega, rfl⟩)⟩
      | none =>
        rw [hst] at hn
        simp only at hn
        obtain ⟨z, z0, z1, e6⟩ : ∃ z : Int, z < 0 ∧ -1000000000 ≤ z ∧ e 6 = aInt z := by have := J.st; rw [hst] at this; exact this
        simp -dsimp -implicitDefEqProofs (disch := omega) only [hqq]
        refine DCalls.of (hF _) ?_
        rintro v h2 ⟨rfl, rfl⟩
        repeat' (first | ((with_reducible refine Br.dec (fun _ => ?_) (fun _ => ?_)) <;> try (exfalso; omega)) | ((with_reducible refine Br.eq (fun _ => ?_) (fun _ => ?_)) <;> try (exfalso; omega)) | ((with_reducible refine Br.ne (fun _ => ?_) (fun _ => ?_)) <;> try (exfalso; omega)) | ((with_reducible refine brNdec (fun _ => ?_) (fun _ => ?_)) <;> try (exfalso; omega)) | ((with_reducible refine brNeq (fun _ => ?_) (fun _ => ?_)) <;> try (exfalso; omega)) | with_reducible refine Br.intro (fun _ => ?_) (fun _ => ?_) | (with_reducible refine And.intro ?_ ?_; · omega) | simp -dsimp -implicitDefEqProofs (disch := omega) only [VCA, Nat.reduceEqDiff, ↓reduceIte, reduceCtorEq, e6, e0, e1, e14, hqq])
        exact ⟨_, by omega, p + q.2, by omega, rfl, J2 _ (by rw [hq2, hn, hst]; exact ⟨z, z0, z1, rfl⟩) (by rw [hq2, hn])⟩
    | false =>
      rw [hbl] at hF
      have hn := fsp_no hbl
      have hsg := fsp_sign (s := s) (p := p) (w := q.2) hq.2.2.1 hbl fun i h1 h2 => blankI_hi (hcn i h1 h2)
      cases hst : (fsp s p).2 with
      | some a =>
        rw [hst] at hn
        simp only at hn
        have e6 : e 6 = aInt a := by have := J.st; rw [hst] at this; exact this
        simp -dsimp -implicitDefEqProofs (disch := omega) only [hqq]
        refine DCalls.of (hF _) ?_
        rintro v h2 ⟨rfl, rfl⟩
        repeat' (first | ((with_reducible refine Br.dec (fun _ => ?_) (fun _ => ?_)) <;> try (exfalso; omega)) | ((with_reducible refine Br.eq (fun _ => ?_) (fun _ => ?_)) <;> try (exfalso; omega)) | ((with_reducible refine Br.ne (fun _ => ?_) (fun _ => ?_)) <;> try (exfalso; omega)) | ((with_reducible refine brNdec (fun _ => ?_) (fun _ => ?_)) <;> try (exfalso; omega)) | ((with_reducible refine brNeq (fun _ => ?_) (fun _ => ?_)) <;> try (exfalso; omega)) | with_reducible refine Br.intro (fun _ => ?_) (fun _ => ?_) | (with_reducible refine And.intro ?_ ?_; · omega) | simp -dsimp -implicitDefEqProofs (disch := omega) only [VCA, Nat.reduceEqDiff, ↓reduceIte, reduceCtorEq, e6, e0, e1, e14, hqq])
        exact ⟨_, by omega, p + q.2, by omega, rfl, J2 _ (by rw [hsg, hn, hst]; exact rfl) (by rw [hsg, hn])⟩
      | none =>
        rw [hst] at hn
        obtain ⟨z, z0, z1, e6⟩ : ∃ z : Int, z < 0 ∧ -1000000000 ≤ z ∧ e 6 = aInt z := by have := J.st; rw [hst] at this; exact this
        simp -dsimp -implicitDefEqProofs (disch := omega) only [hqq]
        refine DCalls.of (hF _) ?_
        rintro v h2 ⟨rfl, rfl⟩
        repeat' (first | ((with_reducible refine Br.dec (fun _ => ?_) (fun _ => ?_)) <;> try (exfalso; omega)) | ((with_reducible refine Br.eq (fun _ => ?_) (fun _ => ?_)) <;> try (exfalso; omega)) | ((with_reducible refine Br.ne (fun _ => ?_) (fun _ => ?_)) <;> try (exfalso; omega)) | ((with_reducible refine brNdec (fun _ => ?_) (fun _ => ?_)) <;> try (exfalso; omega)) | ((with_reducible refine brNeq (fun _ => ?_) (fun _ => ?_)) <;> try (exfalso; omega)) | with_reducible refine Br.intro (fun _ => ?_) (fun _ => ?_) | (with_reducible refine And.intro ?_ ?_; · omega) | simp -dsimp -implicitDefEqProofs (disch := omega) only [VCA, Nat.reduceEqDiff, ↓reduceIte, reduceCtorEq, e6, e0, e1, e14, hqq])
        exact ⟨_, by omega, p + q.2, by omega, rfl, J2 _ (by rw [hsg, hn]; exact rfl) (by rw [hsg, hn])⟩
  · obtain rfl : p = s.length := by omega
    obtain ⟨r, es, g1, g2, g3, g4, g5, g6⟩ := J.sp
    have K := fsp_is s s.length
    have K1 := K.len
    have hsp := spansM_is s
    have hst0 := J.st
    have hsl : (spansM s).length ≤ 1000001 := by have := hsp.1; omega
    cases hst : (fsp s s.length).2 with
    | some a =>
      rw [hst] at hst0
      have e6 : e 6 = aInt a := hst0
      have hsm : spansM s = (fsp s s.length).1 ++ [(a, s.length)] := by unfold spansM; rw [hst]
      have ha := K.cur a hst
      repeat' (first | ((with_reducible refine Br.dec (fun _ => ?_) (fun _ => ?_)) <;> try (exfalso; omega)) | ((with_reducible refine Br.eq (fun _ => ?_) (fun _ => ?_)) <;> try (exfalso; omega)) | ((with_reducible refine Br.ne (fun _ => ?_) (fun _ => ?_)) <;> try (exfalso; omega)) | ((with_reducible refine brNdec (fun _ => ?_) (fun _ => ?_)) <;> try (exfalso; omega)) | ((with_reducible refine brNeq (fun _ => ?_) (fun _ => ?_)) <;> try (exfalso; omega)) | with_reducible refine Br.intro (fun _ => ?_) (fun _ => ?_) | (with_reducible refine And.intro ?_ ?_; · omega) | simp -dsimp -implicitDefEqProofs (disch := omega) only [VCA, Nat.reduceEqDiff, Nat.reduceAdd, Nat.reduceLeDiff, ↓reduceIte, reduceCtorEq, okParts, fillA, okFill, forall_eq, exists_eq_left, e0, e6, g1])
      refine ⟨_, g2, rfl, g3, by omega, by omega, fun r' hr' => ?_⟩
      have S2 := J.sub.del g5
      have hm2 : fieldsM s = ((fsp s s.length).1 ++ [(a, s.length)]).map fun x => seg s x.1 x.2 := by unfold fieldsM; rw [hsm]
      rw [hm2]
      have hln : (fsp s s.length).1.length + 1 = ((fsp s s.length).1 ++ [(a, s.length)]).length := by rw [List.length_append]; rfl
      refine fieldsF_rest s hs _ (by rw [← hsm]; exact hsl) (by rw [← hsm]; exact hsp.2) (S2.upd (S2.none hr')) (r := r') (upd_same _ _ _) ?_ ?_ _ e0 ?_
      · simp only [g4, List.length_append, List.length_map]; exact Nat.le_refl _
      · simp only [g4]
        rw [List.take_of_length_le (by simp)]
        rw [List.map_append]; rfl
      · rw [← hln]; rfl
    | none =>
      rw [hst] at hst0
      obtain ⟨z, z0, z1, e6⟩ : ∃ z : Int, z < 0 ∧ -1000000000 ≤ z ∧ e 6 = aInt z := hst0
      have hsm : spansM s = (fsp s s.length).1 := by unfold spansM; rw [hst]
      repeat' (first | ((with_reducible refine Br.dec (fun _ => ?_) (fun _ => ?_)) <;> try (exfalso; omega)) | ((with_reducible refine Br.eq (fun _ => ?_) (fun _ => ?_)) <;> try (exfalso; omega)) | ((with_reducible refine Br.ne (fun _ => ?_) (fun _ => ?_)) <;> try (exfalso; omega)) | ((with_reducible refine brNdec (fun _ => ?_) (fun _ => ?_)) <;> try (exfalso; omega)) | ((with_reducible refine brNeq (fun _ => ?_) (fun _ => ?_)) <;> try (exfalso; omega)) | with_reducible refine Br.intro (fun _ => ?_) (fun _ => ?_) | (with_reducible refine And.intro ?_ ?_; · omega) | simp -dsimp -implicitDefEqProofs (disch := omega) only [VCA, e6])
      have hm2 : fieldsM s = ((fsp s s.length).1).map fun x => seg s x.1 x.2 := by unfold fieldsM; rw [hsm]
      rw [hm2]
      exact fieldsF_rest s hs _ (by rw [← hsm]; exact hsl) (by rw [← hsm]; exact hsp.2) J.sub g2 g3 g4 _ e0 g1
end Go.Proofs.K
end
section
/- index.Words: the words of a class, each once. -/
set_option linter.unusedSimpArgs false
set_option linter.unusedVariables false
namespace Go.Proofs.K
open Go Go.Sim Go.Proofs
variable {G : Glob}
def c42 : SFun := ⟨(.seq (.reg [⟨(some 4), (.mv (.c (.int .i64 (0)))), none⟩]) (.seq (.seq (.reg [⟨(some 6), (.mv (.t 0)), none⟩, ⟨(some 7), (.len (.t 6)), none⟩, ⟨(some 8), (.mv (.c (.int .i64 (0)))), none⟩]) (.block 0 (.loop (.seq (.reg [⟨(some 9), (.bin .lss (.t 8) (.t 7)), none⟩]) (.seq (.cond (.t 9) .skip (.exit 0)) (.seq (.block 1 (.seq (.reg [⟨(some 10), (.mv (.t 8)), none⟩, ⟨(some 5), (.mv (.t 10)), none⟩]) (.seq (.reg [⟨(some 11), (.mv (.t 1)), none⟩, ⟨(some 12), (.mv (.t 0)), none⟩, ⟨(some 13), (.mv (.t 5)), none⟩, ⟨(some 14), (.idxA 1 (.t 12) (.t 13)), none⟩, ⟨(some 15), (.ld 1 false (.t 14)), none⟩, ⟨(some 16), (.bin .eql (.t 11) (.t 15)), none⟩]) (.cond (.t 16) (.seq (.reg [⟨(some 17), (.mv (.t 5)), none⟩, ⟨(some 4), (.mv (.t 17)), none⟩]) .ret) .skip)))) (.reg [⟨(some 18), (.bin .add (.t 8) (.c (.int .i64 (1)))), none⟩, ⟨(some 8), (.mv (.t 18)), none⟩]))))))) (.seq (.reg [⟨(some 4), (.mv (.c (.int .i64 (-1)))), none⟩]) .ret))), [(.tmp 4)]⟩
theorem hc42 : toSF Tryd.prog {} Tryd.f42 = some c42 := by kernel_rfl
theorem hn42 : (Tryd.f42.name == "runtime.NumGoroutine") = false := by kernel_rfl
theorem indexS_own {h0 h : Heap} {L : List (List UInt8)} {a : AVal} (A : Acc h0 9 1 (L.map eStr) a h) (w : List UInt8) (hL : L.length ≤ 1073741824) : DCalls (Pg G) 42 [a, .str w] h fun r h' => r = aInt (idxM (fun x => w == x) L) ∧ h' = h := by
  rcases A with ⟨hn, rfl⟩ | ⟨r, h0n, hr, rfl⟩
  · have hL0 : L = [] := by simpa using hn
    subst hL0
    refine dcalls_of_vc Tryd.func42 hn42 hc42 (by rw [Tryd.ntmps42]; simp) (by rw [Tryd.ntmps42]; decide) ?_
    simp -dsimp -implicitDefEqProofs (disch := omega) only [VCA, ↓reduceIte, reduceCtorEq, c42]
    refine LoopVC.intro (fun m e h' => m = 0 ∧ e 7 = aInt 0 ∧ e 8 = aInt 0 ∧ h' = h) 0 ⟨rfl, rfl, rfl, rfl⟩ ?_
    rintro m e h' ⟨rfl, e7, e8, rfl⟩
    repeat' (first | ((with_reducible refine Br.dec (fun _ => ?_) (fun _ => ?_)) <;> try (exfalso; omega)) | ((with_reducible refine Br.eq (fun _ => ?_) (fun _ => ?_)) <;> try (exfalso; omega)) | ((with_reducible refine Br.ne (fun _ => ?_) (fun _ => ?_)) <;> try (exfalso; omega)) | ((with_reducible refine brNdec (fun _ => ?_) (fun _ => ?_)) <;> try (exfalso; omega)) | ((with_reducible refine brNeq (fun _ => ?_) (fun _ => ?_)) <;> try (exfalso; omega)) | with_reducible refine Br.intro (fun _ => ?_) (fun _ => ?_) | (with_reducible refine And.intro ?_ ?_; · omega) | simp -dsimp -implicitDefEqProofs (disch := omega) only [VCA, ↓reduceIte, exists_eq_right_right, e7, e8])
    exact ⟨Sub.refl _, rfl⟩
  · refine dcalls_of_vc Tryd.func42 hn42 hc42 (by rw [Tryd.ntmps42]; simp) (by rw [Tryd.ntmps42]; decide) ?_
    simp -dsimp -implicitDefEqProofs (disch := omega) only [VCA, ↓reduceIte, reduceCtorEq, c42]
    refine LoopVC.intro (fun m e h' => ∃ k : Nat, k ≤ L.length ∧ m = L.length - k ∧ e 0 = .osl r 1 0 L.length ∧ e 1 = .str w ∧ e 7 = aInt L.length ∧ e 8 = aInt k ∧ h' = h ∧ ∀ j, j < k → (w == nth L j) = false) L.length ⟨0, by omega, by omega, (by show AVal.osl r 1 0 _ = _; first | rfl | rw [List.length_map]), rfl, rfl, rfl, rfl, fun j hj => absurd hj (Nat.not_lt_zero j)⟩ ?_
    rintro m e h' ⟨k, hk, rfl, e0, e1, e7, e8, rfl, hj⟩
    have hk2 : ∀ k, k < L.length → (L.map eStr).getD k [] = [.str (nth L k)] := fun k hk => by
      rw [List.getD_eq_getElem?_getD, List.getElem?_map, nth_some hk]; rfl
    simp -dsimp -implicitDefEqProofs (disch := omega) only [VCA, ↓reduceIte, e7, e8]
    refine Br.dec (fun hlt => ?_) (fun hge => ?_)
    · have hk' : k < L.length := by omega
      have hkk := hk2 k hk'
      repeat' (first | ((with_reducible refine Br.dec (fun _ => ?_) (fun _ => ?_)) <;> try (exfalso; omega)) | ((with_reducible refine Br.eq (fun _ => ?_) (fun _ => ?_)) <;> try (exfalso; omega)) | ((with_reducible refine Br.ne (fun _ => ?_) (fun _ => ?_)) <;> try (exfalso; omega)) | ((with_reducible refine brNdec (fun _ => ?_) (fun _ => ?_)) <;> try (exfalso; omega)) | ((with_reducible refine brNeq (fun _ => ?_) (fun _ => ?_)) <;> try (exfalso; omega)) | with_reducible refine Br.intro (fun _ => ?_) (fun _ => ?_) | (with_reducible refine And.intro ?_ ?_; · omega) | simp -dsimp -implicitDefEqProofs (disch := omega) only [VCA, Nat.reduceEqDiff, ↓reduceIte, reduceCtorEq, exists_eq_right_right, exists_eq_left', e0, e1, e7, e8, hr, hkk])
      · rename_i hh
        rw [idxM_some (p := fun x => w == x) hk' hj (by simpa using hh)]
        exact ⟨Sub.refl _, rfl⟩
      · rename_i hh
        refine ⟨_, by omega, k + 1, by omega, rfl, by omega, fun j hj' => ?_⟩
        by_cases h1 : j = k
        · subst h1; simpa using hh
        · exact hj j (by omega)
    · obtain rfl : k = L.length := by omega
      simp -dsimp -implicitDefEqProofs (disch := omega) only [VCA, ↓reduceIte, exists_eq_right_right]
      rw [idxM_none hj]
      exact ⟨Sub.refl _, rfl⟩
def c27 : SFun := ⟨(.seq (.reg [⟨(some 4), (.mv (.c (.bool false))), none⟩]) (.seq (.reg [⟨(some 5), (.mv (.t 0)), none⟩, ⟨(some 6), (.mv (.t 1)), none⟩, ⟨(some 7), (.call (.c (.fn 42 [] [])) [(.t 5), (.t 6)]), none⟩, ⟨(some 8), (.bin .geq (.t 7) (.c (.int .i64 (0)))), none⟩, ⟨(some 4), (.mv (.t 8)), none⟩]) .ret)), [(.tmp 4)]⟩
theorem hc27 : toSF Tryd.prog {} Tryd.f27 = some c27 := by kernel_rfl
theorem hn27 : (Tryd.f27.name == "runtime.NumGoroutine") = false := by kernel_rfl
theorem containsS_own {h0 h : Heap} {L : List (List UInt8)} {a : AVal} (A : Acc h0 9 1 (L.map eStr) a h) (w : List UInt8) (hL : L.length ≤ 1073741824) : DCalls (Pg G) 27 [a, .str w] h fun r h' => r = .bool (decide (w ∈ L)) ∧ h' = h := by
  have e1 : decide (0 ≤ idxM (fun x => w == x) L) = decide (w ∈ L) := by rw [idxM_any, Bool.eq_iff_iff]; simp
  refine dcalls_of_vc Tryd.func27 hn27 hc27 (by rw [Tryd.ntmps27]; simp) (by rw [Tryd.ntmps27]; decide) ?_
  simp -dsimp -implicitDefEqProofs (disch := omega) only [VCA, Nat.reduceEqDiff, ↓reduceIte, reduceCtorEq, c27]
  refine DCalls.of (indexS_own A w hL) ?_
  rintro v h' ⟨rfl, rfl⟩
  repeat' (first | ((with_reducible refine Br.dec (fun _ => ?_) (fun _ => ?_)) <;> try (exfalso; omega)) | ((with_reducible refine Br.eq (fun _ => ?_) (fun _ => ?_)) <;> try (exfalso; omega)) | ((with_reducible refine Br.ne (fun _ => ?_) (fun _ => ?_)) <;> try (exfalso; omega)) | ((with_reducible refine brNdec (fun _ => ?_) (fun _ => ?_)) <;> try (exfalso; omega)) | ((with_reducible refine brNeq (fun _ => ?_) (fun _ => ?_)) <;> try (exfalso; omega)) | with_reducible refine Br.intro (fun _ => ?_) (fun _ => ?_) | (with_reducible refine And.intro ?_ ?_; · omega) | simp -dsimp -implicitDefEqProofs (disch := omega) only [VCA, ↓reduceIte, exists_eq_right, e1])
  all_goals exact Sub.refl _
theorem foldW_len (F : List (List UInt8)) : ∀ L : List (List UInt8), (F.foldl addW L).length ≤ L.length + F.length := by
  induction F with
  | nil => intro L; exact Nat.le_refl _
  | cons x r ih =>
    intro L
    have h1 := ih (addW L x)
    have h2 : (addW L x).length ≤ L.length + 1 := by unfold addW; split <;> simp
    rw [List.foldl_cons, List.length_cons]; omega
theorem wordsM_len (s : List UInt8) : (wordsM s).length ≤ s.length + 1 := by
  have h1 := foldW_len (fieldsM s) []
  have h2 := fieldsM_len s
  unfold wordsM; simp only [List.length_nil] at h1; omega
def c10 : SFun := ⟨(.seq (.reg [⟨(some 2), (.mv (.c .emp)), none⟩]) (.seq (.reg [⟨(some 3), (.mv (.c .emp)), none⟩]) (.seq (.seq (.reg [⟨(some 6), (.mv (.t 0)), none⟩, ⟨(some 7), (.pcall 24 [(.t 6), (.c (.fn 25 [] []))]), none⟩, ⟨(some 8), (.len (.t 7)), none⟩, ⟨(some 9), (.mv (.c (.int .i64 (0)))), none⟩]) (.block 0 (.loop (.seq (.reg [⟨(some 10), (.bin .lss (.t 9) (.t 8)), none⟩]) (.seq (.cond (.t 10) .skip (.exit 0)) (.seq (.block 1 (.seq (.reg [⟨(some 11), (.idxA 1 (.t 7) (.t 9)), none⟩, ⟨(some 12), (.ld 1 false (.t 11)), none⟩, ⟨(some 5), (.mv (.t 12)), none⟩]) (.seq (.reg [⟨(some 13), (.mv (.t 3)), none⟩, ⟨(some 14), (.mv (.t 5)), none⟩, ⟨(some 15), (.call (.c (.fn 27 [] [])) [(.t 13), (.t 14)]), none⟩, ⟨(some 16), (.un .not (.t 15)), none⟩]) (.cond (.t 16) (.reg [⟨(some 17), (.mv (.t 3)), none⟩, ⟨(some 18), (.mv (.t 5)), none⟩, ⟨(some 19), (.bldF 9 1 [(.t 18)]), none⟩, ⟨(some 20), (.app 9 1 16 (.t 17) (.t 19)), none⟩, ⟨(some 3), (.mv (.t 20)), none⟩]) .skip)))) (.reg [⟨(some 21), (.bin .add (.t 9) (.c (.int .i64 (1)))), none⟩, ⟨(some 9), (.mv (.t 21)), none⟩]))))))) (.seq (.reg [⟨(some 22), (.mv (.t 3)), none⟩, ⟨(some 2), (.mv (.t 22)), none⟩]) .ret)))), [(.tmp 2)]⟩
theorem hc10 : toSF Tryd.prog {pure := [24]} Tryd.f10 = some c10 := by kernel_rfl
theorem hn10 : (Tryd.f10.name == "runtime.NumGoroutine") = false := by kernel_rfl
theorem words_ok (s : List UInt8) (hs : s.length ≤ 1000000) : PCalls (Pg G) 10 [.str s] (sl eStr (wordsM s)) := PCalls.acc (ty := 9) (sz := 1) fun h => by
  have cF := fieldsF_ok (G := G) s hs 25 words1_ok
  have fl := fieldsM_len s
  have fne := fieldsM_ne s
  unfold wordsM
  obtain ⟨F, hF⟩ : ∃ F, fieldsM s = F := ⟨_, rfl⟩
  rw [hF] at cF fl fne ⊢
  have key : ∀ k, k < F.length → (F.take (k + 1)).foldl addW [] = addW ((F.take k).foldl addW []) (nth F k) := fun k hk => by
    rw [take_snoc hk, List.foldl_append]; rfl
  refine dcalls_of_vc Tryd.func10 hn10 hc10 (by rw [Tryd.ntmps10]; simp) (by rw [Tryd.ntmps10]; decide) ?_
  simp -dsimp -implicitDefEqProofs (disch := omega) only [VCA, ↓reduceIte, reduceCtorEq, c10]
  repeat' (first | ((with_reducible refine Br.dec (fun _ => ?_) (fun _ => ?_)) <;> try (exfalso; omega)) | ((with_reducible refine Br.eq (fun _ => ?_) (fun _ => ?_)) <;> try (exfalso; omega)) | ((with_reducible refine Br.ne (fun _ => ?_) (fun _ => ?_)) <;> try (exfalso; omega)) | ((with_reducible refine brNdec (fun _ => ?_) (fun _ => ?_)) <;> try (exfalso; omega)) | ((with_reducible refine brNeq (fun _ => ?_) (fun _ => ?_)) <;> try (exfalso; omega)) | with_reducible refine Br.intro (fun _ => ?_) (fun _ => ?_) | (with_reducible apply pcallE.of; · exact cF) | (with_reducible refine And.intro ?_ ?_; · omega) | simp -dsimp -implicitDefEqProofs (disch := omega) only [VCA, ↓reduceIte])
  refine LoopVC.intro (fun m e h' => ∃ k : Nat, k ≤ F.length ∧ m = F.length - k ∧ e 7 = sl eStr F ∧ e 8 = aInt F.length ∧ e 9 = aInt k ∧ Acc h 9 1 (((F.take k).foldl addW []).map eStr) (e 3) h' ∧ Sim.Sub h h') F.length ⟨0, by omega, by omega, rfl, rfl, rfl, .nil, Sub.refl _⟩ ?_
  rintro m e h' ⟨k, hk, rfl, e7, e8, e9, A, S⟩
  simp -dsimp -implicitDefEqProofs (disch := omega) only [VCA, ↓reduceIte, e8, e9]
  refine Br.dec (fun hlt => ?_) (fun hge => ?_)
  · have hk' : k < F.length := by omega
    have hkey := key k hk'
    have hw := fne _ (nth_mem' hk')
    have hLl := foldW_len (F.take k) []
    obtain ⟨L, hL⟩ : ∃ L, (F.take k).foldl addW [] = L := ⟨_, rfl⟩
    rw [hL] at A hkey hLl
    simp only [List.length_nil, List.length_take] at hLl
    have hC := containsS_own (G := G) A (nth F k) (by omega)
    simp -dsimp -implicitDefEqProofs (disch := omega) only [VCA, Nat.reduceEqDiff, ↓reduceIte, eStr, e7, e9, eStr]
    refine ⟨by omega, DCalls.of hC ?_⟩
    rintro v h2 ⟨rfl, rfl⟩
    by_cases hin : nth F k ∈ L
    · have d1 : decide (nth F k ∈ L) = true := decide_eq_true hin
      have hadd : addW L (nth F k) = L := if_pos (.inr hin)
      simp -dsimp -implicitDefEqProofs (disch := omega) only [VCA, Nat.reduceEqDiff, ↓reduceIte, e7, e8, e9, d1]
      exact ⟨_, by omega, k + 1, by omega, rfl, by omega, by rw [hkey, hadd]; exact A, S⟩
    · have d1 : decide (nth F k ∈ L) = false := decide_eq_false hin
      have hadd : addW L (nth F k) = L ++ [nth F k] := if_neg (by rintro (h | h); exact hw h; exact hin h)
      simp -dsimp -implicitDefEqProofs (disch := omega) only [VCA, Nat.reduceEqDiff, ↓reduceIte, okParts, forall_eq, exists_eq_left, d1]
      refine A.app S (by simp only [List.length_map, List.length_cons, List.length_nil]; omega) (by simp only [List.length_map, List.length_cons, List.length_nil]; omega) fun a2 h3 A2 S3 => ?_
      simp -dsimp -implicitDefEqProofs (disch := omega) only [VCA, Nat.reduceEqDiff, ↓reduceIte, e7, e8, e9]
      exact ⟨_, by omega, k + 1, by omega, rfl, by omega, by rw [hkey, hadd, List.map_append]; exact A2, S3⟩
  · obtain rfl : k = F.length := by omega
    rw [List.take_length] at A
    simp -dsimp -implicitDefEqProofs (disch := omega) only [VCA, Nat.reduceEqDiff, ↓reduceIte]
    exact ⟨_, Sub.refl _, A, S⟩
/-- the reference's state behind p bytes; behind the end too -/
def refX (s : List UInt8) (p : Nat) : List (List UInt8) × List UInt8 := if p ≤ s.length then refW s p else (wordsM s, [])
theorem refX_no {s : List UInt8} {p : Nat} (hp : p < s.length) (hb : blankI (bt s p) = false) : refX s (p + 1) = ((refX s p).1, (refX s p).2 ++ [s.getD p 0]) := by
  unfold refX
  rw [if_pos (by omega), if_pos (by omega), refW, if_neg (by rw [hb]; decide)]
theorem refX_bl {s : List UInt8} {p : Nat} (hp : p ≤ s.length) (hb : p < s.length → blankI (bt s p) = true) : refX s (p + 1) = (addW (refX s p).1 (refX s p).2, []) := by
  unfold refX
  rw [if_pos hp]
  by_cases h : p < s.length
  · rw [if_pos (by omega), refW, if_pos (hb h)]
  · obtain rfl : p = s.length := by omega
    rw [if_neg (by omega), refW_end]
theorem refX_len (s : List UInt8) (p : Nat) : (refX s p).1.length ≤ s.length + 1 ∧ (refX s p).2.length ≤ s.length := by
  unfold refX
  split
  · rename_i hp
    rw [refW_is s p hp]
    have K := fsp_is s p
    have K1 := K.len
    have h1 := foldW_len ((fsp s p).1.map fun x => seg s x.1 x.2) []
    simp only [List.length_nil, List.length_map] at h1
    refine ⟨by simp only; omega, ?_⟩
    cases (fsp s p).2 with
    | some a => exact seg_le _ _ _
    | none => exact Nat.zero_le _
  · exact ⟨wordsM_len s, Nat.zero_le _⟩
def c11 : SFun := ⟨(.seq (.reg [⟨(some 2), (.mv (.c .emp)), none⟩]) (.seq (.reg [⟨(some 3), (.mv (.c .emp)), none⟩]) (.seq (.reg [⟨(some 4), (.mv (.c (.str []))), none⟩]) (.seq (.seq (.reg [⟨(some 5), (.mv (.c (.int .i64 (0)))), none⟩]) (.block 0 (.loop (.seq (.seq (.reg [⟨(some 8), (.mv (.t 5)), none⟩, ⟨(some 9), (.mv (.t 0)), none⟩, ⟨(some 10), (.lenS (.t 9)), none⟩, ⟨(some 11), (.bin .leq (.t 8) (.t 10)), none⟩]) (.cond (.t 11) .skip (.exit 0))) (.seq (.block 1 (.seq (.seq (.reg [⟨(some 14), (.mv (.t 5)), none⟩, ⟨(some 15), (.mv (.t 0)), none⟩, ⟨(some 16), (.lenS (.t 15)), none⟩, ⟨(some 17), (.bin .lss (.t 14) (.t 16)), none⟩, ⟨(some 18), (.mv (.t 17)), none⟩, ⟨(some 19), (.mv (.t 0)), (some (18, true))⟩, ⟨(some 20), (.mv (.t 5)), (some (18, true))⟩, ⟨(some 21), (.idxS (.t 19) (.t 20)), (some (18, true))⟩, ⟨(some 22), (.pcall 28 [(.t 21)]), (some (18, true))⟩, ⟨(some 23), (.un .not (.t 22)), (some (18, true))⟩, ⟨(some 24), (.pick (.t 18) (.t 23) (.c (.bool false))), none⟩]) (.cond (.t 24) (.seq (.reg [⟨(some 25), (.mv (.t 4)), none⟩, ⟨(some 26), (.mv (.t 0)), none⟩, ⟨(some 27), (.mv (.t 5)), none⟩, ⟨(some 28), (.mv (.t 5)), none⟩, ⟨(some 29), (.bin .add (.t 28) (.c (.int .i64 (1)))), none⟩, ⟨(some 30), (.slS (.t 26) (some (.t 27)) (some (.t 29))), none⟩, ⟨(some 31), (.bin .add (.t 25) (.t 30)), none⟩, ⟨(some 4), (.mv (.t 31)), none⟩]) (.exit 1)) .skip)) (.seq (.reg [⟨(some 32), (.mv (.t 4)), none⟩, ⟨(some 33), (.bin .eql (.t 32) (.c (.str []))), none⟩, ⟨(some 6), (.mv (.t 33)), none⟩]) (.seq (.seq (.reg [⟨(some 7), (.mv (.c (.int .i64 (0)))), none⟩]) (.block 2 (.loop (.seq (.seq (.reg [⟨(some 34), (.mv (.t 7)), none⟩, ⟨(some 35), (.mv (.t 3)), none⟩, ⟨(some 36), (.len (.t 35)), none⟩, ⟨(some 37), (.bin .lss (.t 34) (.t 36)), none⟩]) (.cond (.t 37) .skip (.exit 2))) (.seq (.block 3 (.reg [⟨(some 40), (.mv (.t 6)), none⟩, ⟨(some 41), (.mv (.t 40)), none⟩, ⟨(some 42), (.mv (.t 3)), (some (41, false))⟩, ⟨(some 43), (.mv (.t 7)), (some (41, false))⟩, ⟨(some 44), (.idxA 1 (.t 42) (.t 43)), (some (41, false))⟩, ⟨(some 45), (.ld 1 false (.t 44)), (some (41, false))⟩, ⟨(some 46), (.mv (.t 4)), (some (41, false))⟩, ⟨(some 47), (.bin .eql (.t 45) (.t 46)), (some (41, false))⟩, ⟨(some 48), (.pick (.t 41) (.c (.bool true)) (.t 47)), none⟩, ⟨(some 6), (.mv (.t 48)), none⟩])) (.reg [⟨(some 38), (.mv (.t 7)), none⟩, ⟨(some 39), (.bin .add (.t 38) (.c (.int .i64 (1)))), none⟩, ⟨(some 7), (.mv (.t 39)), none⟩])))))) (.seq (.seq (.reg [⟨(some 49), (.mv (.t 6)), none⟩, ⟨(some 50), (.un .not (.t 49)), none⟩]) (.cond (.t 50) (.reg [⟨(some 51), (.mv (.t 3)), none⟩, ⟨(some 52), (.mv (.t 4)), none⟩, ⟨(some 53), (.bldF 9 1 [(.t 52)]), none⟩, ⟨(some 54), (.app 9 1 16 (.t 51) (.t 53)), none⟩, ⟨(some 3), (.mv (.t 54)), none⟩]) .skip)) (.reg [⟨(some 4), (.mv (.c (.str []))), none⟩])))))) (.reg [⟨(some 12), (.mv (.t 5)), none⟩, ⟨(some 13), (.bin .add (.t 12) (.c (.int .i64 (1)))), none⟩, ⟨(some 5), (.mv (.t 13)), none⟩])))))) (.seq (.reg [⟨(some 55), (.mv (.t 3)), none⟩, ⟨(some 2), (.mv (.t 55)), none⟩]) .ret))))), [(.tmp 2)]⟩
theorem hc11 : toSF Tryd.prog {pure := [28]} Tryd.f11 = some c11 := by kernel_rfl
theorem hn11 : (Tryd.f11.name == "runtime.NumGoroutine") = false := by kernel_rfl
/-- what is done where a word ends -/
def wordC : SCode := cR (cR (cB (cL (cR (cB (cB (cR (cL (cR (cR (cR c11.code)))))))))))
def wordB : SCode := .seq (cR (cL wordC)) (cR wordC)
theorem word_ok {h0 h : Heap} {e : Env} {K : SExit → Env → Heap → Prop} {L : List (List UInt8)} {w : List UInt8} (e4 : e 4 = .str w) (e6 : e 6 = .bool (w == [])) (e7 : e 7 = aInt 0) (hL : L.length ≤ 1000001) (A : Acc h0 9 1 (L.map eStr) (e 3) h) (S : Sim.Sub h0 h)
    (hK : ∀ (e' : Env) (h' : Heap), e' 0 = e 0 → e' 5 = e 5 → e' 4 = .str [] → Acc h0 9 1 ((addW L w).map eStr) (e' 3) h' → Sim.Sub h0 h' → K .normal e' h') : vc (Pg G) wordB K e h := by
  skip
  have hl1 := A.len
  simp only [List.length_map] at hl1
  simp -dsimp -implicitDefEqProofs (disch := omega) only [VCA, wordB, wordC, cL, cR, cB, c11]
  refine LoopVC.intro (fun m e' h' => ∃ k : Nat, k ≤ L.length ∧ m = L.length - k ∧ e' 0 = e 0 ∧ e' 3 = e 3 ∧ e' 4 = .str w ∧ e' 5 = e 5 ∧ e' 6 = .bool (decide (w = [] ∨ w ∈ L.take k)) ∧ e' 7 = aInt k ∧ h' = h) L.length ⟨0, by omega, by omega, rfl, rfl, e4, rfl, (by rw [e6]; cases w <;> simp), e7, rfl⟩ ?_
  rintro m e' h' ⟨k, hk, rfl, f0, f3, f4, f5, f6, f7, rfl⟩
  simp -dsimp -implicitDefEqProofs (disch := omega) only [VCA, Nat.reduceEqDiff, ↓reduceIte, f3, f7, hl1.1, hl1.2]
  refine Br.dec (fun hlt => ?_) (fun hge => ?_)
  · have hk' : k < L.length := by omega
    have hkk : ∀ k, k < L.length → (L.map eStr).getD k [] = [.str (nth L k)] := fun k hk => by
      rw [List.getD_eq_getElem?_getD, List.getElem?_map, nth_some hk]; rfl
    have hkk := hkk k hk'
    obtain ⟨r, hrn, hr, ha⟩ := A.pos (by rw [List.length_map]; omega)
    rw [List.length_map] at ha
    have f3' := f3.trans ha
    have htk : ∀ x, x ∈ L.take (k + 1) ↔ x ∈ L.take k ∨ x = nth L k := fun x => by rw [take_snoc hk', List.mem_append, List.mem_singleton]
    by_cases hd : w = [] ∨ w ∈ L.take k
    · have d1 : decide (w = [] ∨ w ∈ L.take k) = true := decide_eq_true hd
      have d2 : decide (w = [] ∨ w ∈ L.take (k + 1)) = true := decide_eq_true (by rw [htk]; exact hd.imp id .inl)
      simp -dsimp -implicitDefEqProofs (disch := omega) only [↓vcOps_sp 41, VCA, Nat.reduceEqDiff, ↓reduceIte, reduceCtorEq, f0, f3', f4, f5, f6, f7, d1]
      exact ⟨_, by omega, k + 1, by omega, rfl, ha.symm, by rw [d2], by omega⟩
    · have d1 : decide (w = [] ∨ w ∈ L.take k) = false := decide_eq_false hd
      have d2 : decide (w = [] ∨ w ∈ L.take (k + 1)) = (nth L k == w) := by
        rw [Bool.eq_iff_iff, decide_eq_true_iff, htk, beq_iff_eq]
        exact ⟨fun h => h.elim (fun h => absurd (.inl h) hd) fun h => h.elim (fun h => absurd (.inr h) hd) fun h => h.symm, fun h => .inr (.inr h.symm)⟩
      simp -dsimp -implicitDefEqProofs (disch := omega) only [↓vcOps_sp 41, VCA, Nat.reduceEqDiff, ↓reduceIte, reduceCtorEq, exists_eq_left', f0, f3', f4, f5, f6, f7, d1, hr, hkk]
      exact ⟨⟨by omega, by omega⟩, hk', _, by omega, k + 1, by omega, rfl, ha.symm, by rw [d2], by omega⟩
  · obtain rfl : k = L.length := by omega
    rw [List.take_length] at f6
    by_cases hd : w = [] ∨ w ∈ L
    · have d1 : decide (w = [] ∨ w ∈ L) = true := decide_eq_true hd
      have hadd : addW L w = L := if_pos hd
      simp -dsimp -implicitDefEqProofs (disch := omega) only [VCA, Nat.reduceEqDiff, ↓reduceIte, f6, d1]
      refine hK _ _ f0 f5 rfl ?_ S
      rw [hadd]
      show Acc h0 9 1 _ (e' 3) h'
      rw [f3]; exact A
    · have d1 : decide (w = [] ∨ w ∈ L) = false := decide_eq_false hd
      have hadd : addW L w = L ++ [w] := if_neg hd
      simp -dsimp -implicitDefEqProofs (disch := omega) only [VCA, Nat.reduceEqDiff, ↓reduceIte, okParts, forall_eq, exists_eq_left, f3, f4, f6, d1]
      refine A.app S (by simp only [List.length_map, List.length_cons, List.length_nil]; omega) (by simp only [List.length_map, List.length_cons, List.length_nil]; omega) fun a2 h3 A2 S3 => ?_
      simp -dsimp -implicitDefEqProofs (disch := omega) only [VCA, ↓reduceIte]
      refine hK _ _ f0 f5 rfl ?_ S3
      rw [hadd, List.map_append]
      exact A2
theorem refIxWords_ok (s : List UInt8) (hs : s.length ≤ 1000000) : PCalls (Pg G) 11 [.str s] (sl eStr (wordsM s)) := PCalls.acc (ty := 9) (sz := 1) fun h => by
  refine dcalls_of_vc Tryd.func11 hn11 hc11 (by rw [Tryd.ntmps11]; simp) (by rw [Tryd.ntmps11]; decide) ?_
  simp -dsimp -implicitDefEqProofs (disch := omega) only [VCA, c11]
  refine LoopVC.intro (fun m e h' => ∃ p : Nat, p ≤ s.length + 1 ∧ m = s.length + 1 - p ∧ e 0 = .str s ∧ e 4 = .str (refX s p).2 ∧ e 5 = aInt p ∧ Acc h 9 1 ((refX s p).1.map eStr) (e 3) h' ∧ Sim.Sub h h') (s.length + 1) ⟨0, by omega, by omega, rfl, rfl, rfl, .nil, Sub.refl _⟩ ?_
  rintro m e h' ⟨p, hp, rfl, e0, e4, e5, A, S⟩
  have hX := refX_len s p
  obtain ⟨L, hL⟩ : ∃ L, (refX s p).1 = L := ⟨_, rfl⟩
  obtain ⟨w, hw⟩ : ∃ w, (refX s p).2 = w := ⟨_, rfl⟩
  rw [hL, hw] at hX
  rw [hL] at A
  rw [hw] at e4
  simp -dsimp -implicitDefEqProofs (disch := omega) only [VCA, Nat.reduceEqDiff, ↓reduceIte, reduceCtorEq, e0, e5]
  refine Br.dec (fun hle => ?_) (fun hgt => ?_)
  · have hp' : p ≤ s.length := by omega
    by_cases hlt : p < s.length
    · have cB : PCalls (Pg G) 28 [.int .u8 (s.getD p 0).toNat] (.bool (blankI (bt s p))) := refBlank_ok (G := G) (s.getD p 0)
      have hdl : decide ((p : Int) < s.length) = true := decide_eq_true (by omega)
      cases hb : blankI (bt s p) with
      | false =>
        rw [hb] at cB
        have hn := refX_no hlt hb
        rw [hL, hw] at hn
        repeat' (first | ((with_reducible refine Br.dec (fun _ => ?_) (fun _ => ?_)) <;> try (exfalso; omega)) | ((with_reducible refine Br.eq (fun _ => ?_) (fun _ => ?_)) <;> try (exfalso; omega)) | ((with_reducible refine Br.ne (fun _ => ?_) (fun _ => ?_)) <;> try (exfalso; omega)) | ((with_reducible refine brNdec (fun _ => ?_) (fun _ => ?_)) <;> try (exfalso; omega)) | ((with_reducible refine brNeq (fun _ => ?_) (fun _ => ?_)) <;> try (exfalso; omega)) | with_reducible refine Br.intro (fun _ => ?_) (fun _ => ?_) | (with_reducible apply pcallE.of; · exact cB) | (with_reducible refine And.intro ?_ ?_; · omega) | simp -dsimp -implicitDefEqProofs (disch := omega) only [↓vcOps_sp 18, VCA, Nat.reduceEqDiff, ↓reduceIte, reduceCtorEq, e0, e4, e5, hdl])
        have hsg : s.take (p + 1) = s.take p ++ [s.getD p 0] := by rw [List.take_add_one, List.getD_eq_getElem?_getD, List.getElem?_eq_getElem hlt]; rfl
        have hsd : List.drop p (s.take (p + 1)) = [s.getD p 0] := by
          rw [hsg, List.drop_append_of_le_length (by rw [List.length_take]; omega), List.drop_eq_nil_of_le (by rw [List.length_take]; omega)]; rfl
        rw [hsd]
        refine ⟨by simp; omega, _, by omega, p + 1, by omega, rfl, by rw [hn], by omega, by rw [hn]; exact A, S⟩
      | true =>
        rw [hb] at cB
        have hn := refX_bl (s := s) hp' (fun _ => hb)
        rw [hL, hw] at hn
        repeat' (first | ((with_reducible refine Br.dec (fun _ => ?_) (fun _ => ?_)) <;> try (exfalso; omega)) | ((with_reducible refine Br.eq (fun _ => ?_) (fun _ => ?_)) <;> try (exfalso; omega)) | ((with_reducible refine Br.ne (fun _ => ?_) (fun _ => ?_)) <;> try (exfalso; omega)) | ((with_reducible refine brNdec (fun _ => ?_) (fun _ => ?_)) <;> try (exfalso; omega)) | ((with_reducible refine brNeq (fun _ => ?_) (fun _ => ?_)) <;> try (exfalso; omega)) | with_reducible refine Br.intro (fun _ => ?_) (fun _ => ?_) | (with_reducible apply pcallE.of; · exact cB) | (with_reducible refine And.intro ?_ ?_; · omega) | simp -dsimp -implicitDefEqProofs (disch := omega) only [↓vcOps_sp 18, VCA, Nat.reduceEqDiff, ↓reduceIte, reduceCtorEq, e0, e4, e5, hdl])
        refine word_ok (G := G) (h0 := h) (L := L) (w := w) ?_ ?_ ?_ ?_ ?_ ?_ ?_
        · exact e4
        · rfl
        · rfl
        · omega
        · exact A
        · exact S
        intro e' h2 q0 q5 q4 A2 S2
        have q0' : e' 0 = .str s := q0.trans e0
        have q5' : e' 5 = aInt p := q5.trans e5
        simp -dsimp -implicitDefEqProofs (disch := omega) only [VCA, Nat.reduceEqDiff, ↓reduceIte, reduceCtorEq, q0', q4, q5']
        exact ⟨_, by omega, p + 1, by omega, rfl, by rw [hn], by omega, by rw [hn]; exact A2, S2⟩
    · obtain rfl : p = s.length := by omega
      have hdl : decide ((s.length : Int) < s.length) = false := decide_eq_false (by omega)
      have hn := refX_bl (s := s) hp' (fun h => absurd h hlt)
      rw [hL, hw] at hn
      repeat' (first | ((with_reducible refine Br.dec (fun _ => ?_) (fun _ => ?_)) <;> try (exfalso; omega)) | ((with_reducible refine Br.eq (fun _ => ?_) (fun _ => ?_)) <;> try (exfalso; omega)) | ((with_reducible refine Br.ne (fun _ => ?_) (fun _ => ?_)) <;> try (exfalso; omega)) | ((with_reducible refine brNdec (fun _ => ?_) (fun _ => ?_)) <;> try (exfalso; omega)) | ((with_reducible refine brNeq (fun _ => ?_) (fun _ => ?_)) <;> try (exfalso; omega)) | with_reducible refine Br.intro (fun _ => ?_) (fun _ => ?_) | (with_reducible refine And.intro ?_ ?_; · omega) | simp -dsimp -implicitDefEqProofs (disch := omega) only [↓vcOps_sp 18, VCA, Nat.reduceEqDiff, ↓reduceIte, reduceCtorEq, e0, e4, e5, hdl])
      refine word_ok (G := G) (h0 := h) (L := L) (w := w) ?_ ?_ ?_ ?_ ?_ ?_ ?_
      · exact e4
      · rfl
      · rfl
      · omega
      · exact A
      · exact S
      intro e' h2 q0 q5 q4 A2 S2
      have q0' : e' 0 = .str s := q0.trans e0
      have q5' : e' 5 = aInt s.length := q5.trans e5
      simp -dsimp -implicitDefEqProofs (disch := omega) only [VCA, Nat.reduceEqDiff, ↓reduceIte, reduceCtorEq, q0', q4, q5']
      exact ⟨_, by omega, s.length + 1, by omega, rfl, by rw [hn], by omega, by rw [hn]; exact A2, S2⟩
  · obtain rfl : p = s.length + 1 := by omega
    have hf : refX s (s.length + 1) = (wordsM s, []) := by unfold refX; rw [if_neg (by omega)]
    rw [hf] at hL
    subst hL
    simp -dsimp -implicitDefEqProofs (disch := omega) only [VCA, Nat.reduceEqDiff, ↓reduceIte]
    exact ⟨_, Sub.refl _, A, S⟩
end Go.Proofs.K
end
section
/- Numbers in order, each once (plain). -/
set_option linter.unusedSimpArgs false
set_option linter.unusedVariables false
namespace Go.Proofs.K
open Go Go.Sim Go.Proofs
end Go.Proofs.K
end
section
/- The index's lists: Nodes and First of a word. -/
set_option linter.unusedSimpArgs false
set_option linter.unusedVariables false
namespace Go.Proofs.K
open Go Go.Sim Go.Proofs
variable {G : Glob}
structure HRef where
  word : List UInt8
  nodes : List Int
deriving DecidableEq, Inhabited
def eRef (x : HRef) : List AVal := [.str x.word, sl eInt x.nodes]
instance : LenE eRef 2 := ⟨fun _ => rfl⟩
/-- the nodes of a word -/
def refN (l : List HRef) (w : List UInt8) : List Int := match l.find? (fun x => x.word == w) with | some x => x.nodes | none => []
theorem refN_some {l : List HRef} {w : List UInt8} {k : Nat} (hk : k < l.length) (h1 : ∀ j, j < k → (nth l j).word ≠ w) (h2 : (nth l k).word = w) : refN l w = (nth l k).nodes := by
  have : l.find? (fun x => x.word == w) = some (nth l k) := by
    rw [List.find?_eq_some_iff_getElem]
    refine ⟨by simpa using h2, k, hk, ?_, fun j hj => ?_⟩
    · have := nth_some hk; rw [List.getElem?_eq_getElem hk] at this; exact Option.some.inj this
    · have hn : l[j]'(by omega) = nth l j := by have := nth_some (show j < l.length by omega); rw [List.getElem?_eq_getElem (by omega)] at this; exact Option.some.inj this
      rw [hn]; simpa using h1 j hj
  unfold refN; rw [this]
theorem refN_none {l : List HRef} {w : List UInt8} (h1 : ∀ j, j < l.length → (nth l j).word ≠ w) : refN l w = [] := by
  have : l.find? (fun x => x.word == w) = none := by
    rw [List.find?_eq_none]
    intro x hx
    obtain ⟨j, hj, rfl⟩ := mem_nth hx
    simpa using h1 j hj
  unfold refN; rw [this]
structure RefSm (x : HRef) : Prop where
  word : x.word.length ≤ 1073741824
  nodes : x.nodes.length ≤ 1073741824
def c31 : SFun := ⟨(.seq (.reg [⟨(some 2), (.mv (.c .emp)), none⟩]) (.seq (.seq (.reg [⟨(some 3), (.mv (.t 0)), none⟩, ⟨(some 4), (.isnil 0 false (.t 3)), none⟩]) (.cond (.t 4) (.seq (.reg [⟨(some 2), (.mv (.c .emp)), none⟩]) .ret) .skip)) (.seq (.reg [⟨(some 5), (.bldF 3 1 []), none⟩, ⟨(some 6), (.mv (.t 0)), none⟩, ⟨(some 7), (.app 3 1 8 (.t 5) (.t 6)), none⟩, ⟨(some 2), (.mv (.t 7)), none⟩]) .ret))), [(.tmp 2)]⟩
theorem hc31 : toSF Tryd.prog {} Tryd.f31 = some c31 := by kernel_rfl
theorem hn31 : (Tryd.f31.name == "runtime.NumGoroutine") = false := by kernel_rfl
theorem cloneZ_own {h : Heap} (l : List Int) (hl : l.length ≤ 1073741824) : DCalls (Pg G) 31 [sl eInt l] h (AccK h 3 1 (l.map eInt)) := by
  refine dcalls_of_vc Tryd.func31 hn31 hc31 (by rw [Tryd.ntmps31]; simp) (by rw [Tryd.ntmps31]; decide) ?_
  simp -dsimp -implicitDefEqProofs (disch := omega) only [VCA, ↓reduceIte, reduceCtorEq, c31]
  intro b hb
  refine Br.intro (fun ht => ?_) (fun hf => ?_)
  · simp -dsimp -implicitDefEqProofs (disch := omega) only [VCA, ↓reduceIte]
    have : l = [] := hb (by simpa using ht)
    subst this
    exact ⟨_, Sub.refl _, Acc.nil, Sub.refl _⟩
  · simp -dsimp -implicitDefEqProofs (disch := omega) only [VCA, Nat.reduceEqDiff, ↓reduceIte, reduceCtorEq, okParts, exists_eq_left]
    refine ⟨by omega, by omega, fun r hr => ?_⟩
    exact ⟨_, Sub.refl _, by simpa using Acc.root (cells := l.map eInt) hr (upd_same _ _ _), (Sub.refl _).upd hr⟩
theorem cloneZ_ok (l : List Int) (hl : l.length ≤ 1073741824) : PCalls (Pg G) 31 [sl eInt l] (sl eInt l) := PCalls.acc fun h => cloneZ_own l hl
def c15 : SFun := ⟨(.seq (.reg [⟨(some 4), (.mv (.c .emp)), none⟩]) (.seq (.seq (.reg [⟨(some 7), (.mv (.t 0)), none⟩, ⟨(some 8), (.len (.t 7)), none⟩, ⟨(some 9), (.mv (.c (.int .i64 (0)))), none⟩]) (.block 0 (.loop (.seq (.reg [⟨(some 10), (.bin .lss (.t 9) (.t 8)), none⟩]) (.seq (.cond (.t 10) .skip (.exit 0)) (.seq (.block 1 (.seq (.reg [⟨(some 11), (.idxA 2 (.t 7) (.t 9)), none⟩, ⟨(some 12), (.ld 2 true (.t 11)), none⟩, ⟨(some 6), (.new 45 2 [(.str []), .emp]), none⟩, ⟨none, (.st 2 (.t 6) (.t 12)), none⟩]) (.seq (.reg [⟨(some 13), (.fldA 0 (.t 6)), none⟩, ⟨(some 14), (.ld 1 false (.t 13)), none⟩, ⟨(some 15), (.mv (.t 1)), none⟩, ⟨(some 16), (.bin .eql (.t 14) (.t 15)), none⟩]) (.cond (.t 16) (.seq (.reg [⟨(some 17), (.fldA 1 (.t 6)), none⟩, ⟨(some 18), (.ld 1 false (.t 17)), none⟩, ⟨(some 19), (.pcall 31 [(.t 18)]), none⟩, ⟨(some 4), (.mv (.t 19)), none⟩]) .ret) .skip)))) (.reg [⟨(some 20), (.bin .add (.t 9) (.c (.int .i64 (1)))), none⟩, ⟨(some 9), (.mv (.t 20)), none⟩]))))))) (.seq (.reg [⟨(some 4), (.mv (.c .emp)), none⟩]) .ret))), [(.tmp 4)]⟩
theorem hc15 : toSF Tryd.prog {pure := [31]} Tryd.f15 = some c15 := by kernel_rfl
theorem hn15 : (Tryd.f15.name == "runtime.NumGoroutine") = false := by kernel_rfl
theorem ixNodes_ok (l : List HRef) (w : List UInt8) (hl : l.length ≤ 1073741824) (hs : ∀ x ∈ l, RefSm x) (hw : w.length ≤ 1073741824) : PCalls (Pg G) 15 [sl eRef l, .str w] (sl eInt (refN l w)) := by
  refine PCalls.outV fun h => ?_
  refine dcalls_of_vc Tryd.func15 hn15 hc15 (by rw [Tryd.ntmps15]; simp) (by rw [Tryd.ntmps15]; decide) ?_
  simp -dsimp -implicitDefEqProofs (disch := omega) only [VCA, ↓reduceIte, reduceCtorEq, c15]
  refine LoopVC.intro (fun m e h' => ∃ k : Nat, k ≤ l.length ∧ m = l.length - k ∧ e 1 = .str w ∧ e 7 = sl eRef l ∧ e 8 = aInt l.length ∧ e 9 = aInt k ∧ Sim.Sub h h' ∧ ∀ j, j < k → (nth l j).word ≠ w) l.length ⟨0, by omega, by omega, rfl, rfl, rfl, rfl, Sub.refl _, fun j hj => absurd hj (Nat.not_lt_zero j)⟩ ?_
  rintro m e h' ⟨k, hk, rfl, he1, he7, he8, he9, S, hj⟩
  simp -dsimp -implicitDefEqProofs (disch := omega) only [VCA, ↓reduceIte, ne_eq, he8, he9]
  refine Br.dec (fun hlt => ?_) (fun hge => ?_)
  · have hk' : k < l.length := by omega
    have hsk := hs _ (nth_mem' hk')
    have hC := cloneZ_ok (G := G) (nth l k).nodes hsk.nodes
    simp -dsimp -implicitDefEqProofs (disch := omega) only [VCA, Nat.reduceEqDiff, Nat.reduceAdd, Nat.reduceLT, Nat.reduceLeDiff, ↓reduceIte, setAt, exists_eq_left', eRef, he1, he7, he9, eRef]
    refine ⟨by omega, fun r hr => Br.intro (fun h2 => ?_) (fun h2 => ?_)⟩
    · have h2' : (nth l k).word = w := by simpa using h2
      rw [refN_some hk' hj h2']
      repeat' (first | ((with_reducible refine Br.dec (fun _ => ?_) (fun _ => ?_)) <;> try (exfalso; omega)) | ((with_reducible refine Br.eq (fun _ => ?_) (fun _ => ?_)) <;> try (exfalso; omega)) | ((with_reducible refine Br.ne (fun _ => ?_) (fun _ => ?_)) <;> try (exfalso; omega)) | ((with_reducible refine brNdec (fun _ => ?_) (fun _ => ?_)) <;> try (exfalso; omega)) | ((with_reducible refine brNeq (fun _ => ?_) (fun _ => ?_)) <;> try (exfalso; omega)) | with_reducible refine Br.intro (fun _ => ?_) (fun _ => ?_) | (with_reducible apply pcallE.of; · exact hC) | (with_reducible refine And.intro ?_ ?_; · omega) | simp -dsimp -implicitDefEqProofs (disch := omega) only [VCA, Nat.reduceEqDiff, Nat.reduceAdd, Nat.reduceLT, ↓reduceIte, exists_eq_left'])
      exact ⟨_, Sub.refl _, S.upd (S.none hr), .one _ _ (.refl _)⟩
    · have h2' : (nth l k).word ≠ w := by simpa using h2
      simp -dsimp -implicitDefEqProofs (disch := omega) only [VCA, Nat.reduceEqDiff, ↓reduceIte, he1, he7, he8, he9]
      refine ⟨_, ?_, k + 1, by omega, rfl, by omega, S.upd (S.none hr), fun j hj' => ?_⟩
      · omega
      · by_cases h3 : j = k
        · subst h3; exact h2'
        · exact hj j (by omega)
  · obtain rfl : k = l.length := by omega
    simp -dsimp -implicitDefEqProofs (disch := omega) only [VCA, ↓reduceIte]
    rw [refN_none hj]
    exact ⟨_, Sub.refl _, S, .one _ _ .emp⟩
def c14 : SFun := ⟨(.seq (.reg [⟨(some 4), (.mv (.c (.int .i64 (0)))), none⟩, ⟨(some 5), (.mv (.c (.bool false))), none⟩]) (.seq (.reg [⟨(some 7), (.mv (.t 0)), none⟩, ⟨(some 8), (.mv (.t 1)), none⟩, ⟨(some 9), (.pcall 15 [(.t 7), (.t 8)]), none⟩, ⟨(some 6), (.mv (.t 9)), none⟩]) (.seq (.seq (.reg [⟨(some 10), (.mv (.t 6)), none⟩, ⟨(some 11), (.len (.t 10)), none⟩, ⟨(some 12), (.bin .eql (.t 11) (.c (.int .i64 (0)))), none⟩]) (.cond (.t 12) (.seq (.reg [⟨(some 4), (.mv (.c (.int .i64 (0)))), none⟩, ⟨(some 5), (.mv (.c (.bool false))), none⟩]) .ret) .skip)) (.seq (.reg [⟨(some 13), (.mv (.t 6)), none⟩, ⟨(some 14), (.idxA 1 (.t 13) (.c (.int .i64 (0)))), none⟩, ⟨(some 15), (.ld 1 false (.t 14)), none⟩, ⟨(some 4), (.mv (.t 15)), none⟩, ⟨(some 5), (.mv (.c (.bool true))), none⟩]) .ret)))), [(.tmp 4), (.tmp 5)]⟩
theorem hc14 : toSF Tryd.prog {pure := [15]} Tryd.f14 = some c14 := by kernel_rfl
theorem hn14 : (Tryd.f14.name == "runtime.NumGoroutine") = false := by kernel_rfl
theorem ixFirst_ok (l : List HRef) (w : List UInt8) (hl : l.length ≤ 1073741824) (hs : ∀ x ∈ l, RefSm x) (hw : w.length ≤ 1073741824) : PCalls (Pg G) 14 [sl eRef l, .str w] (.tup [aInt ((refN l w).headD 0), .bool (decide (refN l w ≠ []))]) := by
  intro h
  have hN := ixNodes_ok (G := G) l w hl hs hw
  have hn : (refN l w).length ≤ 1073741824 := by
    unfold refN
    split
    · rename_i x hx; exact (hs x (List.mem_of_find?_eq_some hx)).nodes
    · simp
  refine dcalls_of_vc Tryd.func14 hn14 hc14 (by rw [Tryd.ntmps14]; simp) (by rw [Tryd.ntmps14]; decide) ?_
  simp -dsimp -implicitDefEqProofs (disch := omega) only [VCA, Nat.reduceEqDiff, ↓reduceIte, reduceCtorEq, ne_eq, c14]
  repeat' (first | ((with_reducible refine Br.dec (fun _ => ?_) (fun _ => ?_)) <;> try (exfalso; omega)) | ((with_reducible refine Br.eq (fun _ => ?_) (fun _ => ?_)) <;> try (exfalso; omega)) | ((with_reducible refine Br.ne (fun _ => ?_) (fun _ => ?_)) <;> try (exfalso; omega)) | ((with_reducible refine brNdec (fun _ => ?_) (fun _ => ?_)) <;> try (exfalso; omega)) | ((with_reducible refine brNeq (fun _ => ?_) (fun _ => ?_)) <;> try (exfalso; omega)) | with_reducible refine Br.intro (fun _ => ?_) (fun _ => ?_) | (with_reducible apply pcallE.of; · exact hN) | (with_reducible refine And.intro ?_ ?_; · omega) | simp -dsimp -implicitDefEqProofs (disch := omega) only [VCA, Nat.reduceEqDiff, ↓reduceIte, exists_eq_right_right, eInt])
  all_goals rename_i hx; refine ⟨Sub.refl _, ?_⟩; generalize refN l w = m at hx; cases m <;> first | (exfalso; simp at hx; omega) | simp_all [nth, aInt]
end Go.Proofs.K
end
section
/- Numbers compared: cmp.Compare. -/
set_option linter.unusedSimpArgs false
set_option linter.unusedVariables false
namespace Go.Proofs.K
open Go Go.Sim Go.Proofs
variable {G : Glob}
def cmpI (a b : Int) : Int := if a < b then -1 else if b < a then 1 else 0
def c68 : SFun := ⟨(.seq (.reg [⟨(some 2), (.mv (.c (.bool false))), none⟩]) (.seq (.reg [⟨(some 3), (.mv (.t 0)), none⟩, ⟨(some 4), (.mv (.t 0)), none⟩, ⟨(some 5), (.bin .neq (.t 3) (.t 4)), none⟩, ⟨(some 2), (.mv (.t 5)), none⟩]) .ret)), [(.tmp 2)]⟩
theorem hc68 : toSF Tryd.prog {} Tryd.f68 = some c68 := by kernel_rfl
theorem hn68 : (Tryd.f68.name == "runtime.NumGoroutine") = false := by kernel_rfl
theorem isNaN_ok (a : Int) : PCalls (Pg G) 68 [aInt a] (.bool false) := fun h => by
  refine dcalls_of_vc Tryd.func68 hn68 hc68 (by rw [Tryd.ntmps68]; simp) (by rw [Tryd.ntmps68]; decide) ?_
  simp -dsimp -implicitDefEqProofs (disch := omega) only [VCA, Nat.reduceEqDiff, ↓reduceIte, reduceCtorEq, exists_eq_right_right, c68]
  repeat' (first | ((with_reducible refine Br.dec (fun _ => ?_) (fun _ => ?_)) <;> try (exfalso; omega)) | ((with_reducible refine Br.eq (fun _ => ?_) (fun _ => ?_)) <;> try (exfalso; omega)) | ((with_reducible refine Br.ne (fun _ => ?_) (fun _ => ?_)) <;> try (exfalso; omega)) | ((with_reducible refine brNdec (fun _ => ?_) (fun _ => ?_)) <;> try (exfalso; omega)) | ((with_reducible refine brNeq (fun _ => ?_) (fun _ => ?_)) <;> try (exfalso; omega)) | with_reducible refine Br.intro (fun _ => ?_) (fun _ => ?_) | (with_reducible refine And.intro ?_ ?_; · omega) | simp -dsimp -implicitDefEqProofs (disch := omega) only [VCA, pg_gl, ↓upd_none, Nat.reduceEqDiff, Nat.reduceBEq, Nat.reduceAdd, Nat.reduceSub, Nat.reduceMul, Nat.reduceLT, Nat.reduceLeDiff, ↓reduceIte, reduceCtorEq, rsOf, rootsOf, SOp.rd, SI.rd, SX.rd, rdL, rdO, rdP, okParts, eqCells, okEqCells, fillA, okFill, setAt, implies_true, forall_const, forall_eq, ne_eq, exists_eq_right_right, exists_eq_right, exists_eq_left, exists_eq_left', rootL, eInt, lit_eq])
  all_goals first | exact Sub.refl _ | exact ⟨Sub.refl _, by simp⟩
def c52 : SFun := ⟨(.seq (.reg [⟨(some 4), (.mv (.c (.int .i64 (0)))), none⟩]) (.seq (.reg [⟨(some 7), (.mv (.t 0)), none⟩, ⟨(some 8), (.pcall 68 [(.t 7)]), none⟩, ⟨(some 5), (.mv (.t 8)), none⟩]) (.seq (.reg [⟨(some 9), (.mv (.t 1)), none⟩, ⟨(some 10), (.pcall 68 [(.t 9)]), none⟩, ⟨(some 6), (.mv (.t 10)), none⟩]) (.seq (.seq (.reg [⟨(some 11), (.mv (.t 5)), none⟩]) (.cond (.t 11) (.seq (.seq (.reg [⟨(some 12), (.mv (.t 6)), none⟩]) (.cond (.t 12) (.seq (.reg [⟨(some 4), (.mv (.c (.int .i64 (0)))), none⟩]) .ret) .skip)) (.seq (.reg [⟨(some 4), (.mv (.c (.int .i64 (-1)))), none⟩]) .ret)) .skip)) (.seq (.seq (.reg [⟨(some 13), (.mv (.t 6)), none⟩]) (.cond (.t 13) (.seq (.reg [⟨(some 4), (.mv (.c (.int .i64 (1)))), none⟩]) .ret) .skip)) (.seq (.seq (.reg [⟨(some 14), (.mv (.t 0)), none⟩, ⟨(some 15), (.mv (.t 1)), none⟩, ⟨(some 16), (.bin .lss (.t 14) (.t 15)), none⟩]) (.cond (.t 16) (.seq (.reg [⟨(some 4), (.mv (.c (.int .i64 (-1)))), none⟩]) .ret) .skip)) (.seq (.seq (.reg [⟨(some 17), (.mv (.t 0)), none⟩, ⟨(some 18), (.mv (.t 1)), none⟩, ⟨(some 19), (.bin .gtr (.t 17) (.t 18)), none⟩]) (.cond (.t 19) (.seq (.reg [⟨(some 4), (.mv (.c (.int .i64 (1)))), none⟩]) .ret) .skip)) (.seq (.reg [⟨(some 4), (.mv (.c (.int .i64 (0)))), none⟩]) .ret)))))))), [(.tmp 4)]⟩
theorem hc52 : toSF Tryd.prog {pure := [68]} Tryd.f52 = some c52 := by kernel_rfl
theorem hn52 : (Tryd.f52.name == "runtime.NumGoroutine") = false := by kernel_rfl
theorem cmp_ok (a b : Int) : PCalls (Pg G) 52 [aInt a, aInt b] (aInt (cmpI a b)) := fun h => by
  refine dcalls_of_vc Tryd.func52 hn52 hc52 (by rw [Tryd.ntmps52]; simp) (by rw [Tryd.ntmps52]; decide) ?_
  simp -dsimp -implicitDefEqProofs (disch := omega) only [VCA, ↓reduceIte, reduceCtorEq, c52]
  repeat' (first | ((with_reducible refine Br.dec (fun _ => ?_) (fun _ => ?_)) <;> try (exfalso; omega)) | ((with_reducible refine Br.eq (fun _ => ?_) (fun _ => ?_)) <;> try (exfalso; omega)) | ((with_reducible refine Br.ne (fun _ => ?_) (fun _ => ?_)) <;> try (exfalso; omega)) | ((with_reducible refine brNdec (fun _ => ?_) (fun _ => ?_)) <;> try (exfalso; omega)) | ((with_reducible refine brNeq (fun _ => ?_) (fun _ => ?_)) <;> try (exfalso; omega)) | with_reducible refine Br.intro (fun _ => ?_) (fun _ => ?_) | (with_reducible apply pcallE.of; · exact isNaN_ok (G := G) a) | (with_reducible apply pcallE.of; · exact isNaN_ok (G := G) b) | (with_reducible refine And.intro ?_ ?_; · omega) | simp -dsimp -implicitDefEqProofs (disch := omega) only [VCA, Nat.reduceEqDiff, ↓reduceIte, reduceCtorEq, exists_eq_right_right])
  · rename_i q; exact ⟨Sub.refl _, by unfold cmpI; rw [if_pos q]⟩
  · rename_i q1 q; exact ⟨Sub.refl _, by unfold cmpI; rw [if_neg q1, if_pos q]⟩
  · rename_i q1 q; exact ⟨Sub.refl _, by unfold cmpI; rw [if_neg q1, if_neg q]⟩
end Go.Proofs.K
end
section
/- Texts compared; binary search in a list (plain contracts of the index's library calls). -/
set_option linter.unusedSimpArgs false
set_option linter.unusedVariables false
namespace Go.Proofs.K
open Go Go.Sim Go.Proofs
variable {G : Glob}
/-! ## the order of texts -/
abbrev ltS (a b : List UInt8) : Bool := Op.bytesLess a b
theorem ltS_irr : ∀ a : List UInt8, ltS a a = false
  | [] => rfl
  | x :: a => by
    have := ltS_irr a
    unfold ltS at this ⊢
    unfold Op.bytesLess
    simp [this]
theorem ltS_tri : ∀ a b : List UInt8, ltS a b = true ∨ a = b ∨ ltS b a = true
  | [], [] => .inr (.inl rfl)
  | [], _ :: _ => .inl rfl
  | _ :: _, [] => .inr (.inr rfl)
  | x :: a, y :: b => by
    unfold ltS
    unfold Op.bytesLess
    simp only [Bool.or_eq_true, Bool.and_eq_true, decide_eq_true_eq, beq_iff_eq, List.cons.injEq]
    rcases Nat.lt_trichotomy x.toNat y.toNat with h | h | h
    · exact .inl (.inl (UInt8.lt_iff_toNat_lt.2 h))
    · have e : x = y := UInt8.toNat_inj.1 h
      rcases ltS_tri a b with h | h | h
      · exact .inl (.inr ⟨e, h⟩)
      · exact .inr (.inl ⟨e, h⟩)
      · exact .inr (.inr (.inr ⟨e.symm, h⟩))
    · exact .inr (.inr (.inl (UInt8.lt_iff_toNat_lt.2 h)))
theorem ltS_trans : ∀ a b c : List UInt8, ltS a b = true → ltS b c = true → ltS a c = true
  | [], [], c, h, _ => by cases h
  | [], _ :: _, [], _, h => by cases h
  | [], _ :: _, _ :: _, _, _ => rfl
  | _ :: _, [], _, h, _ => by cases h
  | _ :: _, _ :: _, [], _, h => by cases h
  | x :: a, y :: b, z :: c, h1, h2 => by
    have ih := ltS_trans a b c
    unfold ltS at h1 h2 ih ⊢
    unfold Op.bytesLess at h1 h2 ⊢
    simp only [Bool.or_eq_true, Bool.and_eq_true, decide_eq_true_eq, beq_iff_eq, UInt8.lt_iff_toNat_lt] at h1 h2 ⊢
    rcases h1 with h1 | ⟨rfl, h1⟩
    · rcases h2 with h2 | ⟨rfl, h2⟩
      · left; omega
      · exact .inl h1
    · rcases h2 with h2 | ⟨rfl, h2⟩
      · exact .inl h2
      · exact .inr ⟨rfl, ih h1 h2⟩
theorem ltS_asym {a b : List UInt8} (h : ltS a b = true) : ltS b a = false := by
  cases h2 : ltS b a with
  | false => rfl
  | true => have := ltS_trans a b a h h2; rw [ltS_irr] at this; cases this
/-- texts compared: less, the same, more -/
def cmpS (a b : List UInt8) : Int := if ltS a b = true then -1 else if a = b then 0 else 1
theorem cmpS_neg {a b : List UInt8} : cmpS a b < 0 ↔ ltS a b = true := by
  unfold cmpS; split
  · rename_i h; exact ⟨fun _ => h, fun _ => by decide⟩
  · rename_i h; split <;> exact ⟨fun q => absurd q (by decide), fun q => absurd q h⟩
theorem cmpS_zero {a b : List UInt8} : cmpS a b = 0 ↔ a = b := by
  unfold cmpS; split
  · rename_i h; exact ⟨fun q => absurd q (by decide), fun q => by rw [q, ltS_irr] at h; cases h⟩
  · split
    · rename_i h; exact ⟨fun _ => h, fun _ => rfl⟩
    · rename_i h; exact ⟨fun q => absurd q (by decide), fun q => absurd q h⟩
theorem cmpZ_neg {a b : Int} : cmpI a b < 0 ↔ a < b := by unfold cmpI; (repeat' split) <;> omega
def c76 : SFun := ⟨(.seq (.reg [⟨(some 2), (.mv (.c (.bool false))), none⟩]) (.seq (.reg [⟨(some 3), (.mv (.t 0)), none⟩, ⟨(some 4), (.mv (.t 0)), none⟩, ⟨(some 5), (.bin .neq (.t 3) (.t 4)), none⟩, ⟨(some 2), (.mv (.t 5)), none⟩]) .ret)), [(.tmp 2)]⟩
theorem hc76 : toSF Tryd.prog {} Tryd.f76 = some c76 := by kernel_rfl
theorem hn76 : (Tryd.f76.name == "runtime.NumGoroutine") = false := by kernel_rfl
theorem nanS_ok (a : List UInt8) : PCalls (Pg G) 76 [.str a] (.bool false) := fun h => by
  refine dcalls_of_vc Tryd.func76 hn76 hc76 (by rw [Tryd.ntmps76]; simp) (by rw [Tryd.ntmps76]; decide) ?_
  simp -dsimp -implicitDefEqProofs (disch := omega) only [VCA, Nat.reduceEqDiff, ↓reduceIte, reduceCtorEq, exists_eq_right_right, c76]
  exact ⟨Sub.refl _, by simp⟩
def c65 : SFun := ⟨(.seq (.reg [⟨(some 4), (.mv (.c (.int .i64 (0)))), none⟩]) (.seq (.reg [⟨(some 7), (.mv (.t 0)), none⟩, ⟨(some 8), (.pcall 76 [(.t 7)]), none⟩, ⟨(some 5), (.mv (.t 8)), none⟩]) (.seq (.reg [⟨(some 9), (.mv (.t 1)), none⟩, ⟨(some 10), (.pcall 76 [(.t 9)]), none⟩, ⟨(some 6), (.mv (.t 10)), none⟩]) (.seq (.seq (.reg [⟨(some 11), (.mv (.t 5)), none⟩]) (.cond (.t 11) (.seq (.seq (.reg [⟨(some 12), (.mv (.t 6)), none⟩]) (.cond (.t 12) (.seq (.reg [⟨(some 4), (.mv (.c (.int .i64 (0)))), none⟩]) .ret) .skip)) (.seq (.reg [⟨(some 4), (.mv (.c (.int .i64 (-1)))), none⟩]) .ret)) .skip)) (.seq (.seq (.reg [⟨(some 13), (.mv (.t 6)), none⟩]) (.cond (.t 13) (.seq (.reg [⟨(some 4), (.mv (.c (.int .i64 (1)))), none⟩]) .ret) .skip)) (.seq (.seq (.reg [⟨(some 14), (.mv (.t 0)), none⟩, ⟨(some 15), (.mv (.t 1)), none⟩, ⟨(some 16), (.bin .lss (.t 14) (.t 15)), none⟩]) (.cond (.t 16) (.seq (.reg [⟨(some 4), (.mv (.c (.int .i64 (-1)))), none⟩]) .ret) .skip)) (.seq (.seq (.reg [⟨(some 17), (.mv (.t 0)), none⟩, ⟨(some 18), (.mv (.t 1)), none⟩, ⟨(some 19), (.bin .gtr (.t 17) (.t 18)), none⟩]) (.cond (.t 19) (.seq (.reg [⟨(some 4), (.mv (.c (.int .i64 (1)))), none⟩]) .ret) .skip)) (.seq (.reg [⟨(some 4), (.mv (.c (.int .i64 (0)))), none⟩]) .ret)))))))), [(.tmp 4)]⟩
theorem hc65 : toSF Tryd.prog {pure := [76]} Tryd.f65 = some c65 := by kernel_rfl
theorem hn65 : (Tryd.f65.name == "runtime.NumGoroutine") = false := by kernel_rfl
theorem cmpS_ok (a b : List UInt8) : PCalls (Pg G) 65 [.str a, .str b] (aInt (cmpS a b)) := fun h => by
  have n1 := nanS_ok (G := G) a
  have n2 := nanS_ok (G := G) b
  rcases ltS_tri a b with h1 | h1 | h1
  · have d : Op.bytesLess a b = true := h1
    have e : cmpS a b = -1 := if_pos h1
    rw [e]
    refine dcalls_of_vc Tryd.func65 hn65 hc65 (by rw [Tryd.ntmps65]; simp) (by rw [Tryd.ntmps65]; decide) ?_
    simp -dsimp -implicitDefEqProofs (disch := omega) only [VCA, ↓reduceIte, reduceCtorEq, c65]
    repeat' (first | ((with_reducible refine Br.dec (fun _ => ?_) (fun _ => ?_)) <;> try (exfalso; omega)) | ((with_reducible refine Br.eq (fun _ => ?_) (fun _ => ?_)) <;> try (exfalso; omega)) | ((with_reducible refine Br.ne (fun _ => ?_) (fun _ => ?_)) <;> try (exfalso; omega)) | ((with_reducible refine brNdec (fun _ => ?_) (fun _ => ?_)) <;> try (exfalso; omega)) | ((with_reducible refine brNeq (fun _ => ?_) (fun _ => ?_)) <;> try (exfalso; omega)) | with_reducible refine Br.intro (fun _ => ?_) (fun _ => ?_) | (with_reducible apply pcallE.of; · exact n1) | (with_reducible apply pcallE.of; · exact n2) | (with_reducible refine And.intro ?_ ?_; · omega) | simp -dsimp -implicitDefEqProofs (disch := omega) only [VCA, Nat.reduceEqDiff, ↓reduceIte, reduceCtorEq, exists_eq_right, d])
    all_goals first | exact Sub.refl _ | trace_state
  · subst h1
    have d : Op.bytesLess a a = false := ltS_irr a
    have e : cmpS a a = 0 := cmpS_zero.2 rfl
    have e2 : (a == a) = true := by simp
    rw [e]
    refine dcalls_of_vc Tryd.func65 hn65 hc65 (by rw [Tryd.ntmps65]; simp) (by rw [Tryd.ntmps65]; decide) ?_
    simp -dsimp -implicitDefEqProofs (disch := omega) only [VCA, ↓reduceIte, reduceCtorEq, c65]
    repeat' (first | ((with_reducible refine Br.dec (fun _ => ?_) (fun _ => ?_)) <;> try (exfalso; omega)) | ((with_reducible refine Br.eq (fun _ => ?_) (fun _ => ?_)) <;> try (exfalso; omega)) | ((with_reducible refine Br.ne (fun _ => ?_) (fun _ => ?_)) <;> try (exfalso; omega)) | ((with_reducible refine brNdec (fun _ => ?_) (fun _ => ?_)) <;> try (exfalso; omega)) | ((with_reducible refine brNeq (fun _ => ?_) (fun _ => ?_)) <;> try (exfalso; omega)) | with_reducible refine Br.intro (fun _ => ?_) (fun _ => ?_) | (with_reducible apply pcallE.of; · exact n1) | (with_reducible apply pcallE.of; · exact n2) | (with_reducible refine And.intro ?_ ?_; · omega) | simp -dsimp -implicitDefEqProofs (disch := omega) only [VCA, Nat.reduceEqDiff, ↓reduceIte, reduceCtorEq, exists_eq_right, d, e2])
    all_goals first | exact Sub.refl _ | trace_state
  · have d : Op.bytesLess a b = false := ltS_asym h1
    have hne : a ≠ b := fun q => by rw [q, ltS_irr] at h1; cases h1
    have e : cmpS a b = 1 := by unfold cmpS; rw [if_neg (by rw [show ltS a b = false from d]; decide), if_neg hne]
    have e2 : (a == b) = false := by simpa using hne
    rw [e]
    refine dcalls_of_vc Tryd.func65 hn65 hc65 (by rw [Tryd.ntmps65]; simp) (by rw [Tryd.ntmps65]; decide) ?_
    simp -dsimp -implicitDefEqProofs (disch := omega) only [VCA, ↓reduceIte, reduceCtorEq, c65]
    repeat' (first | ((with_reducible refine Br.dec (fun _ => ?_) (fun _ => ?_)) <;> try (exfalso; omega)) | ((with_reducible refine Br.eq (fun _ => ?_) (fun _ => ?_)) <;> try (exfalso; omega)) | ((with_reducible refine Br.ne (fun _ => ?_) (fun _ => ?_)) <;> try (exfalso; omega)) | ((with_reducible refine brNdec (fun _ => ?_) (fun _ => ?_)) <;> try (exfalso; omega)) | ((with_reducible refine brNeq (fun _ => ?_) (fun _ => ?_)) <;> try (exfalso; omega)) | with_reducible refine Br.intro (fun _ => ?_) (fun _ => ?_) | (with_reducible apply pcallE.of; · exact n1) | (with_reducible apply pcallE.of; · exact n2) | (with_reducible refine And.intro ?_ ?_; · omega) | simp -dsimp -implicitDefEqProofs (disch := omega) only [VCA, Nat.reduceEqDiff, ↓reduceIte, reduceCtorEq, exists_eq_right, d, e2])
    all_goals first | exact Sub.refl _ | trace_state
theorem cmpI_ok (a b : Int) : PCalls (Pg G) 52 [aInt a, aInt b] (aInt (cmpI a b)) := cmp_ok a b
end Go.Proofs.K
end
section
/- Binary search in lists of one's own. -/
set_option linter.unusedSimpArgs false
set_option linter.unusedVariables false
namespace Go.Proofs.K
open Go Go.Sim Go.Proofs
variable {G : Glob}
def c63 : SFun := ⟨(.seq (.reg [⟨(some 6), (.mv (.c (.int .i64 (0)))), none⟩, ⟨(some 7), (.mv (.c (.bool false))), none⟩]) (.seq (.reg [⟨(some 12), (.mv (.t 0)), none⟩, ⟨(some 13), (.len (.t 12)), none⟩, ⟨(some 8), (.mv (.t 13)), none⟩]) (.seq (.reg [⟨(some 14), (.mv (.t 8)), none⟩, ⟨(some 9), (.mv (.c (.int .i64 (0)))), none⟩, ⟨(some 10), (.mv (.t 14)), none⟩]) (.seq (.block 0 (.loop (.seq (.seq (.reg [⟨(some 15), (.mv (.t 9)), none⟩, ⟨(some 16), (.mv (.t 10)), none⟩, ⟨(some 17), (.bin .lss (.t 15) (.t 16)), none⟩]) (.cond (.t 17) .skip (.exit 0))) (.block 1 (.seq (.reg [⟨(some 18), (.mv (.t 9)), none⟩, ⟨(some 19), (.mv (.t 10)), none⟩, ⟨(some 20), (.bin .add (.t 18) (.t 19)), none⟩, ⟨(some 21), (.cvi .u64 (.t 20)), none⟩, ⟨(some 22), (.bin .shr (.t 21) (.c (.int .u64 (1)))), none⟩, ⟨(some 23), (.cvi .i64 (.t 22)), none⟩, ⟨(some 11), (.mv (.t 23)), none⟩]) (.seq (.reg [⟨(some 24), (.mv (.t 2)), none⟩, ⟨(some 25), (.mv (.t 0)), none⟩, ⟨(some 26), (.mv (.t 11)), none⟩, ⟨(some 27), (.idxA 2 (.t 25) (.t 26)), none⟩, ⟨(some 28), (.ld 2 true (.t 27)), none⟩, ⟨(some 29), (.mv (.t 1)), none⟩, ⟨(some 30), (.call (.t 24) [(.t 28), (.t 29)]), none⟩, ⟨(some 31), (.bin .lss (.t 30) (.c (.int .i64 (0)))), none⟩]) (.cond (.t 31) (.reg [⟨(some 32), (.mv (.t 11)), none⟩, ⟨(some 33), (.bin .add (.t 32) (.c (.int .i64 (1)))), none⟩, ⟨(some 9), (.mv (.t 33)), none⟩]) (.reg [⟨(some 34), (.mv (.t 11)), none⟩, ⟨(some 10), (.mv (.t 34)), none⟩])))))))) (.seq (.reg [⟨(some 35), (.mv (.t 9)), none⟩, ⟨(some 36), (.mv (.t 9)), none⟩, ⟨(some 37), (.mv (.t 8)), none⟩, ⟨(some 38), (.bin .lss (.t 36) (.t 37)), none⟩, ⟨(some 39), (.mv (.t 38)), none⟩, ⟨(some 40), (.mv (.t 2)), (some (39, true))⟩, ⟨(some 41), (.mv (.t 0)), (some (39, true))⟩, ⟨(some 42), (.mv (.t 9)), (some (39, true))⟩, ⟨(some 43), (.idxA 2 (.t 41) (.t 42)), (some (39, true))⟩, ⟨(some 44), (.ld 2 true (.t 43)), (some (39, true))⟩, ⟨(some 45), (.mv (.t 1)), (some (39, true))⟩, ⟨(some 46), (.call (.t 40) [(.t 44), (.t 45)]), (some (39, true))⟩, ⟨(some 47), (.bin .eql (.t 46) (.c (.int .i64 (0)))), (some (39, true))⟩, ⟨(some 48), (.pick (.t 39) (.t 47) (.c (.bool false))), none⟩, ⟨(some 6), (.mv (.t 35)), none⟩, ⟨(some 7), (.mv (.t 48)), none⟩]) .ret))))), [(.tmp 6), (.tmp 7)]⟩
theorem hc63 : toSF Tryd.prog {} Tryd.f63 = some c63 := by kernel_rfl
theorem hn63 : (Tryd.f63.name == "runtime.NumGoroutine") = false := by kernel_rfl
theorem bsR_ok {h : Heap} {a x : AVal} {n k f : Nat} {A B : List AVal} {row : Nat → List AVal} {c : Nat → Int} (hn : n ≤ 1073741824) (hk : k ≤ n) (hrl : ∀ j, j < n → (row j).length = 2)
    (ha : (n = 0 ∧ a = .emp) ∨ ∃ r ob, a = .osl r 2 0 n ∧ h r = some ob ∧ n ≤ ob.es.length ∧ ∀ j, j < n → ob.es.getD j [] = row j)
    (hlt : ∀ j, j < k → c j < 0) (hge : ∀ j, k ≤ j → j < n → 0 ≤ c j)
    (hf : ∀ j, j < n → DCalls (Pg G) f (A ++ ([.agg (row j), x] ++ B)) h fun r h' => r = aInt (c j) ∧ h' = h) :
    DCalls (Pg G) 63 [a, x, .fn f A B] h fun r h' => r = .tup [aInt k, .bool (decide (k < n) && c k == 0)] ∧ h' = h := by
  rcases ha with ⟨rfl, rfl⟩ | ⟨r, ob, rfl, hr, hle, hrow⟩
  · obtain rfl : k = 0 := by omega
    refine dcalls_of_vc Tryd.func63 hn63 hc63 (by rw [Tryd.ntmps63]; simp) (by rw [Tryd.ntmps63]; decide) ?_
    simp -dsimp -implicitDefEqProofs (disch := omega) only [VCA, Nat.reduceEqDiff, Nat.reduceLT, ↓reduceIte, reduceCtorEq, c63]
    refine LoopVC.intro (fun m e h' => m = 0 ∧ e 8 = aInt 0 ∧ e 9 = aInt 0 ∧ e 10 = aInt 0 ∧ h' = h) 0 ⟨rfl, rfl, rfl, rfl, rfl⟩ ?_
    rintro m e h' ⟨rfl, e8, e9, e10, rfl⟩
    repeat' (first | ((with_reducible refine Br.dec (fun _ => ?_) (fun _ => ?_)) <;> try (exfalso; omega)) | ((with_reducible refine Br.eq (fun _ => ?_) (fun _ => ?_)) <;> try (exfalso; omega)) | ((with_reducible refine Br.ne (fun _ => ?_) (fun _ => ?_)) <;> try (exfalso; omega)) | ((with_reducible refine brNdec (fun _ => ?_) (fun _ => ?_)) <;> try (exfalso; omega)) | ((with_reducible refine brNeq (fun _ => ?_) (fun _ => ?_)) <;> try (exfalso; omega)) | with_reducible refine Br.intro (fun _ => ?_) (fun _ => ?_) | (with_reducible refine And.intro ?_ ?_; · omega) | simp -dsimp -implicitDefEqProofs (disch := omega) only [↓vcOps_sp 39, VCA, Nat.reduceEqDiff, ↓reduceIte, exists_eq_right_right, e8, e9, e10])
    exact ⟨Sub.refl _, rfl⟩
  · refine dcalls_of_vc Tryd.func63 hn63 hc63 (by rw [Tryd.ntmps63]; simp) (by rw [Tryd.ntmps63]; decide) ?_
    simp -dsimp -implicitDefEqProofs (disch := omega) only [VCA, Nat.reduceEqDiff, ↓reduceIte, reduceCtorEq, c63]
    refine LoopVC.intro (fun m e h' => ∃ i j : Nat, i ≤ k ∧ k ≤ j ∧ j ≤ n ∧ m = j - i ∧ e 0 = .osl r 2 0 n ∧ e 1 = x ∧ e 2 = .fn f A B ∧ e 8 = aInt n ∧ e 9 = aInt i ∧ e 10 = aInt j ∧ h' = h) n ⟨0, n, by omega, hk, Nat.le_refl _, by omega, rfl, rfl, rfl, rfl, rfl, rfl, rfl⟩ ?_
    rintro m e h' ⟨i, j, hi, hj, hjn, rfl, e0, e1, e2, e8, e9, e10, rfl⟩
    by_cases hij : i < j
    · obtain ⟨q, hq⟩ : ∃ q : Nat, (i + j) / 2 = q := ⟨_, rfl⟩
      have hqn : q < n := by omega
      have hm : IntKind.i64.wrap ((IntKind.u64.wrap ((i : Int) + (j : Int))).fdiv (2 ^ min (Int.toNat 1) IntKind.u64.bits)) = (q : Int) := by
        have e1 : (2 : Int) ^ min (Int.toNat 1) IntKind.u64.bits = 2 := rfl
        have e2 : IntKind.u64.wrap ((i : Int) + (j : Int)) = (i : Int) + (j : Int) := by simp only [IntKind.wrap_u64]; omega
        rw [e1, e2, Int.fdiv_eq_ediv_of_nonneg _ (by omega)]
        simp only [IntKind.wrap_i64]
        omega
      have hqt : ((q : Nat) : Int).toNat = q := by omega
      have hrq := hrow q hqn
      have hlq := hrl q hqn
      have hfq := hf q hqn
      have d1 : decide ((i : Int) < (j : Int)) = true := decide_eq_true (by omega)
      have htk : List.take 2 (row q) = row q := List.take_of_length_le (by rw [hlq]; exact Nat.le_refl _)
      simp -dsimp -implicitDefEqProofs (disch := omega) only [VCA, Nat.reduceEqDiff, ↓reduceIte, reduceCtorEq, exists_eq_left', e0, e1, e2, e9, e10, d1, hm, hqt, hr, hrq, hlq, htk]
      refine ⟨by decide, ⟨by omega, by omega⟩, by omega, DCalls.of hfq ?_⟩
      rintro v h2 ⟨rfl, rfl⟩
      by_cases hqk : q < k
      · have d2 : decide (c q < 0) = true := decide_eq_true (hlt q hqk)
        simp -dsimp -implicitDefEqProofs (disch := omega) only [VCA, Nat.reduceEqDiff, ↓reduceIte, reduceCtorEq, e0, e1, e2, e8, e10, d2]
        exact ⟨_, by omega, q + 1, j, by omega, hj, hjn, rfl, by omega, by omega⟩
      · have d2 : decide (c q < 0) = false := decide_eq_false (by have := hge q (by omega) hqn; omega)
        simp -dsimp -implicitDefEqProofs (disch := omega) only [VCA, Nat.reduceEqDiff, ↓reduceIte, reduceCtorEq, e0, e1, e2, e8, e9, d2]
        exact ⟨_, by omega, i, q, hi, by omega, by omega, rfl, by omega, by omega⟩
    · obtain rfl : i = k := by omega
      have d1 : decide ((i : Int) < (j : Int)) = false := decide_eq_false (by omega)
      by_cases hin : i < n
      · have d2 : decide ((i : Int) < (n : Int)) = true := decide_eq_true (by omega)
        have d3 : decide (i < n) = true := decide_eq_true hin
        have hrq := hrow i hin
        have hlq := hrl i hin
        have hfq := hf i hin
        have htk : List.take 2 (row i) = row i := List.take_of_length_le (by rw [hlq]; exact Nat.le_refl _)
        have hit : ((i : Nat) : Int).toNat = i := by omega
        simp -dsimp -implicitDefEqProofs (disch := omega) only [↓vcOps_sp 39, VCA, Nat.reduceEqDiff, ↓reduceIte, reduceCtorEq, exists_eq_left', e0, e1, e2, e8, e9, e10, d1, d2, hr, hrq, hlq, htk, hit]
        refine ⟨⟨by omega, by omega⟩, by omega, DCalls.of hfq ?_⟩
        rintro v h2 ⟨rfl, rfl⟩
        repeat' (first | ((with_reducible refine Br.dec (fun _ => ?_) (fun _ => ?_)) <;> try (exfalso; omega)) | ((with_reducible refine Br.eq (fun _ => ?_) (fun _ => ?_)) <;> try (exfalso; omega)) | ((with_reducible refine Br.ne (fun _ => ?_) (fun _ => ?_)) <;> try (exfalso; omega)) | ((with_reducible refine brNdec (fun _ => ?_) (fun _ => ?_)) <;> try (exfalso; omega)) | ((with_reducible refine brNeq (fun _ => ?_) (fun _ => ?_)) <;> try (exfalso; omega)) | with_reducible refine Br.intro (fun _ => ?_) (fun _ => ?_) | (with_reducible refine And.intro ?_ ?_; · omega) | simp -dsimp -implicitDefEqProofs (disch := omega) only [VCA, Nat.reduceEqDiff, ↓reduceIte, exists_eq_right_right])
        all_goals first | exact ⟨Sub.refl _, by rw [d3]; rfl⟩ | trace_state
      · have d2 : decide ((i : Int) < (n : Int)) = false := decide_eq_false (by omega)
        have d3 : decide (i < n) = false := decide_eq_false hin
        simp -dsimp -implicitDefEqProofs (disch := omega) only [↓vcOps_sp 39, VCA, Nat.reduceEqDiff, ↓reduceIte, exists_eq_right_right, e8, e9, e10, d1, d2]
        exact ⟨Sub.refl _, by rw [d3]; rfl⟩
def hdD (l : List AVal) : AVal := l.headD .dead
def c50 : SFun := ⟨(.seq (.reg [⟨(some 6), (.mv (.c (.int .i64 (0)))), none⟩, ⟨(some 7), (.mv (.c (.bool false))), none⟩]) (.seq (.reg [⟨(some 12), (.mv (.t 0)), none⟩, ⟨(some 13), (.len (.t 12)), none⟩, ⟨(some 8), (.mv (.t 13)), none⟩]) (.seq (.reg [⟨(some 14), (.mv (.t 8)), none⟩, ⟨(some 9), (.mv (.c (.int .i64 (0)))), none⟩, ⟨(some 10), (.mv (.t 14)), none⟩]) (.seq (.block 0 (.loop (.seq (.seq (.reg [⟨(some 15), (.mv (.t 9)), none⟩, ⟨(some 16), (.mv (.t 10)), none⟩, ⟨(some 17), (.bin .lss (.t 15) (.t 16)), none⟩]) (.cond (.t 17) .skip (.exit 0))) (.block 1 (.seq (.reg [⟨(some 18), (.mv (.t 9)), none⟩, ⟨(some 19), (.mv (.t 10)), none⟩, ⟨(some 20), (.bin .add (.t 18) (.t 19)), none⟩, ⟨(some 21), (.cvi .u64 (.t 20)), none⟩, ⟨(some 22), (.bin .shr (.t 21) (.c (.int .u64 (1)))), none⟩, ⟨(some 23), (.cvi .i64 (.t 22)), none⟩, ⟨(some 11), (.mv (.t 23)), none⟩]) (.seq (.reg [⟨(some 24), (.mv (.t 2)), none⟩, ⟨(some 25), (.mv (.t 0)), none⟩, ⟨(some 26), (.mv (.t 11)), none⟩, ⟨(some 27), (.idxA 1 (.t 25) (.t 26)), none⟩, ⟨(some 28), (.ld 1 false (.t 27)), none⟩, ⟨(some 29), (.mv (.t 1)), none⟩, ⟨(some 30), (.call (.t 24) [(.t 28), (.t 29)]), none⟩, ⟨(some 31), (.bin .lss (.t 30) (.c (.int .i64 (0)))), none⟩]) (.cond (.t 31) (.reg [⟨(some 32), (.mv (.t 11)), none⟩, ⟨(some 33), (.bin .add (.t 32) (.c (.int .i64 (1)))), none⟩, ⟨(some 9), (.mv (.t 33)), none⟩]) (.reg [⟨(some 34), (.mv (.t 11)), none⟩, ⟨(some 10), (.mv (.t 34)), none⟩])))))))) (.seq (.reg [⟨(some 35), (.mv (.t 9)), none⟩, ⟨(some 36), (.mv (.t 9)), none⟩, ⟨(some 37), (.mv (.t 8)), none⟩, ⟨(some 38), (.bin .lss (.t 36) (.t 37)), none⟩, ⟨(some 39), (.mv (.t 38)), none⟩, ⟨(some 40), (.mv (.t 2)), (some (39, true))⟩, ⟨(some 41), (.mv (.t 0)), (some (39, true))⟩, ⟨(some 42), (.mv (.t 9)), (some (39, true))⟩, ⟨(some 43), (.idxA 1 (.t 41) (.t 42)), (some (39, true))⟩, ⟨(some 44), (.ld 1 false (.t 43)), (some (39, true))⟩, ⟨(some 45), (.mv (.t 1)), (some (39, true))⟩, ⟨(some 46), (.call (.t 40) [(.t 44), (.t 45)]), (some (39, true))⟩, ⟨(some 47), (.bin .eql (.t 46) (.c (.int .i64 (0)))), (some (39, true))⟩, ⟨(some 48), (.pick (.t 39) (.t 47) (.c (.bool false))), none⟩, ⟨(some 6), (.mv (.t 35)), none⟩, ⟨(some 7), (.mv (.t 48)), none⟩]) .ret))))), [(.tmp 6), (.tmp 7)]⟩
theorem hc50 : toSF Tryd.prog {} Tryd.f50 = some c50 := by kernel_rfl
theorem hn50 : (Tryd.f50.name == "runtime.NumGoroutine") = false := by kernel_rfl
theorem bsI_ok {h : Heap} {a x : AVal} {n k f : Nat} {A B : List AVal} {row : Nat → List AVal} {c : Nat → Int} (hn : n ≤ 1073741824) (hk : k ≤ n) (hrl : ∀ j, j < n → (row j).length = 1)
    (ha : (n = 0 ∧ a = .emp) ∨ ∃ r ob, a = .osl r 1 0 n ∧ h r = some ob ∧ n ≤ ob.es.length ∧ ∀ j, j < n → ob.es.getD j [] = row j)
    (hlt : ∀ j, j < k → c j < 0) (hge : ∀ j, k ≤ j → j < n → 0 ≤ c j)
    (hf : ∀ j, j < n → DCalls (Pg G) f (A ++ ([hdD (row j), x] ++ B)) h fun r h' => r = aInt (c j) ∧ h' = h) :
    DCalls (Pg G) 50 [a, x, .fn f A B] h fun r h' => r = .tup [aInt k, .bool (decide (k < n) && c k == 0)] ∧ h' = h := by
  rcases ha with ⟨rfl, rfl⟩ | ⟨r, ob, rfl, hr, hle, hrow⟩
  · obtain rfl : k = 0 := by omega
    refine dcalls_of_vc Tryd.func50 hn50 hc50 (by rw [Tryd.ntmps50]; simp) (by rw [Tryd.ntmps50]; decide) ?_
    simp -dsimp -implicitDefEqProofs (disch := omega) only [VCA, Nat.reduceEqDiff, Nat.reduceLT, ↓reduceIte, reduceCtorEq, c50]
    refine LoopVC.intro (fun m e h' => m = 0 ∧ e 8 = aInt 0 ∧ e 9 = aInt 0 ∧ e 10 = aInt 0 ∧ h' = h) 0 ⟨rfl, rfl, rfl, rfl, rfl⟩ ?_
    rintro m e h' ⟨rfl, e8, e9, e10, rfl⟩
    repeat' (first | ((with_reducible refine Br.dec (fun _ => ?_) (fun _ => ?_)) <;> try (exfalso; omega)) | ((with_reducible refine Br.eq (fun _ => ?_) (fun _ => ?_)) <;> try (exfalso; omega)) | ((with_reducible refine Br.ne (fun _ => ?_) (fun _ => ?_)) <;> try (exfalso; omega)) | ((with_reducible refine brNdec (fun _ => ?_) (fun _ => ?_)) <;> try (exfalso; omega)) | ((with_reducible refine brNeq (fun _ => ?_) (fun _ => ?_)) <;> try (exfalso; omega)) | with_reducible refine Br.intro (fun _ => ?_) (fun _ => ?_) | (with_reducible refine And.intro ?_ ?_; · omega) | simp -dsimp -implicitDefEqProofs (disch := omega) only [↓vcOps_sp 39, VCA, Nat.reduceEqDiff, ↓reduceIte, exists_eq_right_right, e8, e9, e10])
    exact ⟨Sub.refl _, rfl⟩
  · refine dcalls_of_vc Tryd.func50 hn50 hc50 (by rw [Tryd.ntmps50]; simp) (by rw [Tryd.ntmps50]; decide) ?_
    simp -dsimp -implicitDefEqProofs (disch := omega) only [VCA, Nat.reduceEqDiff, ↓reduceIte, reduceCtorEq, c50]
    refine LoopVC.intro (fun m e h' => ∃ i j : Nat, i ≤ k ∧ k ≤ j ∧ j ≤ n ∧ m = j - i ∧ e 0 = .osl r 1 0 n ∧ e 1 = x ∧ e 2 = .fn f A B ∧ e 8 = aInt n ∧ e 9 = aInt i ∧ e 10 = aInt j ∧ h' = h) n ⟨0, n, by omega, hk, Nat.le_refl _, by omega, rfl, rfl, rfl, rfl, rfl, rfl, rfl⟩ ?_
    rintro m e h' ⟨i, j, hi, hj, hjn, rfl, e0, e1, e2, e8, e9, e10, rfl⟩
    by_cases hij : i < j
    · obtain ⟨q, hq⟩ : ∃ q : Nat, (i + j) / 2 = q := ⟨_, rfl⟩
      have hqn : q < n := by omega
      have hm : IntKind.i64.wrap ((IntKind.u64.wrap ((i : Int) + (j : Int))).fdiv (2 ^ min (Int.toNat 1) IntKind.u64.bits)) = (q : Int) := by
        have e1 : (2 : Int) ^ min (Int.toNat 1) IntKind.u64.bits = 2 := rfl
        have e2 : IntKind.u64.wrap ((i : Int) + (j : Int)) = (i : Int) + (j : Int) := by simp only [IntKind.wrap_u64]; omega
        rw [e1, e2, Int.fdiv_eq_ediv_of_nonneg _ (by omega)]
        simp only [IntKind.wrap_i64]
        omega
      have hqt : ((q : Nat) : Int).toNat = q := by omega
      have hrq := hrow q hqn
      have hlq := hrl q hqn
      have hfq := hf q hqn
      have d1 : decide ((i : Int) < (j : Int)) = true := decide_eq_true (by omega)
      have htk : List.take 1 (row q) = row q := List.take_of_length_le (by rw [hlq]; exact Nat.le_refl _)
      simp -dsimp -implicitDefEqProofs (disch := omega) only [VCA, Nat.reduceEqDiff, ↓reduceIte, reduceCtorEq, exists_eq_left', e0, e1, e2, e9, e10, d1, hm, hqt, hr, hrq, hlq]
      refine ⟨by decide, ⟨by omega, by omega⟩, by omega, DCalls.of hfq ?_⟩
      rintro v h2 ⟨rfl, rfl⟩
      by_cases hqk : q < k
      · have d2 : decide (c q < 0) = true := decide_eq_true (hlt q hqk)
        simp -dsimp -implicitDefEqProofs (disch := omega) only [VCA, Nat.reduceEqDiff, ↓reduceIte, reduceCtorEq, e0, e1, e2, e8, e10, d2]
        exact ⟨_, by omega, q + 1, j, by omega, hj, hjn, rfl, by omega, by omega⟩
      · have d2 : decide (c q < 0) = false := decide_eq_false (by have := hge q (by omega) hqn; omega)
        simp -dsimp -implicitDefEqProofs (disch := omega) only [VCA, Nat.reduceEqDiff, ↓reduceIte, reduceCtorEq, e0, e1, e2, e8, e9, d2]
        exact ⟨_, by omega, i, q, hi, by omega, by omega, rfl, by omega, by omega⟩
    · obtain rfl : i = k := by omega
      have d1 : decide ((i : Int) < (j : Int)) = false := decide_eq_false (by omega)
      by_cases hin : i < n
      · have d2 : decide ((i : Int) < (n : Int)) = true := decide_eq_true (by omega)
        have d3 : decide (i < n) = true := decide_eq_true hin
        have hrq := hrow i hin
        have hlq := hrl i hin
        have hfq := hf i hin
        have htk : List.take 1 (row i) = row i := List.take_of_length_le (by rw [hlq]; exact Nat.le_refl _)
        have hit : ((i : Nat) : Int).toNat = i := by omega
        simp -dsimp -implicitDefEqProofs (disch := omega) only [↓vcOps_sp 39, VCA, Nat.reduceEqDiff, ↓reduceIte, reduceCtorEq, exists_eq_left', e0, e1, e2, e8, e9, e10, d1, d2, hr, hrq, hlq, hit]
        refine ⟨⟨by omega, by omega⟩, by omega, DCalls.of hfq ?_⟩
        rintro v h2 ⟨rfl, rfl⟩
        repeat' (first | ((with_reducible refine Br.dec (fun _ => ?_) (fun _ => ?_)) <;> try (exfalso; omega)) | ((with_reducible refine Br.eq (fun _ => ?_) (fun _ => ?_)) <;> try (exfalso; omega)) | ((with_reducible refine Br.ne (fun _ => ?_) (fun _ => ?_)) <;> try (exfalso; omega)) | ((with_reducible refine brNdec (fun _ => ?_) (fun _ => ?_)) <;> try (exfalso; omega)) | ((with_reducible refine brNeq (fun _ => ?_) (fun _ => ?_)) <;> try (exfalso; omega)) | with_reducible refine Br.intro (fun _ => ?_) (fun _ => ?_) | (with_reducible refine And.intro ?_ ?_; · omega) | simp -dsimp -implicitDefEqProofs (disch := omega) only [VCA, Nat.reduceEqDiff, ↓reduceIte, exists_eq_right_right])
        all_goals first | exact ⟨Sub.refl _, by rw [d3]; rfl⟩ | trace_state
      · have d2 : decide ((i : Int) < (n : Int)) = false := decide_eq_false (by omega)
        have d3 : decide (i < n) = false := decide_eq_false hin
        simp -dsimp -implicitDefEqProofs (disch := omega) only [↓vcOps_sp 39, VCA, Nat.reduceEqDiff, ↓reduceIte, exists_eq_right_right, e8, e9, e10, d1, d2]
        exact ⟨Sub.refl _, by rw [d3]; rfl⟩
def c64 : SFun := ⟨(.seq (.reg [⟨(some 2), (.boxF 45 2 (.t 0)), none⟩, ⟨(some 4), (.mv (.c (.int .i64 (0)))), none⟩]) (.seq (.reg [⟨(some 5), (.fldA 0 (.t 2)), none⟩, ⟨(some 6), (.ld 1 false (.t 5)), none⟩, ⟨(some 7), (.mv (.t 1)), none⟩, ⟨(some 8), (.pcall 65 [(.t 6), (.t 7)]), none⟩, ⟨(some 4), (.mv (.t 8)), none⟩]) .ret)), [(.tmp 4)]⟩
theorem hc64 : toSF Tryd.prog {pure := [65]} Tryd.f64 = some c64 := by kernel_rfl
theorem hn64 : (Tryd.f64.name == "runtime.NumGoroutine") = false := by kernel_rfl
theorem ixFind1_ok {h : Heap} (x w : List UInt8) (nv : AVal) : DCalls (Pg G) 64 [.agg [.str x, nv], .str w] h fun r h' => r = aInt (cmpS x w) ∧ h' = h := by
  have cC := cmpS_ok (G := G) x w
  refine dcalls_of_vc Tryd.func64 hn64 hc64 (by rw [Tryd.ntmps64]; simp) (by rw [Tryd.ntmps64]; decide) ?_
  simp -dsimp -implicitDefEqProofs (disch := omega) only [VCA, Nat.reduceEqDiff, Nat.reduceAdd, Nat.reduceLeDiff, ↓reduceIte, c64]
  repeat' (first | ((with_reducible refine Br.dec (fun _ => ?_) (fun _ => ?_)) <;> try (exfalso; omega)) | ((with_reducible refine Br.eq (fun _ => ?_) (fun _ => ?_)) <;> try (exfalso; omega)) | ((with_reducible refine Br.ne (fun _ => ?_) (fun _ => ?_)) <;> try (exfalso; omega)) | ((with_reducible refine brNdec (fun _ => ?_) (fun _ => ?_)) <;> try (exfalso; omega)) | ((with_reducible refine brNeq (fun _ => ?_) (fun _ => ?_)) <;> try (exfalso; omega)) | with_reducible refine Br.intro (fun _ => ?_) (fun _ => ?_) | (with_reducible apply pcallE.of; · exact cC) | (with_reducible refine And.intro ?_ ?_; · omega) | simp -dsimp -implicitDefEqProofs (disch := omega) only [VCA, ↓reduceIte, exists_eq_right])
  all_goals first | exact Sub.refl _ | trace_state
/-- a list of one's own, row by row -/
def LstAt (h : Heap) (sz : Nat) (a : AVal) (n : Nat) (row : Nat → List AVal) : Prop := (n = 0 ∧ a = .emp) ∨ ∃ r ob, a = .osl r sz 0 n ∧ h r = some ob ∧ n ≤ ob.es.length ∧ ∀ j, j < n → ob.es.getD j [] = row j
def c48 : SFun := ⟨(.seq (.reg [⟨(some 4), (.mv (.c (.int .i64 (0)))), none⟩, ⟨(some 5), (.mv (.c (.bool false))), none⟩]) (.seq (.reg [⟨(some 6), (.mv (.t 0)), none⟩, ⟨(some 7), (.mv (.t 1)), none⟩, ⟨(some 8), (.call (.c (.fn 63 [] [])) [(.t 6), (.t 7), (.c (.fn 64 [] []))]), none⟩, ⟨(some 9), (.ext (.t 8) 0), none⟩, ⟨(some 10), (.ext (.t 8) 1), none⟩, ⟨(some 4), (.mv (.t 9)), none⟩, ⟨(some 5), (.mv (.t 10)), none⟩]) .ret)), [(.tmp 4), (.tmp 5)]⟩
theorem hc48 : toSF Tryd.prog {} Tryd.f48 = some c48 := by kernel_rfl
theorem hn48 : (Tryd.f48.name == "runtime.NumGoroutine") = false := by kernel_rfl
theorem ixFind_ok {h : Heap} {a : AVal} {n k : Nat} {W : Nat → List UInt8} {nv : Nat → AVal} (w : List UInt8) (hn : n ≤ 1073741824) (hk : k ≤ n) (ha : LstAt h 2 a n fun j => [.str (W j), nv j])
    (hlt : ∀ j, j < k → ltS (W j) w = true) (hge : ∀ j, k ≤ j → j < n → ltS (W j) w = false) :
    DCalls (Pg G) 48 [a, .str w] h fun r h' => r = .tup [aInt k, .bool (decide (k < n ∧ W k = w))] ∧ h' = h := by
  have hB := bsR_ok (G := G) (h := h) (a := a) (x := .str w) (n := n) (k := k) (f := 64) (A := []) (B := []) (row := fun j => [.str (W j), nv j]) (c := fun j => cmpS (W j) w) hn hk (fun _ _ => rfl) ha
    (fun j hj => cmpS_neg.2 (hlt j hj)) (fun j h1 h2 => by
      have h3 := hge j h1 h2
      refine Int.not_lt.1 fun hc => ?_
      rw [cmpS_neg.1 hc] at h3; cases h3) (fun j _ => ixFind1_ok (W j) w (nv j))
  have e1 : (decide (k < n) && cmpS (W k) w == 0) = decide (k < n ∧ W k = w) := by
    rw [Bool.eq_iff_iff]; simp only [Bool.and_eq_true, decide_eq_true_eq, beq_iff_eq, cmpS_zero]
  refine dcalls_of_vc Tryd.func48 hn48 hc48 (by rw [Tryd.ntmps48]; simp) (by rw [Tryd.ntmps48]; decide) ?_
  simp -dsimp -implicitDefEqProofs (disch := omega) only [VCA, Nat.reduceEqDiff, ↓reduceIte, reduceCtorEq, c48]
  refine DCalls.of hB ?_
  rintro v h' ⟨rfl, rfl⟩
  simp -dsimp -implicitDefEqProofs (disch := omega) only [VCA, Nat.reduceEqDiff, Nat.reduceAdd, Nat.reduceLT, ↓reduceIte, exists_eq_right, e1]
  exact Sub.refl _
end Go.Proofs.K
end
section
/- Into a list of one's own, elements of two cells: the roads of slices.Insert. -/
set_option linter.unusedSimpArgs false
set_option linter.unusedVariables false
namespace Go.Proofs.K
open Go Go.Proofs Go.Shelf Go.RowKit Go.Lib
section
variable {P : Program} {ρ : Ren}
/-- the body, under another name -/
noncomputable def bodyI (ρ : Ren) (nm : String) : Func := { Body2.n22 ρ with name := nm }
theorem bodyI_ntmps (ρ : Ren) (nm : String) : (bodyI ρ nm).ntmps = 95 := rfl
theorem copyN (w : World) (dT sT ty elem : TypeId) (b o dLen dCap : Nat) (a : Addr) (sLen sCap k sz : Nat) (cs : List Value)
    (hu : P.underlying dT = some (.slice elem)) (hs : (P.info? elem).map (·.size) = some sz) (hk : Nat.min sLen dLen = k) (hn : cs.length = k * sz)
    (hsrc : ∀ j v, cs[j]? = some v → w.cell? (a.add j) = some v) (hc : ∀ j, j < cs.length → (w.cell? ⟨b, o + j, none⟩).isSome = true) (hf : ∀ j, j < cs.length → w.frozen? ⟨b, o + j, none⟩ = false) (h1 : ∀ v ∈ cs, v.oneCell' = true) :
    (Builtin.copy_ #[dT, sT] ty #[.slice (some ⟨b, o, none⟩) dLen dCap, .slice (some a) sLen sCap]).run P w = .ok (goInt k) (w.setCells b o cs) := by
  have hl := run_loadCells_list (P := P) w a cs hsrc
  have hst := run_storeCells_cells (P := P) b o cs 0 w (by simpa using hc) (by simpa using hf) h1
  cases hq : P.info? elem with
  | none => simp [hq] at hs
  | some i =>
    have hi : i.size = sz := by simpa [hq] using hs
    rw [hn] at hl
    simp [Builtin.copy_, run_underlying hu, Builtin.lenOf, Builtin.firstCells, sizeOf, typeInfo, hq, hi, hk, hl, hst]
/-- what slices.Insert leans on, its elements of 2 cells each -/
structure LayI2 (P : Program) (ρ : Ren) (nm : String) (bytes : Nat) (z : Value) : Prop where
  mixed : P.follows .mixedOrders = true
  f22 : P.funcs[ρ.f 22]? = some (bodyI ρ nm)
  ov : ∀ args w, (callFunc (ρ.f 29) args).run P w = ((Extern.SlicesOverlaps.overlaps #[(ρ.t 24), (ρ.t 24)] #[(ρ.t 4)] args).run P w).andThen fun v w' => .ok (.value v) w'
  t0 : P.underlying (ρ.t 0) = some (TypeDesc.tuple #[])
  a0 : ∀ w, (isAgg (ρ.t 0)).run P w = .ok false w
  z0 : ∀ w, (Go.sizeOf (ρ.t 0)).run P w = .ok 1 w
  v0 : ∀ w, (zeroValue (ρ.t 0)).run P w = .ok (Value.tuple #[]) w
  t3 : P.underlying (ρ.t 3) = some (TypeDesc.int IntKind.i64)
  a3 : ∀ w, (isAgg (ρ.t 3)).run P w = .ok false w
  z3 : ∀ w, (Go.sizeOf (ρ.t 3)).run P w = .ok 1 w
  v3 : ∀ w, (zeroValue (ρ.t 3)).run P w = .ok (Value.int IntKind.i64 0) w
  t4 : P.underlying (ρ.t 4) = some (TypeDesc.bool)
  a4 : ∀ w, (isAgg (ρ.t 4)).run P w = .ok false w
  z4 : ∀ w, (Go.sizeOf (ρ.t 4)).run P w = .ok 1 w
  v4 : ∀ w, (zeroValue (ρ.t 4)).run P w = .ok (Value.bool false) w
  z9 : ∀ w, (Go.sizeOf (ρ.t 9)).run P w = .ok 2 w
  t24 : P.underlying (ρ.t 24) = some (TypeDesc.slice (ρ.t 9))
  a24 : ∀ w, (isAgg (ρ.t 24)).run P w = .ok false w
  z24 : ∀ w, (Go.sizeOf (ρ.t 24)).run P w = .ok 1 w
  v24 : ∀ w, (zeroValue (ρ.t 24)).run P w = .ok (Value.slice none 0 0) w
  i9 : (P.info? (ρ.t 9)).map (fun i => (i.zero, i.size, i.bytes)) = some (some z, 2, bytes)
set_option maxHeartbeats 4000000 in
set_option maxRecDepth 100000 in
/-- there is room, and something stands behind the place -/
theorem insShift2 {nm : String} {bytes : Nat} {z : Value} (L : LayI2 P ρ nm bytes z) (b off n c i vb voff m vc : Nat) (cs vs : List Value) (w : World) (hi : i < n) (hm : 0 < m) (hroom : n + m ≤ c) (hc63 : c ≤ 9223372036854775807) (hvb : vb ≠ b)
    (hcl : cs.length = n * 2) (hvl : vs.length = m * 2)
    (hcs : ∀ j v, cs[j]? = some v → w.cell? ⟨b, off + j, none⟩ = some v) (hsp : ∀ j, j < (n + m) * 2 → (w.cell? ⟨b, off + j, none⟩).isSome = true) (hfz : ∀ j, j < (n + m) * 2 → w.frozen? ⟨b, off + j, none⟩ = false)
    (hvs : ∀ j v, vs[j]? = some v → w.cell? ⟨vb, voff + j, none⟩ = some v) (h1c : ∀ v ∈ cs, v.oneCell' = true) (h1v : ∀ v ∈ vs, v.oneCell' = true)
    (tA tB : TypeId) (kA kB : Nat) (hsa : w.shape? vb = some (tA, kA)) (hsb : w.shape? b = some (tB, kB)) (hkB : kB ≠ 0) (hfa : w.frozen? ⟨vb, voff, none⟩ = false) (hfe : w.frozen? ⟨vb, kA, none⟩ = false) :
    Calls P (ρ.f 22) #[.slice (some ⟨b, off, none⟩) n c, .int .i64 i, .slice (some ⟨vb, voff, none⟩) m vc] w fun e w' =>
      e = .returned (.slice (some ⟨b, off, none⟩) (n + m) c) ∧ w' = (w.drew.setCells b (off + (i + m) * 2) (cs.drop (i * 2))).setCells b (off + i * 2) vs := by
  have t0 := L.t0; have a0 := L.a0; have z0 := L.z0; have v0 := L.v0; have t3 := L.t3; have a3 := L.a3; have z3 := L.z3; have v3 := L.v3; have t4 := L.t4; have a4 := L.a4; have z4 := L.z4; have v4 := L.v4; have z9 := L.z9; have t24 := L.t24; have a24 := L.a24; have z24 := L.z24; have v24 := L.v24
  have u0 := run_underlying L.t0; have u3 := run_underlying L.t3; have u4 := run_underlying L.t4; have u24 := run_underlying L.t24
  have hz1 : ¬ ((m : Int) = 0) := by omega
  have hz2 : ¬ ((i : Int) = (n : Int)) := by omega
  have hsz : (P.info? (ρ.t 9)).map (·.size) = some 2 := by
    obtain ⟨i0, hi0, h0, h1, h2⟩ := info_parts L.i9
    rw [hi0]; simp [h1]
  have hov : ∀ lb cb, (callFunc (ρ.f 29) #[.slice (some ⟨vb, voff, none⟩) m vc, .slice (some ⟨b, off + (i + m) * 2, none⟩) lb cb]).run P w = .ok (.value (.bool false)) w := fun lb cb => by
    rw [L.ov,
      Lib.run_overlaps_apart w (ρ.t 24) (ρ.t 4) (ρ.t 9) L.t24 2 L.z9 ⟨vb, voff, none⟩ ⟨b, off + (i + m) * 2, none⟩ m vc lb cb hvb tA tB kA kB hsa hsb hkB hfa hfe]
    rfl
  have hdl : (cs.drop (i * 2)).length = (n - i) * 2 := by rw [List.length_drop, hcl]; omega
  have mixed := L.mixed
  have hw1 : IntKind.i64.wrap ((i : Int) + (m : Int)) = (i : Int) + (m : Int) := by rw [IntKind.wrap_i64]; omega
  have hb1 : (0 : Int) ≤ (i : Int) + (m : Int) := by omega
  have hin : i ≤ n := by omega
  have htn : ((i : Int) + (m : Int)).toNat = i + m := by omega
  have hb2 : ¬ (c = i + m) := by omega
  have hb3 : (i : Int) ≤ (n : Int) + (m : Int) := by omega
  have hb4 : ¬ (c = i) := by omega
  have hcp1 : ∀ ty dc sc, (Builtin.copy_ #[(ρ.t 24), (ρ.t 24)] ty #[.slice (some ⟨b, off + (i + m) * 2, none⟩) (n + m - (i + m)) dc, .slice (some ⟨b, off + i * 2, none⟩) (n + m - i) sc]).run P w.drew = .ok (goInt ((n - i : Nat) : Int)) (w.drew.setCells b (off + (i + m) * 2) (cs.drop (i * 2))) := fun ty dc sc =>
    copyN w.drew _ _ ty (ρ.t 9) b (off + (i + m) * 2) (n + m - (i + m)) dc ⟨b, off + i * 2, none⟩ (n + m - i) sc (n - i) 2 (cs.drop (i * 2)) L.t24 hsz (by simp only [Nat.min_def]; split <;> omega) hdl
      (fun j v hj => by rw [Addr.add_lit, Nat.add_assoc]; exact hcs (i * 2 + j) v (by rwa [List.getElem?_drop] at hj))
      (fun j hj => by rw [Nat.add_assoc]; exact hsp _ (by omega)) (fun j hj => by rw [Nat.add_assoc]; exact hfz _ (by omega)) (fun v hv => h1c v (List.mem_of_mem_drop hv))
  obtain ⟨W1, hW1⟩ : ∃ W1, W1 = w.drew.setCells b (off + (i + m) * 2) (cs.drop (i * 2)) := ⟨_, rfl⟩
  have hsp1 : ∀ k, k < (n + m) * 2 → (W1.cell? ⟨b, off + k, none⟩).isSome = true := fun k hk => by
    rw [hW1]
    exact isSome_setCells b _ _ _ (fun j hj => by rw [Nat.add_assoc]; exact hsp _ (by omega)) _ (hsp k hk)
  have hcp2 : ∀ (W : World), (∀ x, W.cell? x = W1.cell? x) → (∀ x, W.frozen? x = W1.frozen? x) → ∀ ty dc, (Builtin.copy_ #[(ρ.t 24), (ρ.t 24)] ty #[.slice (some ⟨b, off + i * 2, none⟩) (n + m - i) dc, .slice (some ⟨vb, voff, none⟩) m vc]).run P W = .ok (goInt m) (W.setCells b (off + i * 2) vs) := fun W hWc hWf ty dc =>
    copyN W _ _ ty (ρ.t 9) b (off + i * 2) (n + m - i) dc ⟨vb, voff, none⟩ m vc m 2 vs L.t24 hsz (by simp only [Nat.min_def]; split <;> omega) hvl
      (fun j v hj => by
        rw [Addr.add_lit, hWc, hW1, World.cell?_setCells_out b _ _ _ _ (fun h _ => absurd h hvb)]
        exact hvs j v hj)
      (fun j hj => by rw [hWc, Nat.add_assoc]; exact hsp1 _ (by omega)) (fun j hj => by rw [hWf, hW1, World.frozen?_setCells, Nat.add_assoc]; exact hfz _ (by omega)) h1v
  rw [← hW1] at hcp1
  go_enter L.f22, bodyI_ntmps ρ nm
  go_wp2_with (simp only [hov])
  go_region_law_o (refine step_copy_runI rfl _ _ (ρ.t 24) (ρ.t 24) rfl _ _ (by simp [Act.eval, Act.put]) (by simp [Act.eval, Act.put]) (hcp1 _ _ _) ?_)
  go_wp2_with (at_builtin; refine wpList_copy_runI _ rfl _ _ (ρ.t 24) (ρ.t 24) rfl _ _ rfl rfl (hcp2 _ (fun _ => rfl) (fun _ => rfl) _ _) ?_)
  go_ret
  first | exact ⟨rfl, rfl⟩ | exact ⟨rfl, by rw [hW1]⟩
set_option maxHeartbeats 4000000 in
set_option maxRecDepth 100000 in
/-- at the end, there is room -/
theorem insEndRoom2 {nm : String} {bytes : Nat} {z : Value} (L : LayI2 P ρ nm bytes z) (b off n c vb voff m vc : Nat) (vs : List Value) (w : World) (hm : 0 < m) (hroom : n + m ≤ c) (hc63 : c ≤ 9223372036854775807)
    (hvl : vs.length = m * 2) (hsp : ∀ j, j < m * 2 → (w.cell? ⟨b, off + n * 2 + j, none⟩).isSome = true) (hfz : ∀ j, j < m * 2 → w.frozen? ⟨b, off + n * 2 + j, none⟩ = false)
    (hvs : ∀ j v, vs[j]? = some v → w.cell? ⟨vb, voff + j, none⟩ = some v) (h1v : ∀ v ∈ vs, v.oneCell' = true) :
    Calls P (ρ.f 22) #[.slice (some ⟨b, off, none⟩) n c, .int .i64 n, .slice (some ⟨vb, voff, none⟩) m vc] w fun e w' =>
      e = .returned (.slice (some ⟨b, off, none⟩) (n + m) c) ∧ w' = w.setCells b (off + n * 2) vs := by
  have t0 := L.t0; have a0 := L.a0; have z0 := L.z0; have v0 := L.v0; have t3 := L.t3; have a3 := L.a3; have z3 := L.z3; have v3 := L.v3; have t4 := L.t4; have a4 := L.a4; have z4 := L.z4; have v4 := L.v4; have z9 := L.z9; have t24 := L.t24; have a24 := L.a24; have z24 := L.z24; have v24 := L.v24
  have u0 := run_underlying L.t0; have u3 := run_underlying L.t3; have u4 := run_underlying L.t4; have u24 := run_underlying L.t24
  have mixed := L.mixed
  obtain ⟨i0, hi0, hzz, hzs, hzb⟩ := info_parts L.i9
  have hz1 : ¬ ((m : Int) = 0) := by omega
  have hsrc : Src P i0.size (ρ.t 24) (.slice (some ⟨vb, voff, none⟩) m vc) m vs w := by
    rw [hzs]; exact Src.ofSlice w L.t24 ⟨vb, voff, none⟩ m vc vs hvl (fun j u hj => by rw [Addr.add_lit]; exact hvs j u hj) h1v
  go_enter L.f22, bodyI_ntmps ρ nm
  go_wp2_with (at_builtin; refine wpList_append_room_src _ rfl _ _ (ρ.t 24) (ρ.t 24) rfl (ρ.t 9) i0 L.t24 hi0 b off n c rfl _ rfl m vs hsrc hroom (by rw [hvl, hzs]; exact hsp) (by rw [hvl, hzs]; exact hfz) ?_)
  go_ret
  first | exact ⟨rfl, rfl⟩ | exact ⟨rfl, by rw [hzs]⟩
set_option maxHeartbeats 4000000 in
set_option maxRecDepth 100000 in
/-- at the end, there is no room: a new row -/
theorem insEndGrow2 {nm : String} {bytes : Nat} {z : Value} (L : LayI2 P ρ nm bytes z) (base : Option Addr) (n c vb voff m vc : Nat) (cs vs : List Value) (w : World) (hm : 0 < m) (hnc : n ≤ c) (hroom : c < n + m) (h63 : n + m ≤ 9223372036854775807) (hbig : (n + m) * bytes ≤ 140737488355328)
    (hcl : cs.length = n * 2) (hvl : vs.length = m * 2) (hnil : base = none → n = 0)
    (hcs : ∀ a, base = some a → ∀ j v, cs[j]? = some v → w.cell? (a.add j) = some v)
    (hvs : ∀ j v, vs[j]? = some v → w.cell? ⟨vb, voff + j, none⟩ = some v) (h1v : ∀ v ∈ vs, v.oneCell' = true) :
    Calls P (ρ.f 22) #[.slice base n c, .int .i64 n, .slice (some ⟨vb, voff, none⟩) m vc] w fun e w' =>
      e = .returned (.slice (some ⟨w.heap.size, 0, none⟩) (n + m) (grownCap w (n + m) c (ρ.t 9))) ∧
      w' = w.drew.alloc (.cells ((cs ++ vs).toArray ++ Builtin.zeroCells z.cells (grownCap w (n + m) c (ρ.t 9) - (n + m))) (ρ.t 9)) := by
  have t0 := L.t0; have a0 := L.a0; have z0 := L.z0; have v0 := L.v0; have t3 := L.t3; have a3 := L.a3; have z3 := L.z3; have v3 := L.v3; have t4 := L.t4; have a4 := L.a4; have z4 := L.z4; have v4 := L.v4; have z9 := L.z9; have t24 := L.t24; have a24 := L.a24; have z24 := L.z24; have v24 := L.v24
  have u0 := run_underlying L.t0; have u3 := run_underlying L.t3; have u4 := run_underlying L.t4; have u24 := run_underlying L.t24
  have mixed := L.mixed
  obtain ⟨i0, hi0, hzz, hzs, hzb⟩ := info_parts L.i9
  have hz1 : ¬ ((m : Int) = 0) := by omega
  have hsrc : Src P i0.size (ρ.t 24) (.slice (some ⟨vb, voff, none⟩) m vc) m vs w := by
    rw [hzs]
    exact Src.ofSlice w L.t24 ⟨vb, voff, none⟩ m vc vs hvl (fun j u hj => by rw [Addr.add_lit]; exact hvs j u hj) h1v
  have hold : (Builtin.firstCells i0.size n (.slice base n c)).run P w.drew = .ok cs.toArray w.drew := by
    rw [hzs]
    cases base with
    | none =>
      have h0 := hnil rfl
      subst h0
      rw [List.length_eq_zero_iff.1 (hcl.trans (Nat.zero_mul _))]
      exact run_firstCells_none w.drew 2 0 0 c
    | some a => exact run_firstCells_some w.drew 2 n a n c cs hcl (fun j v hj => hcs a rfl j v hj)
  have hrun : ∀ ty, (Builtin.append_ #[(ρ.t 24), (ρ.t 24)] ty #[.slice base n c, .slice (some ⟨vb, voff, none⟩) m vc]).run P w = _ := fun ty =>
    run_append_grow_src w (ρ.t 24) (ρ.t 24) ty (ρ.t 9) i0 _ L.t24 hi0 hzz base n c cs hold _ m vs hsrc hroom (by omega) (by rw [hzb]; exact growslice_fits hroom hbig)
  generalize z.cells = zc at *
  go_enter L.f22, bodyI_ntmps ρ nm
  cases base with
  | none =>
    have h0 := hnil rfl
    subst h0
    go_wp2_with (at_builtin; refine Lib.wpList_append_run _ rfl _ _ _ _ rfl _ _ rfl rfl _ _ (hrun _) ?_)
    go_ret
    exact ⟨rfl, rfl⟩
  | some a =>
    obtain ⟨ab, ao, asp⟩ := a
    go_wp2_with (at_builtin; refine Lib.wpList_append_run _ rfl _ _ _ _ rfl _ _ rfl rfl _ _ (hrun _) ?_)
    all_goals (go_ret; exact ⟨rfl, rfl⟩)
set_option maxHeartbeats 4000000 in
set_option maxRecDepth 100000 in
/-- something stands behind the place, and there is no room: a new row -/
theorem insGrow2 {nm : String} {bytes : Nat} {z : Value} (L : LayI2 P ρ nm bytes z) (hzc : z.cells.size = 2) (b off n c i vb voff m vc : Nat) (cs vs : List Value) (w : World) (hi : i < n) (hm : 0 < m) (hnc : n ≤ c) (hroom : c < n + m) (h63 : n + m ≤ 4294967296) (hbig : (n + m) * bytes ≤ 140737488355328)
    (hcl : cs.length = n * 2) (hvl : vs.length = m * 2)
    (hcs : ∀ j v, cs[j]? = some v → w.cell? ⟨b, off + j, none⟩ = some v)
    (hvs : ∀ j v, vs[j]? = some v → w.cell? ⟨vb, voff + j, none⟩ = some v) (h1c : ∀ v ∈ cs, v.oneCell' = true) (h1v : ∀ v ∈ vs, v.oneCell' = true) :
    Calls P (ρ.f 22) #[.slice (some ⟨b, off, none⟩) n c, .int .i64 i, .slice (some ⟨vb, voff, none⟩) m vc] w fun e w' =>
      e = .returned (.slice (some ⟨w.heap.size, 0, none⟩) (n + m) (grownCap w (n + m) c (ρ.t 9))) ∧
      w' = (((w.alloc (.cells ((cs.take (i * 2)).toArray ++ Builtin.zeroCells z.cells (n + m - i) ++ Builtin.zeroCells z.cells (grownCap w (n + m) c (ρ.t 9) - (n + m))) (ρ.t 9))).drew.setCells w.heap.size (i * 2) vs).drew).setCells w.heap.size ((i + m) * 2) (cs.drop (i * 2)) := by
  have t0 := L.t0; have a0 := L.a0; have z0 := L.z0; have v0 := L.v0; have t3 := L.t3; have a3 := L.a3; have z3 := L.z3; have v3 := L.v3; have t4 := L.t4; have a4 := L.a4; have z4 := L.z4; have v4 := L.v4; have z9 := L.z9; have t24 := L.t24; have a24 := L.a24; have z24 := L.z24; have v24 := L.v24
  have u0 := run_underlying L.t0; have u3 := run_underlying L.t3; have u4 := run_underlying L.t4; have u24 := run_underlying L.t24
  have mixed := L.mixed
  obtain ⟨i0, hi0, hzz, hzs, hzb⟩ := info_parts L.i9
  have hz1 : ¬ ((m : Int) = 0) := by omega
  have hz2 : ¬ ((i : Int) = (n : Int)) := by omega
  have hz3 : (c : Int) < (n : Int) + (m : Int) := by omega
  have hsz : (P.info? (ρ.t 9)).map (·.size) = some 2 := by rw [hi0]; simp [hzs]
  have hbw : b < w.heap.size := block_lt_of_cell (hcs 0 _ (List.getElem?_eq_getElem (by omega)))
  have hvw : vb < w.heap.size := block_lt_of_cell (hvs 0 _ (List.getElem?_eq_getElem (by omega)))
  have hkk : (n : Int) + (m : Int) - (i : Int) = ((n + m - i : Nat) : Int) := by omega
  have hik : i + (n + m - i) = n + m := by omega
  have hold : (Builtin.firstCells i0.size i (.slice (some ⟨b, off, none⟩) i c)).run P w.drew = .ok (cs.take (i * 2)).toArray w.drew := by
    rw [hzs]
    exact run_firstCells_some w.drew 2 i ⟨b, off, none⟩ i c (cs.take (i * 2)) (by rw [List.length_take]; omega) (fun j v hj => by
      rw [Addr.add_lit]
      rw [List.getElem?_take] at hj
      split at hj
      · exact hcs j v hj
      · cases hj)
  have hb48 : (n + m - i) * bytes ≤ 281474976710656 := Nat.le_trans (Nat.mul_le_mul_right _ (Nat.sub_le _ _)) (by omega)
  have hrz : ∀ ty, (Builtin.append_ #[(ρ.t 24), (ρ.t 3)] ty #[.slice (some ⟨b, off, none⟩) i c, .int .i64 ((n : Int) + (m : Int) - (i : Int))]).run P w =
      .ok (.slice (some ⟨w.heap.size, 0, none⟩) (n + m) (grownCap w (n + m) c (ρ.t 9))) (w.drew.alloc (.cells ((cs.take (i * 2)).toArray ++ Builtin.zeroCells z.cells (n + m - i) ++ Builtin.zeroCells z.cells (grownCap w (n + m) c (ρ.t 9) - (n + m))) (ρ.t 9))) := fun ty => by
    have h := Lib.run_append_grow_zeros w (ρ.t 24) (ρ.t 3) ty (ρ.t 9) i0 _ .i64 .i64 L.t24 L.t3 hi0 hzz (some ⟨b, off, none⟩) i c (cs.take (i * 2)) hold (n + m - i) (by omega) (by omega) (by omega) (by omega) (by rw [hzb]; exact hb48) (by rw [hzb, hik]; exact growslice_fits hroom hbig)
    rw [hik] at h
    rw [hkk]
    exact h
  obtain ⟨G, hG⟩ : ∃ G, G = grownCap w (n + m) c (ρ.t 9) := ⟨_, rfl⟩
  obtain ⟨ROW, hROW⟩ : ∃ ROW : Array Value, ROW = (cs.take (i * 2)).toArray ++ Builtin.zeroCells z.cells (n + m - i) ++ Builtin.zeroCells z.cells (G - (n + m)) := ⟨_, rfl⟩
  rw [← hG] at hrz ⊢
  rw [← hROW] at hrz ⊢
  have hRl : (n + m) * 2 ≤ ROW.size := by
    rw [hROW, Array.size_append, Array.size_append, size_zeroCells, size_zeroCells, hzc, List.size_toArray, List.length_take, hcl]
    omega
  obtain ⟨W1, hW1⟩ : ∃ W1, W1 = w.drew.alloc (.cells ROW (ρ.t 9)) := ⟨_, rfl⟩
  rw [← hW1] at hrz
  have hN : ∀ j, j < (n + m) * 2 → (W1.cell? ⟨w.heap.size, j, none⟩).isSome = true := fun j hj => by
    rw [hW1, World.cell?_alloc_at (w := w.drew) ROW _ w.heap.size j rfl, Array.getElem?_eq_getElem (by omega)]; rfl
  have hNf : ∀ j, W1.frozen? ⟨w.heap.size, j, none⟩ = false := fun j => by rw [hW1]; exact World.frozen?_alloc_at (w := w.drew) ROW _ w.heap.size j rfl
  have hOb : ∀ j v, w.cell? ⟨b, j, none⟩ = some v → W1.cell? ⟨b, j, none⟩ = some v := fun j v h => by rw [hW1, World.cell?_alloc_past (w := w.drew) _ b j hbw]; exact h
  have hOv : ∀ j v, w.cell? ⟨vb, j, none⟩ = some v → W1.cell? ⟨vb, j, none⟩ = some v := fun j v h => by rw [hW1, World.cell?_alloc_past (w := w.drew) _ vb j hvw]; exact h
  have hcpA : ∀ (W : World), (∀ x, W.cell? x = W1.cell? x) → (∀ x, W.frozen? x = W1.frozen? x) → ∀ ty dc, (Builtin.copy_ #[(ρ.t 24), (ρ.t 24)] ty #[.slice (some ⟨w.heap.size, i * 2, none⟩) (n + m - i) dc, .slice (some ⟨vb, voff, none⟩) m vc]).run P W = .ok (goInt m) (W.setCells w.heap.size (i * 2) vs) := fun W hWc hWf ty dc =>
    copyN W _ _ ty (ρ.t 9) w.heap.size (i * 2) (n + m - i) dc ⟨vb, voff, none⟩ m vc m 2 vs L.t24 hsz (by simp only [Nat.min_def]; split <;> omega) hvl
      (fun j v hj => by rw [Addr.add_lit, hWc]; exact hOv _ v (hvs j v hj))
      (fun j hj => by rw [hWc]; exact hN _ (by omega)) (fun j hj => by rw [hWf]; exact hNf _) h1v
  have hGn : n + m ≤ G := by rw [hG]; exact grownCap_ge w _ _ _
  have hG63 : G ≤ 9223372036854775807 := by
    have := grownCap_le_maxLen w (n + m) c (ρ.t 9) (by unfold maxLen; omega)
    rw [← hG] at this
    unfold maxLen at this
    omega
  have hGi : ¬ (G = i) := by omega
  have hGim : ¬ (G = i + m) := by omega
  have hci : ¬ (c = i) := by omega
  have hbN : b ≠ w.heap.size := by omega
  have hdl : (cs.drop (i * 2)).length = (n - i) * 2 := by rw [List.length_drop, hcl]; omega
  have hcpB : ∀ (W : World), (∀ x, W.cell? x = (W1.setCells w.heap.size (i * 2) vs).cell? x) → (∀ x, W.frozen? x = (W1.setCells w.heap.size (i * 2) vs).frozen? x) → ∀ ty dc sc, (Builtin.copy_ #[(ρ.t 24), (ρ.t 24)] ty #[.slice (some ⟨w.heap.size, (i + m) * 2, none⟩) (n + m - (i + m)) dc, .slice (some ⟨b, off + i * 2, none⟩) (n - i) sc]).run P W = .ok (goInt ((n - i : Nat) : Int)) (W.setCells w.heap.size ((i + m) * 2) (cs.drop (i * 2))) := fun W hWc hWf ty dc sc =>
    copyN W _ _ ty (ρ.t 9) w.heap.size ((i + m) * 2) (n + m - (i + m)) dc ⟨b, off + i * 2, none⟩ (n - i) sc (n - i) 2 (cs.drop (i * 2)) L.t24 hsz (by simp only [Nat.min_def]; split <;> omega) hdl
      (fun j v hj => by
        rw [Addr.add_lit, hWc, World.cell?_setCells_out _ _ _ _ _ (fun h _ => absurd h hbN), Nat.add_assoc]
        exact hOb _ v (hcs (i * 2 + j) v (by rwa [List.getElem?_drop] at hj)))
      (fun j hj => by rw [hWc]; exact isSome_setCells _ _ _ _ (fun t ht => hN _ (by omega)) _ (hN _ (by omega)))
      (fun j hj => by rw [hWf, World.frozen?_setCells]; exact hNf _) (fun v hv => h1c v (List.mem_of_mem_drop hv))
  subst hW1
  have hE1 : ∀ x, ((w.alloc (.cells ROW (ρ.t 9))).drew).cell? x = (w.drew.alloc (.cells ROW (ρ.t 9))).cell? x := fun x => rfl
  have hE2 : ∀ x, ((w.alloc (.cells ROW (ρ.t 9))).drew).frozen? x = (w.drew.alloc (.cells ROW (ρ.t 9))).frozen? x := fun x => rfl
  have hF1 : ∀ x, (((w.alloc (.cells ROW (ρ.t 9))).drew.setCells w.heap.size (i * 2) vs).drew).cell? x = ((w.drew.alloc (.cells ROW (ρ.t 9))).setCells w.heap.size (i * 2) vs).cell? x := fun x => rfl
  have hF2 : ∀ x, (((w.alloc (.cells ROW (ρ.t 9))).drew.setCells w.heap.size (i * 2) vs).drew).frozen? x = ((w.drew.alloc (.cells ROW (ρ.t 9))).setCells w.heap.size (i * 2) vs).frozen? x := fun x => rfl
  have hw1 : IntKind.i64.wrap ((i : Int) + (m : Int)) = (i : Int) + (m : Int) := by rw [IntKind.wrap_i64]; omega
  have hb1 : (0 : Int) ≤ (i : Int) + (m : Int) := by omega
  have hin : i ≤ n := by omega
  have htn : ((i : Int) + (m : Int)).toNat = i + m := by omega
  have hb3 : (i : Int) ≤ (n : Int) := by omega
  clear hkk hik hold hROW hG hRl hb48
  go_enter L.f22, bodyI_ntmps ρ nm
  go_wp2_with (first
    | (at_builtin; refine Lib.wpList_append_run _ rfl _ _ _ _ rfl _ _ rfl rfl _ _ (hrz _) ?_)
    | (at_builtin; refine wpList_copy_runI _ rfl _ _ (ρ.t 24) (ρ.t 24) rfl _ _ rfl rfl (hcpA _ hE1 hE2 _ _) ?_)
    | (at_builtin; refine wpList_copy_runI _ rfl _ _ (ρ.t 24) (ρ.t 24) rfl _ _ rfl rfl (hcpB _ (fun _ => rfl) (fun _ => rfl) _ _ _) ?_))
  go_region_law_o (refine step_copy_runI rfl _ _ (ρ.t 24) (ρ.t 24) rfl (.slice (some ⟨w.heap.size, (i + m) * 2, none⟩) (n + m - (i + m)) (G - (i + m))) (.slice (some ⟨b, off + i * 2, none⟩) (n - i) (c - i)) (by simp [Act.eval, Act.put]) (by simp [Act.eval, Act.put]) (hcpB _ hF1 hF2 (ρ.t 3) (G - (i + m)) (c - i)) ?_)
  go_wp2
  go_ret
  exact ⟨rfl, rfl⟩
end
end Go.Proofs.K
end
section
/- Into a list of one's own: slices.Insert. -/
set_option linter.unusedSimpArgs false
set_option linter.unusedVariables false
namespace Go.Proofs.K
open Go Go.Sim Go.Proofs Go.Shelf
variable {G : Glob}
def iren : Ren := ⟨fun | 21 => 53 | 27 => 69 | 28 => 70 | 35 => 78 | 39 => 84 | n => n, fun | 0 => 0 | 3 => 3 | 4 => 4 | 22 => 42 | n => n, fun n => n⟩
theorem lays21 : Lays2.n21 Tryd.prog iren := {
  mixed := by kernel_rfl
  f21 := Tryd.func53.trans (congrArg some (by kernel_rfl))
  f27 := Tryd.func69.trans (congrArg some (by kernel_rfl))
  f28 := Tryd.func70.trans (congrArg some (by kernel_rfl))
  f35 := Tryd.func78.trans (congrArg some (by kernel_rfl))
  f39 := Tryd.func84.trans (congrArg some (by kernel_rfl))
  t0 := Tryd.underlying0
  a0 := Tryd.isAgg0
  z0 := Tryd.sizeOf0
  v0 := Tryd.zeroValue0
  t3 := Tryd.underlying3
  a3 := Tryd.isAgg3
  z3 := Tryd.sizeOf3
  v3 := Tryd.zeroValue3
  t4 := Tryd.underlying4
  a4 := Tryd.isAgg4
  z4 := Tryd.sizeOf4
  v4 := Tryd.zeroValue4
  t22 := Tryd.underlying42
  a22 := Tryd.isAgg42
  z22 := Tryd.sizeOf42
  v22 := Tryd.zeroValue42
  i3 := by kernel_rfl }
theorem setCells_blk (b : Nat) : ∀ (vs : List Value) (o : Nat) (w : World) (cur : Array Value) (t : TypeId) (f : Nat × Nat), w.heap[b]? = some (.cells cur t f) → o + vs.length ≤ cur.size →
    ∃ cur' : Array Value, (w.setCells b o vs).heap[b]? = some (.cells cur' t f) ∧ cur'.size = cur.size ∧ (∀ k, cur'[k]? = if o ≤ k ∧ k < o + vs.length then vs[k - o]? else cur[k]?) ∧ (∀ k, k ≠ b → (w.setCells b o vs).heap[k]? = w.heap[k]?) ∧
      (w.setCells b o vs).heap.size = w.heap.size ∧ (w.setCells b o vs).os = w.os ∧ (w.setCells b o vs).tape = w.tape ∧ (w.setCells b o vs).output = w.output
  | [], o, w, cur, t, f, hb, _ => ⟨cur, hb, rfl, fun k => by rw [if_neg (by simp)], fun _ _ => rfl, rfl, rfl, rfl, rfl⟩
  | v :: r, o, w, cur, t, f, hb, hl => by
    have hlt : b < w.heap.size := (Array.getElem?_eq_some_iff.1 hb).1
    have h1 : (w.setCell ⟨b, o, none⟩ v).heap[b]? = some (.cells (cur.setIfInBounds o v) t f) := by
      unfold World.setCell
      rw [Array.getElem?_modify, if_pos rfl, hb]; rfl
    simp only [List.length_cons] at hl
    obtain ⟨cur', g1, g2, g3, g4, g5, g6, g7, g8⟩ := setCells_blk b r (o + 1) (w.setCell ⟨b, o, none⟩ v) _ t f h1 (by simp; omega)
    refine ⟨cur', g1, by rw [g2]; simp, fun k => ?_, fun k hk => ?_, ?_, g6, g7, g8⟩
    · rw [g3]
      by_cases hk : k = o
      · subst hk
        rw [if_neg (by omega), if_pos (by simp)]
        rw [Array.getElem?_setIfInBounds]
        first | (simp; omega) | simp
        try omega
      · by_cases hi : o + 1 ≤ k ∧ k < o + 1 + r.length
        · rw [if_pos hi, if_pos (by simp; omega), show k - o = (k - (o + 1)) + 1 by omega, List.getElem?_cons_succ]
        · rw [if_neg hi, if_neg (by simp; omega), Array.getElem?_setIfInBounds, if_neg (by omega)]
    · rw [World.setCells, g4 k hk]
      unfold World.setCell
      rw [Array.getElem?_modify, if_neg (fun h => hk h.symm)]
    · rw [World.setCells, g5]; simp [World.setCell]
/-- numbers in a block -/
def IntsAt (cur : Array Value) (bo : Nat) (l : List Int) : Prop := ∀ k, k < l.length → cur[bo + k]? = some (.int .i64 (nth l k))
theorem IntsAt.cells {cur : Array Value} {bo : Nat} {l : List Int} (I : IntsAt cur bo l) (g : Ghost) (w : World) : ∀ (i j : Nat) (e : List AVal) (x : AVal), (l.map eInt)[i]? = some e → e[j]? = some x → ∃ u : Value, cur[bo + (i * 1 + j)]? = some u ∧ u.oneCell' = true ∧ VRel g w u x := by
  intro i j e x he hx
  rw [List.getElem?_map] at he
  obtain ⟨n, hn, rfl⟩ := Option.map_eq_some_iff.1 he
  have hi := (List.getElem?_eq_some_iff.1 hn).1
  have hj : j = 0 := by
    have := (List.getElem?_eq_some_iff.1 hx).1
    simp [eInt] at this; exact this
  subst hj
  cases hx
  have e1 : nth l i = n := by rw [nth_some hi] at hn; exact Option.some.inj hn
  refine ⟨.int .i64 n, ?_, rfl, .int _ _⟩
  have := I i hi
  rw [e1] at this
  simpa using this
theorem ints_block {h : Heap} {g : Ghost} {w : World} (H : HRel h g w) {r : Nat} {es : List (List AVal)} {l : List Int} (hr : h r = some ⟨.t 3, 1, es⟩) (hl : l.length ≤ es.length) (ht : es.take l.length = l.map eInt) (hc : g.cap r ≠ 0) :
    ∃ cur : Array Value, w.heap[g.eta r]? = some (.cells cur 3 (0, 0)) ∧ g.bo r + g.cap r = cur.size ∧ IntsAt cur (g.bo r) l := by
  have O := H.obj r _ hr
  rcases O.block with h0 | ⟨_, _, cur, hcur, hsz, hcell⟩
  · exact absurd h0 hc
  · refine ⟨cur, hcur.un rfl, by simpa using hsz, fun k hk => ?_⟩
    have he : es[k]? = some (eInt (nth l k)) := by
      have h1 : (es.take l.length)[k]? = some (eInt (nth l k)) := by rw [ht, List.getElem?_map, nth_some hk]; rfl
      rw [List.getElem?_take, if_pos hk] at h1; exact h1
    obtain ⟨u, hu, _, hv⟩ := hcell k 0 _ _ he rfl
    rw [hv.int_inv] at hu
    simpa using hu
/-- a new block of the call's own -/
theorem new_fin {h : Heap} {g : Ghost} {w w' : World} (H : HRel h g w) {cells : Array Value} {cap : Nat} {l : List Int} (hp : w'.heap = (w.alloc (.cells cells 3)).heap) (h1 : w'.os = w.os) (h2 : w'.tape = w.tape) (h3 : w'.output = w.output)
    (hcs : cells.size = cap) (hle : l.length ≤ cap) (hm : cap ≤ maxLen) (I : IntsAt cells 0 l) :
    ∃ g', GS g w g' w' ∧ HRel (upd h g.nxt (some ⟨.t 3, 1, l.map eInt⟩)) g' w' ∧ VRel g' w' (.slice (some ⟨w.heap.size, 0, none⟩) l.length cap) (.osl g.nxt 1 0 l.length) := by
  obtain ⟨S1, H1⟩ := root_new H cells (ty := 3) (sz := 1) (cap := cap) (es := l.map eInt) (by decide) (by omega) (by simpa using hle) (fun e he => by obtain ⟨x, _, rfl⟩ := List.mem_map.1 he; rfl) (fun i j e x he hx => by
    have := I.cells g w i j e x he hx
    simpa using this)
  obtain ⟨S2, H2⟩ := H1.ext (w' := w') (fun b _ => by rw [hp]) h1 h2 h3 (by rw [hp]; exact Nat.le_refl _)
  refine ⟨_, S1.trans S2, H2, ?_⟩
  have := VRel.osl (g := g.add w.heap.size 0 cap 1) (w := w') g.nxt 1 0 l.length cap 0 (Nat.lt_succ_self _) (by simp [Ghost.add]) hle hm (by simp [Ghost.add]) (fun _ => by simp [Ghost.add])
  simpa [Ghost.add] using this
/-- a block of the call's own written over -/
theorem put_fin {h : Heap} {g : Ghost} {w w' : World} (H : HRel h g w) {r : Nat} {es : List (List AVal)} (hr : h r = some ⟨.t 3, 1, es⟩) (hc : g.cap r ≠ 0) {cur' : Array Value} {l : List Int} (hb : w'.heap[g.eta r]? = some (.cells cur' 3 (0, 0)))
    (hs : ∀ b, b ≠ g.eta r → w'.heap[b]? = w.heap[b]?) (hz : w'.heap.size = w.heap.size) (h1 : w'.os = w.os) (h2 : w'.tape = w.tape) (h3 : w'.output = w.output) (hsz : g.bo r + g.cap r = cur'.size) (hle : l.length ≤ g.cap r) (hm : g.cap r ≤ maxLen) (I : IntsAt cur' (g.bo r) l) :
    ∃ g', GS g w g' w' ∧ HRel (upd (del h r) g.nxt (some ⟨.t 3, 1, l.map eInt⟩)) g' w' ∧ VRel g' w' (.slice (some ⟨g.eta r, g.bo r, none⟩) l.length (g.cap r)) (.osl g.nxt 1 0 l.length) := by
  have O := H.obj r _ hr
  rcases O.block with h0 | ⟨hlt, hnf, cur, hcur, _, _⟩
  · exact absurd h0 hc
  · obtain ⟨S, H1⟩ := root_touch H hr hc (w' := w') hs hz h1 h2 h3 ⟨_, _, _, hb⟩
    have H2 := H1.add (blk := g.eta r) (bo := g.bo r) (cap := g.cap r) (sz := 1) (ty := 3) (es := l.map eInt) (by decide) (fun e he => by obtain ⟨x, _, rfl⟩ := List.mem_map.1 he; rfl) (by simpa using hle) (.inr ⟨by rw [hz]; exact hlt, hnf, fun t ob ht h0 he => by
      unfold Sim.del at ht
      split at ht
      · cases ht
      · rename_i hne; exact hne (H.inj t r ob _ ht hr h0 hc he), cur', .mk0 hb, by omega, I.cells g w'⟩)
    refine ⟨_, S.addTo _ _ _ _ (.inr (.inl ⟨r, O.lt, hc, rfl⟩)), H2, ?_⟩
    have := VRel.osl (g := g.add (g.eta r) (g.bo r) (g.cap r) 1) (w := w') g.nxt 1 0 l.length (g.cap r) (g.bo r) (Nat.lt_succ_self _) (by simp [Ghost.add]) hle hm (by simp [Ghost.add]) (fun _ => by simp [Ghost.add])
    simpa [Ghost.add] using this
theorem ins_len (l : List Int) (i : Nat) (x : Int) (hi : i ≤ l.length) : (l.take i ++ x :: l.drop i).length = l.length + 1 := by
  rw [List.length_append, List.length_cons, List.length_take, List.length_drop]; omega
theorem ins_nth (l : List Int) (i : Nat) (x : Int) (hi : i ≤ l.length) (k : Nat) : nth (l.take i ++ x :: l.drop i) k = if k < i then nth l k else if k = i then x else nth l (k - 1) := by
  unfold nth
  simp only [List.getD_eq_getElem?_getD]
  by_cases h1 : k < i
  · rw [if_pos h1, List.getElem?_append_left (by rw [List.length_take]; omega), List.getElem?_take, if_pos h1]
  · rw [if_neg h1, List.getElem?_append_right (by rw [List.length_take]; omega), List.length_take, Nat.min_eq_left hi]
    by_cases h2 : k = i
    · rw [if_pos h2, h2]; simp
    · rw [if_neg h2, show k - i = (k - i - 1) + 1 by omega, List.getElem?_cons_succ, List.getElem?_drop, show i + (k - i - 1) = k - 1 by omega]
end Go.Proofs.K
end
section
/- Into a list of one's own: the contract of slices.Insert. -/
set_option linter.unusedSimpArgs false
set_option linter.unusedVariables false
namespace Go.Proofs.K
open Go Go.Sim Go.Proofs Go.Shelf
variable {G : Glob}
theorem vrel_three {g : Ghost} {w : World} {vs : Array Value} {a b c : AVal} (V : VRelL g w vs [a, b, c]) : ∃ u v x, vs = #[u, v, x] ∧ VRel g w u a ∧ VRel g w v b ∧ VRel g w x c := by
  obtain ⟨hs, hv⟩ := V
  obtain ⟨l⟩ := vs
  match l, hs with
  | [u, v, x], _ => exact ⟨u, v, x, rfl, hv 0 u a rfl rfl, hv 1 v b rfl rfl, hv 2 x c rfl rfl⟩
def intsV (l : List Int) : List Value := l.map (Value.int .i64)
theorem intsV_get {l : List Int} {j : Nat} {v : Value} (h : (intsV l)[j]? = some v) : j < l.length ∧ v = .int .i64 (nth l j) := by
  unfold intsV at h
  rw [List.getElem?_map] at h
  obtain ⟨n, hn, rfl⟩ := Option.map_eq_some_iff.1 h
  have hj := (List.getElem?_eq_some_iff.1 hn).1
  refine ⟨hj, ?_⟩
  rw [nth_some hj] at hn
  rw [Option.some.inj hn]
theorem intsV_at {l : List Int} {j : Nat} (h : j < l.length) : (intsV l)[j]? = some (.int .i64 (nth l j)) := by
  unfold intsV; rw [List.getElem?_map, nth_some h]; rfl
theorem intsV_one {l : List Int} : ∀ v ∈ intsV l, v.oneCell' = true := fun v hv => by
  obtain ⟨x, _, rfl⟩ := List.mem_map.1 hv; rfl
/-- a number into a list -/
theorem insertI_ok {h : Heap} {a : AVal} {l : List Int} {x : Int} {i rv : Nat} (O : OwnS h 3 1 (l.map eInt) a) (M : Mut a) (hi : i ≤ l.length) (hl : l.length ≤ 100000) (hrv : h rv = some ⟨.t 3, 1, [eInt x]⟩) (hne : rootOf a ≠ some rv) :
    DCalls (Pg G) 53 [a, aInt i, .osl rv 1 0 1] h fun r h' => ∃ r', r = .osl r' 1 0 (l.length + 1) ∧ h' r' = some ⟨.t 3, 1, (l.take i ++ x :: l.drop i).map eInt⟩ ∧ (rootOf a = some r' ∨ h r' = none) ∧ (∀ t o, h t = some o → rootOf a ≠ some t → h' t = some o) := by
  refine ⟨⟨_, Tryd.func53, by kernel_rfl, by kernel_rfl⟩, fun g w vs H GR V => ?_⟩
  obtain ⟨va, vi, vv, rfl, ha, hvi, hv⟩ := vrel_three V
  rw [hvi.int_inv]
  obtain ⟨hrl, hsz, hc⟩ := hv.osl_inv
  rcases hc with ⟨_, _, h0, _⟩ | ⟨capv, offv, rfl, hncv, hmv, hiv, hoffv⟩
  · omega
  have hcv : g.cap rv ≠ 0 := by omega
  obtain ⟨curv, hcurv, hszv, Iv⟩ := ints_block H (l := [x]) hrv (by simp) (by simp) hcv
  have hov : offv = g.bo rv := by have := hoffv (by omega); omega
  subst hov
  have cv : ∀ j v, [Value.int .i64 x][j]? = some v → w.cell? ⟨g.eta rv, g.bo rv + j, none⟩ = some v := fun j v hj => by
    have h1 := intsV_get (l := [x]) (j := j) (v := v) hj
    rw [cell_of_row w _ _ curv _ _ hcurv, Iv j h1.1, h1.2]
  have one1 : ∀ v ∈ [Value.int .i64 x], v.oneCell' = true := fun v hv => by simp at hv; subst hv; rfl
  have nx := H.none_nxt
  have ins := ins_len l i x hi
  have insn := ins_nth l i x hi
  -- where nothing is there yet
  have empty : l = [] → ∀ (A : Option Addr), va = .slice A 0 0 → Calls Tryd.prog 53 #[va, .int .i64 i, .slice (some ⟨g.eta rv, g.bo rv, none⟩) 1 capv] w fun e w' => ∃ v r h' g', e = .returned v ∧ (∃ r', r = .osl r' 1 0 (l.length + 1) ∧ h' r' = some ⟨.t 3, 1, (l.take i ++ x :: l.drop i).map eInt⟩ ∧ (rootOf a = some r' ∨ h r' = none) ∧ (∀ t o, h t = some o → rootOf a ≠ some t → h' t = some o)) ∧ HRel h' g' w' ∧ VRel g' w' v r ∧ GS g w g' w' := by
    intro hl0 A hA
    subst hl0
    obtain rfl : i = 0 := by simpa using hi
    rw [hA]
    refine (Any2.slices_Insert_int_end_grow lays21 A 0 0 (g.eta rv) (g.bo rv) 1 capv [] [.int .i64 x] w (by decide) (by decide) (by decide) (by decide) rfl rfl (fun _ => rfl) (fun _ _ j v hj => by simp at hj) cv one1).mono fun e w' ⟨he, hw⟩ => ?_
    have ge := grownCap_ge w (0 + 1) 0 (iren.t 3)
    have gm := grownCap_le_maxLen w (0 + 1) 0 (iren.t 3) (by decide)
    generalize grownCap w (0 + 1) 0 (iren.t 3) = gc at *
    obtain ⟨g', S, H', V'⟩ := new_fin (w' := w') (l := [x]) (cap := gc) H (by rw [hw]; rfl) (by rw [hw]; rfl) (by rw [hw]; rfl) (by rw [hw]; rfl) (by rw [Array.size_append, size_zeroCells]; show 1 + (gc - (0 + 1)) * 1 = gc; omega) (by simpa using ge) gm (fun k hk => by
      have : k = 0 := by simpa using hk
      subst this
      rw [Array.getElem?_append_left (by simp)]; rfl)
    refine ⟨_, .osl g.nxt 1 0 1, _, g', he, ⟨g.nxt, rfl, upd_same _ _ _, .inr nx, fun t o ht _ => by rw [upd_ne _ _ (fun e => by rw [e, nx] at ht; cases ht)]; exact ht⟩, H', by simpa using V', S⟩
  rcases O.live M with ⟨hl0, rfl⟩ | ⟨r, es, rfl, hr, hle, hte⟩
  · obtain ⟨A, hA, _⟩ := ha.emp_inv
    exact empty (by simpa using hl0) A hA
  · rw [List.length_map] at ha hle hte ⊢
    obtain ⟨_, _, hca⟩ := ha.osl_inv
    rcases hca with ⟨hA, _, h0, _⟩ | ⟨c, off, hA, hnc, hm, hic, hoff⟩
    · have : l = [] := List.eq_nil_of_length_eq_zero h0
      exact empty this none (by rw [hA])
    · have hcap : g.cap r = c := by omega
      have hle2 := (H.obj r _ hr).le
      by_cases hc0 : c = 0
      · have hn0 : l.length = 0 := by omega
        subst hc0
        exact empty (List.eq_nil_of_length_eq_zero hn0) (some ⟨g.eta r, off, none⟩) (by rw [hA, hn0])
      · have hof : off = g.bo r := by have := hoff (by omega); omega
        subst hof
        have hcr : g.cap r ≠ 0 := by omega
        obtain ⟨cur, hcur, hsz2, I⟩ := ints_block H hr hle hte hcr
        rw [hA]
        have cs : ∀ j v, (intsV l)[j]? = some v → w.cell? ⟨g.eta r, g.bo r + j, none⟩ = some v := fun j v hj => by
          obtain ⟨h1, rfl⟩ := intsV_get hj
          rw [cell_of_row w _ _ cur _ _ hcur, I j h1]
        have cln : (intsV l).length = l.length := by simp [intsV]
        have hnb : g.eta rv ≠ g.eta r := fun e => hne (by rw [H.inj rv r _ _ hrv hr hcv hcr e]; rfl)
        have sp : ∀ j, g.bo r + j < cur.size → (w.cell? ⟨g.eta r, g.bo r + j, none⟩).isSome = true := fun j hj => by
          rw [cell_of_row w _ _ cur _ _ hcur, Array.getElem?_eq_getElem hj]; rfl
        have fzn : ∀ b k (cu : Array Value) t, w.heap[b]? = some (.cells cu t (0, 0)) → w.frozen? ⟨b, k, none⟩ = false := fun b k cu t hb => by simp [World.frozen?, hb]
        have kp : ∀ (ob : AObj) t o, h t = some o → rootOf (.osl r 1 0 l.length) ≠ some t → upd (del h r) g.nxt (some ob) t = some o := fun ob t o ht hn => by
          rw [upd_ne _ _ (fun e => by rw [e, nx] at ht; cases ht)]
          unfold del
          rw [if_neg (fun e => hn (by rw [e]; rfl))]; exact ht
        have kp2 : ∀ (ob : AObj) t o, h t = some o → rootOf (.osl r 1 0 l.length) ≠ some t → upd h g.nxt (some ob) t = some o := fun ob t o ht hn => by
          rw [upd_ne _ _ (fun e => by rw [e, nx] at ht; cases ht)]; exact ht
        have dl : ((intsV l).drop i).length = l.length - i := by rw [List.length_drop, cln]
        by_cases hroom : l.length + 1 ≤ c
        · by_cases hin : i < l.length
          · refine (Any2.slices_Insert_int_shift lays21 (g.eta r) (g.bo r) l.length c i (g.eta rv) (g.bo rv) 1 capv (intsV l) [.int .i64 x] w hin (by decide) hroom (by simp only [maxLen] at hm; omega) hnb cln rfl cs (fun j hj => sp j (by omega)) (fun j _ => fzn _ _ _ _ hcur) cv intsV_one one1 3 3 curv.size cur.size (by simp [World.shape?, hcurv]) (by simp [World.shape?, hcur]) (by omega) (fzn _ _ _ _ hcurv) (fzn _ _ _ _ hcurv)).mono fun e w' ⟨he, hw⟩ => ?_
            obtain ⟨c1, b1, s1, k1, o1, z1, p1, p2, p3⟩ := setCells_blk (g.eta r) ((intsV l).drop i) (g.bo r + (i + 1)) w.drew cur _ _ hcur (by rw [dl]; omega)
            obtain ⟨c2, b2, s2, k2, o2, z2, q1, q2, q3⟩ := setCells_blk (g.eta r) [.int .i64 x] (g.bo r + i) (w.drew.setCells (g.eta r) (g.bo r + (i + 1)) ((intsV l).drop i)) c1 _ _ b1 (by simp; omega)
            have I2 : IntsAt c2 (g.bo r) (l.take i ++ x :: l.drop i) := fun k hk => by
              rw [ins] at hk
              rw [k2, insn k]
              by_cases h1 : k = i
              · rw [if_pos (by simp; omega), if_neg (by omega), if_pos h1, h1, Nat.sub_self]; rfl
              · rw [if_neg (by simp; omega), k1, dl]
                by_cases h2 : k < i
                · rw [if_neg (by omega), if_pos h2]; exact I k (by omega)
                · rw [if_pos (by omega), if_neg h2, if_neg h1, List.getElem?_drop, show i + (g.bo r + k - (g.bo r + (i + 1))) = k - 1 by omega]
                  exact intsV_at (by omega)
            obtain ⟨g', S, H', V'⟩ := put_fin (w' := w') (cur' := c2) H hr hcr (by rw [hw]; exact b2) (fun b hb => by rw [hw, o2 b hb, o1 b hb]; rfl) (by rw [hw, z2, z1]; rfl) (by rw [hw, q1, p1]; rfl) (by rw [hw, q2, p2]; rfl) (by rw [hw, q3, p3]; rfl) (by omega) (by omega) (by omega) I2
            rw [ins, hcap] at V'
            exact ⟨_, .osl g.nxt 1 0 (l.length + 1), _, g', he, ⟨g.nxt, rfl, upd_same _ _ _, .inr nx, kp _⟩, H', V', S⟩
          · obtain rfl : i = l.length := by omega
            refine (Any2.slices_Insert_int_end_room lays21 (g.eta r) (g.bo r) l.length c (g.eta rv) (g.bo rv) 1 capv [.int .i64 x] w (by decide) hroom (by simp only [maxLen] at hm; omega) rfl (fun j hj => by rw [Nat.add_assoc]; exact sp _ (by omega)) (fun j _ => fzn _ _ _ _ hcur) cv one1).mono fun e w' ⟨he, hw⟩ => ?_
            obtain ⟨c2, b2, s2, k2, o2, z2, q1, q2, q3⟩ := setCells_blk (g.eta r) [.int .i64 x] (g.bo r + l.length) w cur _ _ hcur (by simp; omega)
            have I2 : IntsAt c2 (g.bo r) (l.take l.length ++ x :: l.drop l.length) := fun k hk => by
              rw [ins] at hk
              rw [k2, insn k]
              by_cases h1 : k = l.length
              · rw [if_pos (by simp; omega), if_neg (by omega), if_pos h1, h1, Nat.sub_self]; rfl
              · rw [if_neg (by simp; omega), if_pos (by omega)]; exact I k (by omega)
            obtain ⟨g', S, H', V'⟩ := put_fin (w' := w') (cur' := c2) H hr hcr (by rw [hw]; exact b2) (fun b hb => by rw [hw, o2 b hb]) (by rw [hw, z2]) (by rw [hw, q1]) (by rw [hw, q2]) (by rw [hw, q3]) (by omega) (by omega) (by omega) I2
            rw [ins, hcap] at V'
            exact ⟨_, .osl g.nxt 1 0 (l.length + 1), _, g', he, ⟨g.nxt, rfl, upd_same _ _ _, .inr nx, kp _⟩, H', V', S⟩
        · have ge := grownCap_ge w (l.length + 1) c (iren.t 3)
          have gm := grownCap_le_maxLen w (l.length + 1) c (iren.t 3) (by simp only [maxLen]; omega)
          by_cases hin : i < l.length
          · refine (Any2.slices_Insert_int_grow lays21 (g.eta r) (g.bo r) l.length c i (g.eta rv) (g.bo rv) 1 capv (intsV l) [.int .i64 x] w hin (by decide) hnc (by omega) (by omega) cln rfl cs cv intsV_one one1).mono fun e w' ⟨he, hw⟩ => ?_
            generalize grownCap w (l.length + 1) c (iren.t 3) = gc at *
            have z0 : ∀ k, (Builtin.zeroCells (Value.int .i64 0).cells k).size = k := fun k => by rw [size_zeroCells]; show k * 1 = k; omega
            rw [show iren.t 3 = 3 from rfl] at hw
            generalize hC0 : (((intsV l).take i).toArray ++ Builtin.zeroCells (Value.int .i64 0).cells (l.length + 1 - i) ++ Builtin.zeroCells (Value.int .i64 0).cells (gc - (l.length + 1))) = C0 at hw
            have sC : C0.size = gc := by
              rw [← hC0, Array.size_append, Array.size_append, z0, z0, List.size_toArray, List.length_take, cln]; omega
            have gC : ∀ k, k < i → C0[k]? = some (.int .i64 (nth l k)) := fun k hk => by
              rw [← hC0, Array.append_assoc, Array.getElem?_append_left (by rw [List.size_toArray, List.length_take, cln]; omega), List.getElem?_toArray, List.getElem?_take, if_pos hk]
              exact intsV_at (by omega)
            have hb0 : (w.alloc (.cells C0 3)).drew.heap[w.heap.size]? = some (.cells C0 3 (0, 0)) := heap_push_new w _
            obtain ⟨c1, b1, s1, k1, o1, z1, p1, p2, p3⟩ := setCells_blk w.heap.size [.int .i64 x] i (w.alloc (.cells C0 3)).drew C0 _ _ hb0 (by simp; omega)
            obtain ⟨c2, b2, s2, k2, o2, z2, q1, q2, q3⟩ := setCells_blk w.heap.size ((intsV l).drop i) (i + 1) ((w.alloc (.cells C0 3)).drew.setCells w.heap.size i [.int .i64 x]).drew c1 _ _ b1 (by rw [dl]; omega)
            have I2 : IntsAt c2 0 (l.take i ++ x :: l.drop i) := fun k hk => by
              rw [ins] at hk
              rw [k2, insn k, dl]
              by_cases h1 : i < k
              · rw [if_pos (by omega), if_neg (by omega), if_neg (by omega), List.getElem?_drop, show i + (0 + k - (i + 1)) = k - 1 by omega]
                exact intsV_at (by omega)
              · rw [if_neg (by omega), k1]
                by_cases h2 : k = i
                · rw [if_pos (by simp; omega), if_neg (by omega), if_pos h2, h2]; simp
                · rw [if_neg (by simp; omega), if_pos (by omega), Nat.zero_add]; exact gC k (by omega)
            have hp : w'.heap = (w.alloc (.cells c2 3)).heap := by
              rw [hw]
              apply Array.ext_getElem?
              intro b
              by_cases hb : b = w.heap.size
              · subst hb; rw [b2]; exact (heap_push_new w _).symm
              · rw [o2 b hb]
                refine (o1 b hb).trans ?_
                show (w.heap.push _)[b]? = (w.heap.push _)[b]?
                rw [Array.getElem?_push, Array.getElem?_push, if_neg hb, if_neg hb]
            obtain ⟨g', S, H', V'⟩ := new_fin (w' := w') (cap := gc) H hp (by rw [hw, q1]; exact p1) (by rw [hw, q2]; exact p2) (by rw [hw, q3]; exact p3) (by omega) (by omega) gm I2
            rw [ins] at V'
            exact ⟨_, .osl g.nxt 1 0 (l.length + 1), _, g', he, ⟨g.nxt, rfl, upd_same _ _ _, .inr nx, kp2 _⟩, H', V', S⟩
          · obtain rfl : i = l.length := by omega
            refine (Any2.slices_Insert_int_end_grow lays21 (some ⟨g.eta r, g.bo r, none⟩) l.length c (g.eta rv) (g.bo rv) 1 capv (intsV l) [.int .i64 x] w (by decide) hnc (by omega) (by omega) cln rfl (fun h => by cases h) (fun a ha j v hj => by cases ha; rw [Addr.add_lit]; exact cs j v hj) cv one1).mono fun e w' ⟨he, hw⟩ => ?_
            generalize grownCap w (l.length + 1) c (iren.t 3) = gc at *
            have z0 : ∀ k, (Builtin.zeroCells (Value.int .i64 0).cells k).size = k := fun k => by rw [size_zeroCells]; show k * 1 = k; omega
            obtain ⟨g', S, H', V'⟩ := new_fin (w' := w') (l := l.take l.length ++ x :: l.drop l.length) (cap := gc) H (by rw [hw]; rfl) (by rw [hw]; rfl) (by rw [hw]; rfl) (by rw [hw]; rfl) (by rw [Array.size_append, z0, List.size_toArray, List.length_append, cln, List.length_singleton]; omega) (by omega) gm (fun k hk => by
              rw [ins] at hk
              rw [Nat.zero_add, insn k, Array.getElem?_append_left (by rw [List.size_toArray, List.length_append, cln, List.length_singleton]; omega), List.getElem?_toArray]
              by_cases h1 : k < l.length
              · rw [if_pos h1, List.getElem?_append_left (by omega)]; exact intsV_at h1
              · rw [if_neg h1, if_pos (by omega), List.getElem?_append_right (by omega), cln, show k - l.length = 0 by omega]; rfl)
            rw [ins] at V'
            exact ⟨_, .osl g.nxt 1 0 (l.length + 1), _, g', he, ⟨g.nxt, rfl, upd_same _ _ _, .inr nx, kp2 _⟩, H', V', S⟩
end Go.Proofs.K
end
section
/- Into a list of one's own: the contract of slices.Insert at attributes. -/
set_option linter.unusedSimpArgs false
set_option linter.unusedVariables false
namespace Go.Proofs.K
open Go Go.Sim Go.Proofs Go.Shelf
variable {G : Glob}
def insL {α : Type} (l : List α) (i : Nat) (x : α) : List α := l.take i ++ x :: l.drop i
theorem insL_len {α : Type} (l : List α) (i : Nat) (x : α) (hi : i ≤ l.length) : (insL l i x).length = l.length + 1 := by
  unfold insL; rw [List.length_append, List.length_cons, List.length_take, List.length_drop]; omega
theorem insL_all {es : List (List AVal)} {x : List AVal} {sz : Nat} (hes : ∀ e ∈ es, e.length = sz) (hx : x.length = sz) (i : Nat) : ∀ e ∈ insL es i x, e.length = sz := by
  intro e he
  unfold insL at he
  rcases List.mem_append.1 he with h | h
  · exact hes e (List.mem_of_mem_take h)
  · rcases List.mem_cons.1 h with h | h
    · rw [h]; exact hx
    · exact hes e (List.mem_of_mem_drop h)
theorem insL_get {α : Type} (l : List α) (i : Nat) (x : α) (hi : i ≤ l.length) (k : Nat) : (insL l i x)[k]? = if k < i then l[k]? else if k = i then some x else l[k - 1]? := by
  unfold insL
  by_cases h1 : k < i
  · rw [if_pos h1, List.getElem?_append_left (by rw [List.length_take]; omega), List.getElem?_take, if_pos h1]
  · rw [if_neg h1, List.getElem?_append_right (by rw [List.length_take]; omega), List.length_take, Nat.min_eq_left hi]
    by_cases h2 : k = i
    · rw [if_pos h2, h2]; simp
    · rw [if_neg h2, show k - i = (k - i - 1) + 1 by omega, List.getElem?_cons_succ, List.getElem?_drop, show i + (k - i - 1) = k - 1 by omega]
/-- rows of cells in a block -/
def RowsAt (sz : Nat) (g : Ghost) (w : World) (cur : Array Value) (bo : Nat) (es : List (List AVal)) : Prop := ∀ (k j : Nat) (e : List AVal) (x : AVal), es[k]? = some e → e[j]? = some x → ∃ u : Value, cur[bo + (k * sz + j)]? = some u ∧ u.oneCell' = true ∧ VRel g w u x
theorem RowsAt.take {sz : Nat} {g : Ghost} {w : World} {cur : Array Value} {bo : Nat} {es : List (List AVal)} (I : RowsAt sz g w cur bo es) (n : Nat) : RowsAt sz g w cur bo (es.take n) := fun k j e x hk hx => by
  rw [List.getElem?_take] at hk
  split at hk
  · exact I k j e x hk hx
  · cases hk
def cellsL (cur : Array Value) (bo n : Nat) : List Value := (cur.toList.drop bo).take n
theorem cellsL_len {cur : Array Value} {bo n : Nat} (h : bo + n ≤ cur.size) : (cellsL cur bo n).length = n := by
  unfold cellsL; rw [List.length_take, List.length_drop, Array.length_toList]; omega
theorem cellsL_get {cur : Array Value} {bo n j : Nat} : (cellsL cur bo n)[j]? = if j < n then cur[bo + j]? else none := by
  unfold cellsL; rw [List.getElem?_take]
  split
  · rw [List.getElem?_drop, Array.getElem?_toList]
  · rfl
theorem cellsL_some {cur : Array Value} {bo n j : Nat} {v : Value} (h : (cellsL cur bo n)[j]? = some v) : j < n ∧ cur[bo + j]? = some v := by
  rw [cellsL_get] at h
  split at h
  · rename_i hq; exact ⟨hq, h⟩
  · cases h
theorem RowsAt.one {sz n : Nat} {g : Ghost} {w : World} {cur : Array Value} {bo : Nat} {es : List (List AVal)} (I : RowsAt sz g w cur bo es) (hp : 0 < sz) (hes : ∀ e ∈ es, e.length = sz) (hn : n ≤ es.length * sz) : ∀ v ∈ cellsL cur bo n, v.oneCell' = true := by
  intro v hv
  obtain ⟨j, hj⟩ := List.getElem?_of_mem hv
  obtain ⟨h1, h2⟩ := cellsL_some hj
  have hk : j / sz < es.length := by rw [Nat.div_lt_iff_lt_mul hp]; omega
  have hm : j % sz < sz := Nat.mod_lt _ hp
  have he := hes _ (List.getElem_mem hk)
  obtain ⟨u, hu, h3, _⟩ := I (j / sz) (j % sz) _ ((es[j / sz])[j % sz]'(by rw [he]; exact hm)) (List.getElem?_eq_getElem hk) (List.getElem?_eq_getElem _)
  rw [Nat.mul_comm, Nat.div_add_mod, h2] at hu
  cases hu; exact h3
theorem rows_block {h : Heap} {g : Ghost} {w : World} (H : HRel h g w) {r sz : Nat} {ty : TypeId} {es : List (List AVal)} (hr : h r = some ⟨ty, sz, es⟩) (hc : g.cap r ≠ 0) :
    ∃ cur : Array Value, w.heap[g.eta r]? = some (.cells cur ty (0, 0)) ∧ g.bo r + g.cap r * sz = cur.size ∧ RowsAt sz g w cur (g.bo r) es := by
  have O := H.obj r _ hr
  rcases O.block with h0 | ⟨_, _, cur, hcur, hsz, hcell⟩
  · exact absurd h0 hc
  · exact ⟨cur, hcur.un rfl, hsz, fun k j e x hk hx => hcell k j e x hk hx⟩
/-- a new block of the call's own -/
theorem new_rows {h : Heap} {g : Ghost} {w w' : World} (H : HRel h g w) {cells : Array Value} {cap sz : Nat} {ty : TypeId} {es : List (List AVal)} (hpos : 0 < sz) (hp : w'.heap = (w.alloc (.cells cells ty)).heap) (h1 : w'.os = w.os) (h2 : w'.tape = w.tape) (h3 : w'.output = w.output)
    (hcs : cells.size = cap * sz) (hlen : ∀ e ∈ es, e.length = sz) (hle : es.length ≤ cap) (hm : cap ≤ maxLen) (I : RowsAt sz g w cells 0 es) :
    ∃ g', GS g w g' w' ∧ HRel (upd h g.nxt (some ⟨ty, sz, es⟩)) g' w' ∧ VRel g' w' (.slice (some ⟨w.heap.size, 0, none⟩) es.length cap) (.osl g.nxt sz 0 es.length) := by
  obtain ⟨S1, H1⟩ := root_new H cells (ty := ty) (sz := sz) (cap := cap) (es := es) hpos hcs hle hlen (fun i j e x he hx => by
    have := I i j e x he hx
    simpa using this)
  obtain ⟨S2, H2⟩ := H1.ext (w' := w') (fun b _ => by rw [hp]) h1 h2 h3 (by rw [hp]; exact Nat.le_refl _)
  refine ⟨_, S1.trans S2, H2, ?_⟩
  have := VRel.osl (g := g.add w.heap.size 0 cap sz) (w := w') g.nxt sz 0 es.length cap 0 (Nat.lt_succ_self _) (by simp [Ghost.add]) hle hm (by simp [Ghost.add]) (fun _ => by simp [Ghost.add])
  simpa [Ghost.add] using this
/-- a block of the call's own written over -/
theorem put_rows {h : Heap} {g : Ghost} {w w' : World} (H : HRel h g w) {r sz : Nat} {ty : TypeId} {es es' : List (List AVal)} (hpos : 0 < sz) (hr : h r = some ⟨ty, sz, es⟩) (hc : g.cap r ≠ 0) {cur' : Array Value} (hb : w'.heap[g.eta r]? = some (.cells cur' ty (0, 0)))
    (hs : ∀ b, b ≠ g.eta r → w'.heap[b]? = w.heap[b]?) (hz : w'.heap.size = w.heap.size) (h1 : w'.os = w.os) (h2 : w'.tape = w.tape) (h3 : w'.output = w.output) (hsz : g.bo r + g.cap r * sz = cur'.size) (hlen : ∀ e ∈ es', e.length = sz) (hle : es'.length ≤ g.cap r) (hm : g.cap r ≤ maxLen) (I : RowsAt sz g w cur' (g.bo r) es') :
    ∃ g', GS g w g' w' ∧ HRel (upd (del h r) g.nxt (some ⟨ty, sz, es'⟩)) g' w' ∧ VRel g' w' (.slice (some ⟨g.eta r, g.bo r, none⟩) es'.length (g.cap r)) (.osl g.nxt sz 0 es'.length) := by
  have O := H.obj r _ hr
  rcases O.block with h0 | ⟨hlt, hnf, cur, hcur, _, _⟩
  · exact absurd h0 hc
  · obtain ⟨S, H1⟩ := root_touch H hr hc (w' := w') hs hz h1 h2 h3 ⟨_, _, _, hb⟩
    have H2 := H1.add (blk := g.eta r) (bo := g.bo r) (cap := g.cap r) (sz := sz) (ty := ty) (es := es') hpos hlen hle (.inr ⟨by rw [hz]; exact hlt, hnf, fun t ob ht h0 he => by
      unfold Sim.del at ht
      split at ht
      · cases ht
      · rename_i hne; exact hne (H.inj t r ob _ ht hr h0 hc he), cur', .mk0 hb, hsz, fun k j e x hk hx => by
        obtain ⟨u, hu, h1, hV⟩ := I k j e x hk hx
        exact ⟨u, hu, h1, hV.step S.toGStep⟩⟩)
    refine ⟨_, S.addTo _ _ _ _ (.inr (.inl ⟨r, O.lt, hc, rfl⟩)), H2, ?_⟩
    have := VRel.osl (g := g.add (g.eta r) (g.bo r) (g.cap r) sz) (w := w') g.nxt sz 0 es'.length (g.cap r) (g.bo r) (Nat.lt_succ_self _) (by simp [Ghost.add]) hle hm (by simp [Ghost.add]) (fun _ => by simp [Ghost.add])
    simpa [Ghost.add] using this
theorem RowsAt.ins2 {g : Ghost} {w : World} {cur curv c2 : Array Value} {bo bv b2 i : Nat} {es : List (List AVal)} {x : List AVal} (I : RowsAt 2 g w cur bo es) (Iv : RowsAt 2 g w curv bv [x]) (hes : ∀ e ∈ es, e.length = 2) (hx : x.length = 2) (hi : i ≤ es.length)
    (hA : ∀ q, q < i * 2 → c2[b2 + q]? = cur[bo + q]?) (hB : ∀ q, q < 2 → c2[b2 + (i * 2 + q)]? = curv[bv + q]?) (hC : ∀ q, q < es.length * 2 - i * 2 → c2[b2 + ((i + 1) * 2 + q)]? = cur[bo + i * 2 + q]?) : RowsAt 2 g w c2 b2 (insL es i x) := by
  intro k j e y hk hy
  rw [insL_get _ _ _ hi] at hk
  by_cases h1 : k < i
  · rw [if_pos h1] at hk
    have hj := (List.getElem?_eq_some_iff.1 hy).1
    have he := hes e (List.mem_of_getElem? hk)
    obtain ⟨u, hu, h1, hV⟩ := I k j e y hk hy
    exact ⟨u, by rw [hA _ (by omega)]; exact hu, h1, hV⟩
  · rw [if_neg h1] at hk
    by_cases h2 : k = i
    · rw [if_pos h2] at hk
      cases hk
      have hj := (List.getElem?_eq_some_iff.1 hy).1
      obtain ⟨u, hu, h1, hV⟩ := Iv 0 j x y rfl hy
      rw [Nat.zero_mul, Nat.zero_add] at hu
      exact ⟨u, by rw [h2, hB _ (by omega)]; exact hu, h1, hV⟩
    · rw [if_neg h2] at hk
      have hj := (List.getElem?_eq_some_iff.1 hy).1
      have hkl := (List.getElem?_eq_some_iff.1 hk).1
      have he := hes e (List.mem_of_getElem? hk)
      obtain ⟨u, hu, h1, hV⟩ := I (k - 1) j e y hk hy
      refine ⟨u, ?_, h1, hV⟩
      rw [← hu, show k * 2 + j = (i + 1) * 2 + ((k - 1 - i) * 2 + j) by omega, hC _ (by omega)]
      congr 1; omega
end Go.Proofs.K
end
section
/- The index's lists written: slices.Insert of words. -/
set_option linter.unusedSimpArgs false
set_option linter.unusedVariables false
namespace Go.Proofs.K
open Go Go.Sim Go.Proofs Go.Shelf
variable {G : Glob}
def reninsertR : Ren := ⟨fun | 22 => 49 | 29 => 66 | 30 => 67 | 36 => 77 | 17 => 83 | n => n, fun | 0 => 0 | 3 => 3 | 4 => 4 | 9 => 45 | 24 => 27 | n => n, fun n => n⟩
theorem layinsertR : LayI2 Tryd.prog reninsertR Tryd.f49.name 40 (.agg #[.string ⟨#[]⟩, .slice none 0 0]) := {
  mixed := by kernel_rfl
  f22 := Tryd.func49.trans (congrArg some (by kernel_rfl))
  ov := fun args w => run_callFunc_extern Tryd.func66 (by kernel_rfl) (by kernel_rfl) (by kernel_rfl) (by kernel_rfl) args w
  t0 := Tryd.underlying0
  a0 := Tryd.isAgg0
  z0 := Tryd.sizeOf0
  v0 := Tryd.zeroValue0
  t3 := Tryd.underlying3
  a3 := Tryd.isAgg3
  z3 := Tryd.sizeOf3
  v3 := Tryd.zeroValue3
  t4 := Tryd.underlying4
  a4 := Tryd.isAgg4
  z4 := Tryd.sizeOf4
  v4 := Tryd.zeroValue4
  z9 := Tryd.sizeOf45
  t24 := Tryd.underlying27
  a24 := Tryd.isAgg27
  z24 := Tryd.sizeOf27
  v24 := Tryd.zeroValue27
  i9 := by kernel_rfl }
theorem insertR_rows {h : Heap} {a : AVal} {es : List (List AVal)} {x : List AVal} {i rv : Nat} (O : OwnS h 45 2 es a) (M : Mut a) (hes : ∀ e ∈ es, e.length = 2) (hx : x.length = 2) (hi : i ≤ es.length) (hl : es.length ≤ 100000) (hrv : h rv = some ⟨.t 45, 2, [x]⟩) (hne : rootOf a ≠ some rv) :
    DCalls (Pg G) 49 [a, aInt i, .osl rv 2 0 1] h fun r h' => ∃ r', r = .osl r' 2 0 (es.length + 1) ∧ h' r' = some ⟨.t 45, 2, insL es i x⟩ ∧ (rootOf a = some r' ∨ h r' = none) ∧ (∀ t o, h t = some o → rootOf a ≠ some t → h' t = some o) := by
  refine ⟨⟨_, Tryd.func49, by kernel_rfl, by kernel_rfl⟩, fun g w vs H GR V => ?_⟩
  obtain ⟨va, vi, vv, rfl, ha, hvi, hv⟩ := vrel_three V
  rw [hvi.int_inv]
  obtain ⟨hrl, hszv, hc⟩ := hv.osl_inv
  rcases hc with ⟨_, _, h0, _⟩ | ⟨capv, offv, rfl, hncv, hmv, hiv, hoffv⟩
  · omega
  have hcv : g.cap rv ≠ 0 := by omega
  obtain ⟨curv, hcurv, hszv, Iv⟩ := rows_block H hrv hcv
  have hov : offv = g.bo rv := by have := hoffv (by omega); omega
  subst hov
  obtain ⟨vs, hvs⟩ : ∃ vs, vs = cellsL curv (g.bo rv) 2 := ⟨_, rfl⟩
  have vl : vs.length = 2 := by rw [hvs]; exact cellsL_len (by omega)
  have cv : ∀ j v, vs[j]? = some v → w.cell? ⟨g.eta rv, g.bo rv + j, none⟩ = some v := fun j v hj => by
    rw [hvs] at hj
    rw [cell_of_row w _ _ curv _ _ hcurv]; exact (cellsL_some hj).2
  have one1 : ∀ v ∈ vs, v.oneCell' = true := fun v hv => by
    rw [hvs] at hv
    exact Iv.one (by decide) (fun e he => by simp at he; rw [he]; exact hx) (by simp) v hv
  have gvs : ∀ q, q < 2 → vs[q]? = curv[g.bo rv + q]? := fun q hq => by rw [hvs, cellsL_get, if_pos hq]
  have nx := H.none_nxt
  have insn := insL_len es i x hi
  have insl := insL_all hes hx i
  have one : 0 < 1 := by decide
  -- where nothing is there yet
  have empty : es = [] → ∀ (A : Option Addr), va = .slice A 0 0 → Calls Tryd.prog 49 #[va, .int .i64 i, .slice (some ⟨g.eta rv, g.bo rv, none⟩) 1 capv] w fun e w' => ∃ v r h' g', e = .returned v ∧ (∃ r', r = .osl r' 2 0 (es.length + 1) ∧ h' r' = some ⟨.t 45, 2, insL es i x⟩ ∧ (rootOf a = some r' ∨ h r' = none) ∧ (∀ t o, h t = some o → rootOf a ≠ some t → h' t = some o)) ∧ HRel h' g' w' ∧ VRel g' w' v r ∧ GS g w g' w' := by
    intro hl0 A hA
    subst hl0
    obtain rfl : i = 0 := by simpa using hi
    rw [hA]
    refine (insEndGrow2 layinsertR A 0 0 (g.eta rv) (g.bo rv) 1 capv [] vs w (by decide) (by decide) (by decide) (by decide) (by decide) rfl (by rw [vl]) (fun _ => rfl) (fun _ _ j v hj => by simp at hj) cv one1).mono fun e w' ⟨he, hw⟩ => ?_
    have ge := grownCap_ge w (0 + 1) 0 (reninsertR.t 9)
    have gm := grownCap_le_maxLen w (0 + 1) 0 (reninsertR.t 9) (by decide)
    generalize grownCap w (0 + 1) 0 (reninsertR.t 9) = gc at *
    obtain ⟨g', S, H', V'⟩ := new_rows (w' := w') (ty := 45) (sz := 2) (es := [x]) (cap := gc) H (by decide) (by rw [hw]; rfl) (by rw [hw]; rfl) (by rw [hw]; rfl) (by rw [hw]; rfl) (by rw [Array.size_append, size_zeroCells]; show vs.length + (gc - (0 + 1)) * 2 = gc * 2; omega) (fun e he => by simp at he; rw [he]; exact hx) (by simpa using ge) gm (fun k j e y hk hy => by
      have hk0 : k = 0 := by
        have := (List.getElem?_eq_some_iff.1 hk).1
        simpa using this
      subst hk0
      have hj := (List.getElem?_eq_some_iff.1 hy).1
      cases hk
      obtain ⟨u, hu, h1, hV⟩ := Iv 0 j x y rfl hy
      refine ⟨u, ?_, h1, hV⟩
      rw [← hu, Array.getElem?_append_left (by show _ < vs.length; omega), List.nil_append, List.getElem?_toArray, Nat.zero_add, gvs _ (by omega)])
    refine ⟨_, .osl g.nxt 2 0 1, _, g', he, ⟨g.nxt, rfl, upd_same _ _ _, .inr nx, fun t o ht _ => by rw [upd_ne _ _ (fun e => by rw [e, nx] at ht; cases ht)]; exact ht⟩, H', by simpa using V', S⟩
  rcases O.live M with ⟨hl0, rfl⟩ | ⟨r, rs, rfl, hr, hle, hte⟩
  · obtain ⟨A, hA, _⟩ := ha.emp_inv
    exact empty hl0 A hA
  · obtain ⟨_, _, hca⟩ := ha.osl_inv
    rcases hca with ⟨hA, _, h0, _⟩ | ⟨c, off, hA, hnc, hm, hic, hoff⟩
    · exact empty (List.eq_nil_of_length_eq_zero h0) none (by rw [hA])
    · have hcap : g.cap r = c := by omega
      have hle2 := (H.obj r _ hr).le
      by_cases hc0 : c = 0
      · have hn0 : es.length = 0 := by omega
        subst hc0
        exact empty (List.eq_nil_of_length_eq_zero hn0) (some ⟨g.eta r, off, none⟩) (by rw [hA, hn0])
      · have hof : off = g.bo r := by have := hoff (by omega); omega
        subst hof
        have hcr : g.cap r ≠ 0 := by omega
        obtain ⟨cur, hcur, hsz2, I0⟩ := rows_block H hr hcr
        have I : RowsAt 2 g w cur (g.bo r) es := by rw [← hte]; exact I0.take _
        rw [hA]
        obtain ⟨cs, hcs⟩ : ∃ cs, cs = cellsL cur (g.bo r) (es.length * 2) := ⟨_, rfl⟩
        have cl : cs.length = es.length * 2 := by rw [hcs]; exact cellsL_len (by omega)
        have cg : ∀ j v, cs[j]? = some v → w.cell? ⟨g.eta r, g.bo r + j, none⟩ = some v := fun j v hj => by
          rw [hcs] at hj
          rw [cell_of_row w _ _ cur _ _ hcur]; exact (cellsL_some hj).2
        have gcs : ∀ q, q < es.length * 2 → cs[q]? = cur[g.bo r + q]? := fun q hq => by rw [hcs, cellsL_get, if_pos hq]
        have one2 : ∀ v ∈ cs, v.oneCell' = true := fun v hv => by
          rw [hcs] at hv
          exact I.one (by decide) hes (Nat.le_refl _) v hv
        have hnb : g.eta rv ≠ g.eta r := fun e => hne (by rw [H.inj rv r _ _ hrv hr hcv hcr e]; rfl)
        have sp : ∀ j, g.bo r + j < cur.size → (w.cell? ⟨g.eta r, g.bo r + j, none⟩).isSome = true := fun j hj => by
          rw [cell_of_row w _ _ cur _ _ hcur, Array.getElem?_eq_getElem hj]; rfl
        have fzn : ∀ b k (cu : Array Value) t, w.heap[b]? = some (.cells cu t (0, 0)) → w.frozen? ⟨b, k, none⟩ = false := fun b k cu t hb => by simp [World.frozen?, hb]
        have kp : ∀ (ob : AObj) t o, h t = some o → rootOf (.osl r 2 0 es.length) ≠ some t → upd (del h r) g.nxt (some ob) t = some o := fun ob t o ht hn => by
          rw [upd_ne _ _ (fun e => by rw [e, nx] at ht; cases ht)]
          unfold del
          rw [if_neg (fun e => hn (by rw [e]; rfl))]; exact ht
        have kp2 : ∀ (ob : AObj) t o, h t = some o → rootOf (.osl r 2 0 es.length) ≠ some t → upd h g.nxt (some ob) t = some o := fun ob t o ht hn => by
          rw [upd_ne _ _ (fun e => by rw [e, nx] at ht; cases ht)]; exact ht
        have dl : (cs.drop (i * 2)).length = es.length * 2 - i * 2 := by rw [List.length_drop, cl]
        by_cases hroom : es.length + 1 ≤ c
        · by_cases hin : i < es.length
          · refine (insShift2 layinsertR (g.eta r) (g.bo r) es.length c i (g.eta rv) (g.bo rv) 1 capv cs vs w hin (by decide) hroom (by simp only [maxLen] at hm; omega) hnb cl (by rw [vl]) cg (fun j hj => sp j (by omega)) (fun j _ => fzn _ _ _ _ hcur) cv one2 one1 45 45 curv.size cur.size (by simp [World.shape?, hcurv]) (by simp [World.shape?, hcur]) (by omega) (fzn _ _ _ _ hcurv) (fzn _ _ _ _ hcurv)).mono fun e w' ⟨he, hw⟩ => ?_
            obtain ⟨c1, b1, s1, k1, o1, z1, p1, p2, p3⟩ := setCells_blk (g.eta r) (cs.drop (i * 2)) (g.bo r + (i + 1) * 2) w.drew cur _ _ hcur (by rw [dl]; omega)
            obtain ⟨c2, b2, s2, k2, o2, z2, q1, q2, q3⟩ := setCells_blk (g.eta r) vs (g.bo r + i * 2) (w.drew.setCells (g.eta r) (g.bo r + (i + 1) * 2) (cs.drop (i * 2))) c1 _ _ b1 (by rw [vl]; omega)
            have I2 : RowsAt 2 g w c2 (g.bo r) (insL es i x) := I.ins2 Iv hes hx hi
              (fun q hq => by rw [k2, if_neg (by omega), k1, if_neg (by omega)])
              (fun q hq => by rw [k2, if_pos (by omega), ← gvs q hq]; congr 1; omega)
              (fun q hq => by rw [k2, if_neg (by omega), k1, if_pos (by omega), List.getElem?_drop]; refine (gcs _ (by omega)).trans ?_; congr 1; omega)
            obtain ⟨g', S, H', V'⟩ := put_rows (w' := w') (cur' := c2) H (by decide) hr hcr (by rw [hw]; exact b2) (fun b hb => by rw [hw, o2 b hb, o1 b hb]; rfl) (by rw [hw, z2, z1]; rfl) (by rw [hw, q1, p1]; rfl) (by rw [hw, q2, p2]; rfl) (by rw [hw, q3, p3]; rfl) (by omega) insl (by omega) (by omega) I2
            rw [insn, hcap] at V'
            exact ⟨_, .osl g.nxt 2 0 (es.length + 1), _, g', he, ⟨g.nxt, rfl, upd_same _ _ _, .inr nx, kp _⟩, H', V', S⟩
          · obtain rfl : i = es.length := by omega
            refine (insEndRoom2 layinsertR (g.eta r) (g.bo r) es.length c (g.eta rv) (g.bo rv) 1 capv vs w (by decide) hroom (by simp only [maxLen] at hm; omega) (by rw [vl]) (fun j hj => by rw [Nat.add_assoc]; exact sp _ (by omega)) (fun j _ => fzn _ _ _ _ hcur) cv one1).mono fun e w' ⟨he, hw⟩ => ?_
            obtain ⟨c2, b2, s2, k2, o2, z2, q1, q2, q3⟩ := setCells_blk (g.eta r) vs (g.bo r + es.length * 2) w cur _ _ hcur (by rw [vl]; omega)
            have I2 : RowsAt 2 g w c2 (g.bo r) (insL es es.length x) := I.ins2 Iv hes hx hi
              (fun q hq => by rw [k2, if_neg (by omega)])
              (fun q hq => by rw [k2, if_pos (by omega), ← gvs q hq]; congr 1; omega)
              (fun q hq => by omega)
            obtain ⟨g', S, H', V'⟩ := put_rows (w' := w') (cur' := c2) H (by decide) hr hcr (by rw [hw]; exact b2) (fun b hb => by rw [hw, o2 b hb]) (by rw [hw, z2]) (by rw [hw, q1]) (by rw [hw, q2]) (by rw [hw, q3]) (by omega) insl (by omega) (by omega) I2
            rw [insn, hcap] at V'
            exact ⟨_, .osl g.nxt 2 0 (es.length + 1), _, g', he, ⟨g.nxt, rfl, upd_same _ _ _, .inr nx, kp _⟩, H', V', S⟩
        · have ge := grownCap_ge w (es.length + 1) c (reninsertR.t 9)
          have gm := grownCap_le_maxLen w (es.length + 1) c (reninsertR.t 9) (by simp only [maxLen]; omega)
          by_cases hin : i < es.length
          · refine (insGrow2 layinsertR (by rfl) (g.eta r) (g.bo r) es.length c i (g.eta rv) (g.bo rv) 1 capv cs vs w hin (by decide) hnc (by omega) (by omega) (by omega) cl (by rw [vl]) cg cv one2 one1).mono fun e w' ⟨he, hw⟩ => ?_
            generalize grownCap w (es.length + 1) c (reninsertR.t 9) = gc at *
            have z0 : ∀ k, (Builtin.zeroCells (Value.cells (.agg #[.string ⟨#[]⟩, .slice none 0 0])) k).size = k * 2 := fun k => by rw [size_zeroCells]; rfl
            rw [show reninsertR.t 9 = 45 from rfl] at hw
            generalize hC0 : ((cs.take (i * 2)).toArray ++ Builtin.zeroCells (Value.cells (.agg #[.string ⟨#[]⟩, .slice none 0 0])) (es.length + 1 - i) ++ Builtin.zeroCells (Value.cells (.agg #[.string ⟨#[]⟩, .slice none 0 0])) (gc - (es.length + 1))) = C0 at hw
            have sC : C0.size = gc * 2 := by
              rw [← hC0, Array.size_append, Array.size_append, z0, z0, List.size_toArray, List.length_take, cl]; omega
            have gC : ∀ q, q < i * 2 → C0[q]? = cur[g.bo r + q]? := fun q hq => by
              rw [← hC0, Array.append_assoc, Array.getElem?_append_left (by rw [List.size_toArray, List.length_take, cl]; omega), List.getElem?_toArray, List.getElem?_take, if_pos hq]
              exact gcs q (by omega)
            have hb0 : (w.alloc (.cells C0 45)).drew.heap[w.heap.size]? = some (.cells C0 45 (0, 0)) := heap_push_new w _
            obtain ⟨c1, b1, s1, k1, o1, z1, p1, p2, p3⟩ := setCells_blk w.heap.size vs (i * 2) (w.alloc (.cells C0 45)).drew C0 _ _ hb0 (by rw [vl]; omega)
            obtain ⟨c2, b2, s2, k2, o2, z2, q1, q2, q3⟩ := setCells_blk w.heap.size (cs.drop (i * 2)) ((i + 1) * 2) ((w.alloc (.cells C0 45)).drew.setCells w.heap.size (i * 2) vs).drew c1 _ _ b1 (by rw [dl]; omega)
            have I2 : RowsAt 2 g w c2 0 (insL es i x) := I.ins2 Iv hes hx hi
              (fun q hq => by rw [Nat.zero_add, k2, if_neg (by omega), k1, if_neg (by omega), gC q hq])
              (fun q hq => by rw [Nat.zero_add, k2, if_neg (by omega), k1, if_pos (by omega), ← gvs q hq]; congr 1; omega)
              (fun q hq => by rw [Nat.zero_add, k2, if_pos (by omega), List.getElem?_drop]; refine (gcs _ (by omega)).trans ?_; congr 1; omega)
            have hp : w'.heap = (w.alloc (.cells c2 45)).heap := by
              rw [hw]
              apply Array.ext_getElem?
              intro b
              by_cases hb : b = w.heap.size
              · subst hb; rw [b2]; exact (heap_push_new w _).symm
              · rw [o2 b hb]
                refine (o1 b hb).trans ?_
                show (w.heap.push _)[b]? = (w.heap.push _)[b]?
                rw [Array.getElem?_push, Array.getElem?_push, if_neg hb, if_neg hb]
            obtain ⟨g', S, H', V'⟩ := new_rows (w' := w') (cap := gc) H (by decide) hp (by rw [hw, q1]; exact p1) (by rw [hw, q2]; exact p2) (by rw [hw, q3]; exact p3) (by omega) insl (by omega) gm I2
            rw [insn] at V'
            exact ⟨_, .osl g.nxt 2 0 (es.length + 1), _, g', he, ⟨g.nxt, rfl, upd_same _ _ _, .inr nx, kp2 _⟩, H', V', S⟩
          · obtain rfl : i = es.length := by omega
            refine (insEndGrow2 layinsertR (some ⟨g.eta r, g.bo r, none⟩) es.length c (g.eta rv) (g.bo rv) 1 capv cs vs w (by decide) hnc (by omega) (by omega) (by omega) cl (by rw [vl]) (fun h => by cases h) (fun a ha j v hj => by cases ha; rw [Addr.add_lit]; exact cg j v hj) cv one1).mono fun e w' ⟨he, hw⟩ => ?_
            generalize grownCap w (es.length + 1) c (reninsertR.t 9) = gc at *
            have z0 : ∀ k, (Builtin.zeroCells (Value.cells (.agg #[.string ⟨#[]⟩, .slice none 0 0])) k).size = k * 2 := fun k => by rw [size_zeroCells]; rfl
            obtain ⟨g', S, H', V'⟩ := new_rows (w' := w') (ty := 45) (sz := 2) (es := insL es es.length x) (cap := gc) H (by decide) (by rw [hw]; rfl) (by rw [hw]; rfl) (by rw [hw]; rfl) (by rw [hw]; rfl) (by rw [Array.size_append, z0, List.size_toArray, List.length_append, cl, vl]; omega) insl (by omega) gm
              (I.ins2 Iv hes hx hi
                (fun q hq => by rw [Nat.zero_add, Array.getElem?_append_left (by rw [List.size_toArray, List.length_append, cl, vl]; omega), List.getElem?_toArray, List.getElem?_append_left (by omega)]; exact gcs q hq)
                (fun q hq => by rw [Nat.zero_add, Array.getElem?_append_left (by rw [List.size_toArray, List.length_append, cl, vl]; omega), List.getElem?_toArray, List.getElem?_append_right (by omega), cl, ← gvs q hq]; congr 1; omega)
                (fun q hq => by omega))
            rw [insn] at V'
            exact ⟨_, .osl g.nxt 2 0 (es.length + 1), _, g', he, ⟨g.nxt, rfl, upd_same _ _ _, .inr nx, kp2 _⟩, H', V', S⟩
end Go.Proofs.K
end
section
/- The keeper's ranks. -/
set_option linter.unusedSimpArgs false
set_option linter.unusedVariables false
namespace Go.Proofs.K
open Go Go.Sim Go.Proofs Go.Shelf
variable {G : Glob}
def c34 : SFun := ⟨(.seq (.reg [⟨(some 2), (.mv (.c (.prim (Value.map none)))), none⟩]) (.seq (.reg [⟨(some 6), (.mkm 69), none⟩, ⟨(some 3), (.mv (.t 6)), none⟩]) (.seq (.seq (.reg [⟨(some 7), (.mv (.t 0)), none⟩, ⟨(some 8), (.len (.t 7)), none⟩, ⟨(some 9), (.mv (.c (.int .i64 (0)))), none⟩]) (.block 0 (.loop (.seq (.reg [⟨(some 10), (.bin .lss (.t 9) (.t 8)), none⟩]) (.seq (.cond (.t 10) .skip (.exit 0)) (.seq (.block 1 (.seq (.reg [⟨(some 11), (.mv (.t 9)), none⟩, ⟨(some 12), (.idxA 1 (.t 7) (.t 9)), none⟩, ⟨(some 13), (.ld 1 false (.t 12)), none⟩, ⟨(some 4), (.mv (.t 11)), none⟩, ⟨(some 5), (.mv (.t 13)), none⟩]) (.reg [⟨(some 14), (.mv (.t 3)), none⟩, ⟨(some 15), (.mv (.t 5)), none⟩, ⟨(some 16), (.mv (.t 4)), none⟩, ⟨none, (.mup (some .i64) (.t 14) (.t 15) (.t 16)), none⟩]))) (.reg [⟨(some 17), (.bin .add (.t 9) (.c (.int .i64 (1)))), none⟩, ⟨(some 9), (.mv (.t 17)), none⟩]))))))) (.seq (.reg [⟨(some 18), (.mv (.t 3)), none⟩, ⟨(some 2), (.mv (.t 18)), none⟩]) .ret)))), [(.tmp 2)]⟩
theorem hc34 : toSF Tryd.prog {mp := [3, 6, 14]} Tryd.f34 = some c34 := by kernel_rfl
theorem hn34 : (Tryd.f34.name == "runtime.NumGoroutine") = false := by kernel_rfl
/-- where a number stands in the order, as a map's entries -/
theorem ranked_ok {h : Heap} (l : List Int) (hl : l.length ≤ 100000) : DCalls (Pg G) 34 [sl eInt l] h fun r h' => ∃ rM es, r = .mpr rM ∧ h rM = none ∧ h' = upd h rM (some ⟨.m 69 (eM es), 1, []⟩) ∧ (l.Nodup → ∀ i, i < l.length → findI es (nth l i) = some (i : Int)) ∧ (∀ x, x ∉ l → findI es x = none) := by
  refine dcalls_of_vc Tryd.func34 hn34 hc34 (by rw [Tryd.ntmps34]; simp) (by rw [Tryd.ntmps34]; decide) ?_
  simp -dsimp -implicitDefEqProofs (disch := omega) only [VCA, ↓reduceIte, reduceCtorEq, c34]
  intro rM hrM
  refine LoopVC.intro (fun m e h' => ∃ (k : Nat) (es : List (Int × Int)), k ≤ l.length ∧ m = l.length - k ∧ e 3 = .mpr rM ∧ e 7 = sl eInt l ∧ e 8 = aInt l.length ∧ e 9 = aInt k ∧ h' = upd h rM (some ⟨.m 69 (eM es), 1, []⟩) ∧ (l.Nodup → ∀ i, i < k → findI es (nth l i) = some (i : Int)) ∧ (∀ x, x ∉ l → findI es x = none)) l.length
    (by exact ⟨0, [], by omega, by omega, rfl, rfl, rfl, rfl, rfl, fun _ i hi => absurd hi (Nat.not_lt_zero i), fun x _ => rfl⟩) ?_
  rintro m e h' ⟨k, es, hk, rfl, e3, e7, e8, e9, rfl, hf, hno⟩
  have gM : upd h rM (some ⟨.m 69 (eM es), 1, []⟩) rM = some ⟨.m 69 (eM es), 1, []⟩ := upd_same _ _ _
  simp -dsimp -implicitDefEqProofs (disch := omega) only [VCA, ↓reduceIte, e8, e9]
  refine Br.dec (fun hlt => ?_) (fun hge => ?_)
  · have hk' : k < l.length := by omega
    simp -dsimp -implicitDefEqProofs (disch := omega) only [VCA, Nat.reduceEqDiff, ↓reduceIte, exists_eq_left', eInt, e3, e7, e8, e9]
    refine ⟨⟨by omega, by omega⟩, _, by omega, k + 1, putI (nth l k) k es, by omega, rfl, by omega, by rfl, fun hd i hi => ?_, fun x hx => ?_⟩
    · rw [findI_put]
      by_cases h1 : i = k
      · rw [h1, if_pos rfl]
      · have hne : nth l i ≠ nth l k := fun e => by
          have h2 := List.nodup_iff_pairwise_ne.1 hd
          have h3 := List.pairwise_iff_getElem.1 h2 i k (by omega) hk' (by omega)
          have q1 := nth_some (show i < l.length by omega)
          have q2 := nth_some hk'
          rw [List.getElem?_eq_getElem (by omega)] at q1 q2
          exact h3 (by rw [Option.some.inj q1, Option.some.inj q2]; exact e)
        rw [if_neg hne]; exact hf hd i (by omega)
    · rw [findI_put, if_neg (fun e => hx (by rw [e]; exact nth_mem' hk'))]; exact hno x hx
  · obtain rfl : k = l.length := by omega
    simp -dsimp -implicitDefEqProofs (disch := omega) only [VCA, Nat.reduceEqDiff, ↓reduceIte, e3]
    exact ⟨_, Sub.refl _, rM, es, rfl, hrM, rfl, hf, hno⟩
/-- the keeper: four lists, and the ranks -/
def kpO (l : List AVal) (rM : Nat) : AObj := ⟨72, 5, [l ++ [.mpr rM]]⟩
def rkI (es : List (Int × Int)) (n : Int) : Int := (findI es n).getD 0
def c51 : SFun := ⟨(.seq (.reg [⟨(some 5), (.mv (.c (.int .i64 (0)))), none⟩]) (.seq (.dreg [(⟨(some 6), (.ld 1 false (.t 2)), none⟩, none), (⟨(some 7), (.fldA 0 (.t 6)), none⟩, none), (⟨(some 8), (.fldA 4 (.t 7)), none⟩, none), (⟨(some 9), (.ld 1 false (.t 8)), none⟩, none), (⟨(some 10), (.mv (.t 0)), none⟩, none), (⟨(some 11), (.lkp (some .i64) false (.int .i64 (0)) (.t 9) (.t 10)), none⟩, none), (⟨(some 12), (.ld 1 false (.t 2)), none⟩, none), (⟨(some 13), (.fldA 0 (.t 12)), none⟩, none), (⟨(some 14), (.fldA 4 (.t 13)), none⟩, none), (⟨(some 15), (.ld 1 false (.t 14)), none⟩, none), (⟨(some 16), (.mv (.t 1)), none⟩, none), (⟨(some 17), (.lkp (some .i64) false (.int .i64 (0)) (.t 15) (.t 16)), none⟩, none), (⟨(some 18), (.pcall 52 [(.t 11), (.t 17)]), none⟩, none), (⟨(some 5), (.mv (.t 18)), none⟩, none)]) .ret)), [(.tmp 5)]⟩
theorem hc51 : toSF Tryd.prog {pure := [52]} Tryd.f51 = some c51 := by kernel_rfl
theorem hn51 : (Tryd.f51.name == "runtime.NumGoroutine") = false := by kernel_rfl
theorem put1_ok {h : Heap} {rk rM : Nat} {a0 a1 a2 a3 : AVal} {es : List (Int × Int)} (hk : h rk = some (kpO [a0, a1, a2, a3] rM)) (hM : h rM = some ⟨.m 69 (eM es), 1, []⟩) (a b : Int) :
    DCalls (Pg G) 51 [aInt a, aInt b, .pin [.vp rk 0]] h fun r h' => r = aInt (cmpI (rkI es a) (rkI es b)) ∧ h' = h := by
  have cC := cmpI_ok (G := G) (rkI es a) (rkI es b)
  unfold rkI at cC
  have hk' : h rk = some ⟨.t 72, 5, [[a0, a1, a2, a3, .mpr rM]]⟩ := hk
  refine dcalls_of_vc Tryd.func51 hn51 hc51 (by rw [Tryd.ntmps51]; simp) (by rw [Tryd.ntmps51]; decide) ?_
  simp -dsimp -implicitDefEqProofs (disch := omega) only [VCA, Nat.reduceEqDiff, Nat.reduceAdd, Nat.reduceLT, ↓reduceIte, reduceCtorEq, rsOf, rootsOf, exists_eq_left', rootL, c51, hk', hM]
  repeat' (first | ((with_reducible refine Br.dec (fun _ => ?_) (fun _ => ?_)) <;> try (exfalso; omega)) | ((with_reducible refine Br.eq (fun _ => ?_) (fun _ => ?_)) <;> try (exfalso; omega)) | ((with_reducible refine Br.ne (fun _ => ?_) (fun _ => ?_)) <;> try (exfalso; omega)) | ((with_reducible refine brNdec (fun _ => ?_) (fun _ => ?_)) <;> try (exfalso; omega)) | ((with_reducible refine brNeq (fun _ => ?_) (fun _ => ?_)) <;> try (exfalso; omega)) | with_reducible refine Br.intro (fun _ => ?_) (fun _ => ?_) | (with_reducible apply pcallE.of; · exact cC) | (with_reducible refine And.intro ?_ ?_; · omega) | simp -dsimp -implicitDefEqProofs (disch := omega) only [VCA, ↓reduceIte, rsOf, rootsOf, exists_eq_right_right, rootL])
  exact ⟨Sub.refl _, rfl⟩
/-! ## lists of refs of one's own -/
def rowR (l : List HRef) (nv : Nat → AVal) (j : Nat) : List AVal := [.str (nth l j).word, nv j]
def rowsR (l : List HRef) (nv : Nat → AVal) : List (List AVal) := (List.range l.length).map (rowR l nv)
theorem rowsR_len (l : List HRef) (nv : Nat → AVal) : (rowsR l nv).length = l.length := by unfold rowsR; rw [List.length_map, List.length_range]
theorem rowsR_get {l : List HRef} {nv : Nat → AVal} {j : Nat} (h : j < l.length) : (rowsR l nv)[j]? = some (rowR l nv j) := by
  unfold rowsR; rw [List.getElem?_map, List.getElem?_range h]; rfl
theorem rowsR_all (l : List HRef) (nv : Nat → AVal) : ∀ e ∈ rowsR l nv, e.length = 2 := fun e he => by
  obtain ⟨j, _, rfl⟩ := List.mem_map.1 he; rfl
def insN (nv : Nat → AVal) (i : Nat) (v : AVal) (j : Nat) : AVal := if j < i then nv j else if j = i then v else nv (j - 1)
theorem nth_insL {α : Type} [Inhabited α] (l : List α) (i : Nat) (x : α) (hi : i ≤ l.length) (k : Nat) : nth (insL l i x) k = if k < i then nth l k else if k = i then x else nth l (k - 1) := by
  unfold nth
  rw [List.getD_eq_getElem?_getD, insL_get _ _ _ hi]
  (repeat' split) <;> first | rfl | rw [List.getD_eq_getElem?_getD]
theorem rowsR_ins (l : List HRef) (nv : Nat → AVal) (i : Nat) (hi : i ≤ l.length) (x : HRef) (v : AVal) : insL (rowsR l nv) i [.str x.word, v] = rowsR (insL l i x) (insN nv i v) := by
  apply List.ext_getElem?
  intro k
  rw [insL_get _ _ _ (by rw [rowsR_len]; exact hi)]
  have hl := insL_len l i x hi
  by_cases hk : k < l.length + 1
  · rw [rowsR_get (l := insL l i x) (show k < (insL l i x).length by omega)]
    unfold rowR insN
    rw [nth_insL l i x hi]
    by_cases h1 : k < i
    · rw [if_pos h1, if_pos h1, if_pos h1, rowsR_get (show k < l.length by omega)]; rfl
    · rw [if_neg h1, if_neg h1, if_neg h1]
      by_cases h2 : k = i
      · rw [if_pos h2, if_pos h2, if_pos h2]
      · rw [if_neg h2, if_neg h2, if_neg h2, rowsR_get (show k - 1 < l.length by omega)]; rfl
  · rw [if_neg (by omega), if_neg (by omega), List.getElem?_eq_none (by rw [rowsR_len]; omega), List.getElem?_eq_none (by rw [rowsR_len]; omega)]
/-- the value a is the list l, in roots of one's own that lie in F, all apart -/
structure RefAt (h : Heap) (a : AVal) (l : List HRef) (nv : Nat → AVal) (F : Nat → Prop) : Prop where
  own : OwnS h 45 2 (rowsR l nv) a
  mt : Mut a
  inF : ∀ r, rootOf a = some r → F r
  num : ∀ j, j < l.length → OwnS h 3 1 ((nth l j).nodes.map eInt) (nv j) ∧ Mut (nv j) ∧ ∀ r, rootOf (nv j) = some r → F r ∧ rootOf a ≠ some r
  two : ∀ i j, i < l.length → j < l.length → i ≠ j → ∀ r, rootOf (nv i) = some r → rootOf (nv j) ≠ some r
theorem RefAt.nil (h : Heap) (nv : Nat → AVal) (F : Nat → Prop) : RefAt h .emp [] nv F :=
  ⟨.inl ⟨rfl, rfl⟩, (fun es e => by cases e), (fun r e => by cases e), (fun j hj => absurd hj (Nat.not_lt_zero j)), (fun i j hi => absurd hi (Nat.not_lt_zero i))⟩
theorem RefAt.keep {h h' : Heap} {a : AVal} {l : List HRef} {nv : Nat → AVal} {F : Nat → Prop} (R : RefAt h a l nv F) (hk : ∀ r o, F r → h r = some o → h' r = some o) : RefAt h' a l nv F :=
  ⟨R.own.keep fun r o hr ho => hk r o (R.inF r hr) ho, R.mt, R.inF,
    fun j hj => ⟨(R.num j hj).1.keep fun r o hr ho => hk r o ((R.num j hj).2.2 r hr).1 ho, (R.num j hj).2.1, (R.num j hj).2.2⟩, R.two⟩
theorem RefAt.lst {h : Heap} {a : AVal} {l : List HRef} {nv : Nat → AVal} {F : Nat → Prop} (R : RefAt h a l nv F) : LstAt h 2 a l.length fun j => [.str (nth l j).word, nv j] := by
  rcases R.own.live R.mt with ⟨h1, h2⟩ | ⟨r, es, h1, h2, h3, h4⟩
  · exact .inl ⟨by rw [← rowsR_len l nv, h1]; rfl, h2⟩
  · rw [rowsR_len] at h1 h3 h4
    refine .inr ⟨r, _, h1, h2, h3, fun j hj => ?_⟩
    have h5 : (es.take l.length)[j]? = some (rowR l nv j) := by rw [h4]; exact rowsR_get hj
    rw [List.getElem?_take, if_pos hj] at h5
    rw [List.getD_eq_getElem?_getD, h5]; rfl
end Go.Proofs.K
end
section
/- The index's lists written: put. -/
set_option linter.unusedSimpArgs false
set_option linter.unusedVariables false
namespace Go.Proofs.K
open Go Go.Sim Go.Proofs Go.Shelf
variable {G : Glob}
theorem OwnS.there {h : Heap} {ty sz : Nat} {cells : List (List AVal)} {a : AVal} (O : OwnS h ty sz cells a) {r : Nat} (hr : rootOf a = some r) : ∃ o, h r = some o := by
  rcases O with ⟨_, rfl⟩ | ⟨rfl, _⟩ | ⟨r', es, rfl, h1, _⟩
  · cases hr
  · cases hr
  · cases hr; exact ⟨_, h1⟩
/-- a word put in, with no numbers yet -/
theorem RefAt.ins {h h' : Heap} {a : AVal} {l : List HRef} {nv : Nat → AVal} {F : Nat → Prop} (R : RefAt h a l nv F) {i r' : Nat} {w : List UInt8} (hi : i ≤ l.length) (h1 : h' r' = some ⟨.t 45, 2, insL (rowsR l nv) i [.str w, .emp]⟩)
    (h2 : rootOf a = some r' ∨ h r' = none) (h3 : ∀ t o, h t = some o → rootOf a ≠ some t → h' t = some o) : RefAt h' (.osl r' 2 0 (l.length + 1)) (insL l i ⟨w, []⟩) (insN nv i .emp) fun r => F r ∨ r = r' := by
  have hl := insL_len l i ⟨w, []⟩ hi
  have he := rowsR_ins l nv i hi ⟨w, []⟩ .emp
  have hn : ∀ j, j < l.length → ∀ r, rootOf (nv j) = some r → r ≠ r' := fun j hj r hr e => by
    rcases h2 with h2 | h2
    · exact ((R.num j hj).2.2 r hr).2 (by rw [e]; exact h2)
    · obtain ⟨o, ho⟩ := (R.num j hj).1.there hr
      rw [e, h2] at ho; cases ho
  have hk : ∀ j, j < l.length → OwnS h' 3 1 ((nth l j).nodes.map eInt) (nv j) ∧ Mut (nv j) ∧ ∀ r, rootOf (nv j) = some r → (F r ∨ r = r') ∧ rootOf (.osl r' 2 0 (l.length + 1)) ≠ some r := fun j hj =>
    ⟨(R.num j hj).1.keep fun r o hr ho => h3 r o ho (((R.num j hj).2.2 r hr).2), (R.num j hj).2.1, fun r hr => ⟨.inl ((R.num j hj).2.2 r hr).1, fun e => hn j hj r hr (by cases e; rfl)⟩⟩
  refine ⟨.inr (.inr ⟨r', _, by rw [rowsR_len, hl], by rw [h1, he], Nat.le_refl _, by rw [List.take_length]⟩), (fun es e => by cases e), (fun r hr => by cases hr; exact .inr rfl), fun j hj => ?_, fun j1 j2 hj1 hj2 hne r hr => ?_⟩
  · rw [nth_insL l i _ hi]
    unfold insN
    by_cases q1 : j < i
    · rw [if_pos q1, if_pos q1]; exact hk j (by omega)
    · rw [if_neg q1, if_neg q1]
      by_cases q2 : j = i
      · rw [if_pos q2, if_pos q2]
        exact ⟨.inl ⟨rfl, rfl⟩, (fun es e => by cases e), (fun r e => by cases e)⟩
      · rw [if_neg q2, if_neg q2]; exact hk (j - 1) (by omega)
  · unfold insN at hr ⊢
    by_cases q1 : j1 < i
    · rw [if_pos q1] at hr
      by_cases p1 : j2 < i
      · rw [if_pos p1]; exact R.two j1 j2 (by omega) (by omega) hne r hr
      · rw [if_neg p1]
        by_cases p2 : j2 = i
        · rw [if_pos p2]; intro e; cases e
        · rw [if_neg p2]; exact R.two j1 (j2 - 1) (by omega) (by omega) (by omega) r hr
    · rw [if_neg q1] at hr
      by_cases q2 : j1 = i
      · rw [if_pos q2] at hr; cases hr
      · rw [if_neg q2] at hr
        by_cases p1 : j2 < i
        · rw [if_pos p1]; exact R.two (j1 - 1) j2 (by omega) (by omega) (by omega) r hr
        · rw [if_neg p1]
          by_cases p2 : j2 = i
          · rw [if_pos p2]; intro e; cases e
          · rw [if_neg p2]; exact R.two (j1 - 1) (j2 - 1) (by omega) (by omega) (by omega) r hr
theorem rowsR_set (l : List HRef) (nv : Nat → AVal) (i : Nat) (hi : i < l.length) (ns : List Int) (v : AVal) : (rowsR l nv).set i [.str (nth l i).word, v] = rowsR (l.set i ⟨(nth l i).word, ns⟩) (fun j => if j = i then v else nv j) := by
  apply List.ext_getElem?
  intro k
  by_cases hk : k < l.length
  · rw [rowsR_get (l := l.set i _) (show k < (l.set i _).length by rw [List.length_set]; exact hk), List.getElem?_set]
    unfold rowR
    rw [nth_set _ _ _ _ hi]
    by_cases h1 : i = k
    · subst h1
      rw [if_pos rfl, if_pos (by rw [rowsR_len]; exact hi), if_pos rfl]
      simp only [if_true]
    · have h1' : ¬ k = i := fun e => h1 e.symm
      rw [if_neg h1, if_neg h1', rowsR_get hk]
      simp only [if_neg h1']
      rfl
  · rw [List.getElem?_eq_none (by rw [List.length_set, rowsR_len]; omega), List.getElem?_eq_none (by rw [rowsR_len, List.length_set]; omega)]
/-- a row's numbers are others -/
theorem RefAt.setN {h h2 : Heap} {a : AVal} {l : List HRef} {nv : Nat → AVal} {F : Nat → Prop} (R : RefAt h a l nv F) {i rA r' : Nat} {es : List (List AVal)} {ns : List Int} (hi : i < l.length) (ha : a = .osl rA 2 0 l.length) (hA : h rA = some ⟨.t 45, 2, es⟩)
    (hle : l.length ≤ es.length) (ht : es.take l.length = rowsR l nv) (g1 : h2 rA = some ⟨.t 45, 2, es.set i [.str (nth l i).word, .osl r' 1 0 ns.length]⟩) (g2 : h2 r' = some ⟨.t 3, 1, ns.map eInt⟩)
    (g3 : rootOf (nv i) = some r' ∨ h r' = none) (g4 : ∀ t o, h t = some o → rootOf (nv i) ≠ some t → t ≠ rA → h2 t = some o) :
    RefAt h2 a (l.set i ⟨(nth l i).word, ns⟩) (fun j => if j = i then .osl r' 1 0 ns.length else nv j) fun r => F r ∨ r = r' := by
  have hrA : r' ≠ rA := fun e => by
    rcases g3 with g3 | g3
    · exact ((R.num i hi).2.2 r' g3).2 (by rw [ha, e]; rfl)
    · rw [e, hA] at g3; cases g3
  have hn : ∀ j, j < l.length → j ≠ i → ∀ r, rootOf (nv j) = some r → r ≠ r' := fun j hj hne r hr e => by
    rcases g3 with g3 | g3
    · exact R.two j i hj hi hne r hr (by rw [e]; exact g3)
    · obtain ⟨o, ho⟩ := (R.num j hj).1.there hr
      rw [e, g3] at ho; cases ho
  have hset := rowsR_set l nv i hi ns (.osl r' 1 0 ns.length)
  refine ⟨.inr (.inr ⟨rA, _, by rw [rowsR_len, List.length_set, ha], g1, by rw [rowsR_len, List.length_set, List.length_set]; exact hle, ?_⟩), R.mt, (fun r hr => .inl (R.inF r hr)), fun j hj => ?_, fun j1 j2 hj1 hj2 hne r hr => ?_⟩
  · rw [rowsR_len, List.length_set, ← hset, ← ht, List.take_set]
  · rw [List.length_set] at hj
    rw [nth_set _ _ _ _ hi]
    by_cases q : j = i
    · rw [if_pos q]
      simp only [q, if_true]
      refine ⟨.inr (.inr ⟨r', _, by rw [List.length_map], g2, Nat.le_refl _, by rw [List.take_length]⟩), (fun es e => by cases e), fun r hr => ?_⟩
      cases hr
      exact ⟨.inr rfl, fun e => hrA (by rw [ha] at e; cases e; rfl)⟩
    · rw [if_neg q]
      simp only [if_neg q]
      refine ⟨(R.num j hj).1.keep fun r o hr ho => g4 r o ho (fun e => R.two i j hi hj (fun e => q e.symm) r e hr) (fun e => ((R.num j hj).2.2 r hr).2 (by rw [ha, e]; rfl)), (R.num j hj).2.1, fun r hr => ⟨.inl ((R.num j hj).2.2 r hr).1, ((R.num j hj).2.2 r hr).2⟩⟩
  · rw [List.length_set] at hj1 hj2
    have hr : rootOf (if j1 = i then .osl r' 1 0 ns.length else nv j1) = some r := hr
    show rootOf (if j2 = i then .osl r' 1 0 ns.length else nv j2) ≠ some r
    by_cases q1 : j1 = i
    · rw [if_pos q1] at hr
      cases hr
      rw [if_neg (fun e => hne (q1.trans e.symm))]
      exact fun e => hn j2 hj2 (fun e => hne (q1.trans e.symm)) _ e rfl
    · rw [if_neg q1] at hr
      by_cases q2 : j2 = i
      · rw [if_pos q2]
        exact fun e => hn j1 hj1 q1 r hr (by cases e; rfl)
      · rw [if_neg q2]; exact R.two j1 j2 hj1 hj2 hne r hr
end Go.Proofs.K
end
section
/- The index's put. -/
set_option linter.unusedSimpArgs false
set_option linter.unusedVariables false
namespace Go.Proofs.K
open Go Go.Sim Go.Proofs Go.Shelf
variable {G : Glob}
def c36_s3 : SCode := (.seq (.reg [⟨(some 33), (.mv (.t 1)), none⟩, ⟨(some 34), (.fldA 0 (.t 33)), none⟩, ⟨(some 35), (.ld 1 false (.t 34)), none⟩, ⟨(some 36), (.mv (.t 8)), none⟩, ⟨(some 37), (.idxA 2 (.t 35) (.t 36)), none⟩, ⟨(some 10), (.mv (.t 37)), none⟩]) (.seq (.reg [⟨(some 39), (.mv (.t 10)), none⟩, ⟨(some 40), (.fldA 0 (.t 39)), none⟩, ⟨(some 41), (.fldA 1 (.t 40)), none⟩, ⟨(some 42), (.ld 1 false (.t 41)), none⟩, ⟨(some 43), (.mv (.t 3)), none⟩, ⟨(some 44), (.mkf 51 [] [(.t 4)]), none⟩, ⟨(some 45), (.call (.c (.fn 50 [] [])) [(.t 42), (.t 43), (.t 44)]), none⟩, ⟨(some 38), (.mv (.t 45)), none⟩, ⟨(some 46), (.ext (.t 38) 0), none⟩, ⟨(some 47), (.ext (.t 38) 1), none⟩, ⟨(some 11), (.mv (.t 46)), none⟩, ⟨(some 12), (.mv (.t 47)), none⟩]) (.reg [⟨(some 48), (.mv (.t 10)), none⟩, ⟨(some 49), (.mv (.t 10)), none⟩, ⟨(some 50), (.fldA 0 (.t 49)), none⟩, ⟨(some 51), (.fldA 1 (.t 50)), none⟩, ⟨(some 52), (.ld 1 false (.t 51)), none⟩, ⟨(some 53), (.mv (.t 11)), none⟩, ⟨(some 54), (.mv (.t 3)), none⟩, ⟨(some 55), (.bldR 3 1 [(.t 54)]), none⟩, ⟨(some 56), (.call (.c (.fn 53 [] [])) [(.t 52), (.t 53), (.t 55)]), none⟩, ⟨(some 57), (.fldA 0 (.t 48)), none⟩, ⟨(some 58), (.fldA 1 (.t 57)), none⟩, ⟨none, (.st 1 (.t 58) (.t 56)), none⟩])))
def c36 : SFun := ⟨(.seq (.reg [⟨(some 4), (.boxF 68 1 (.t 0)), none⟩]) (.seq (.reg [⟨(some 14), (.mv (.t 1)), none⟩, ⟨(some 15), (.fldA 0 (.t 14)), none⟩, ⟨(some 16), (.ld 1 false (.t 15)), none⟩, ⟨(some 17), (.mv (.t 2)), none⟩, ⟨(some 18), (.call (.c (.fn 48 [] [])) [(.t 16), (.t 17)]), none⟩, ⟨(some 13), (.mv (.t 18)), none⟩, ⟨(some 19), (.ext (.t 13) 0), none⟩, ⟨(some 20), (.ext (.t 13) 1), none⟩, ⟨(some 8), (.mv (.t 19)), none⟩, ⟨(some 9), (.mv (.t 20)), none⟩]) (.seq (.seq (.reg [⟨(some 21), (.mv (.t 9)), none⟩, ⟨(some 22), (.un .not (.t 21)), none⟩]) (.cond (.t 22) (.reg [⟨(some 23), (.mv (.t 1)), none⟩, ⟨(some 24), (.mv (.t 1)), none⟩, ⟨(some 25), (.fldA 0 (.t 24)), none⟩, ⟨(some 26), (.ld 1 false (.t 25)), none⟩, ⟨(some 27), (.mv (.t 8)), none⟩, ⟨(some 28), (.mv (.t 2)), none⟩, ⟨(some 29), (.bld [(.str []), .emp] [(0, (1, (.t 28)))]), none⟩, ⟨(some 30), (.bldR 45 2 [(.t 29)]), none⟩, ⟨(some 31), (.call (.c (.fn 49 [] [])) [(.t 26), (.t 27), (.t 30)]), none⟩, ⟨(some 32), (.fldA 0 (.t 23)), none⟩, ⟨none, (.st 1 (.t 32) (.t 31)), none⟩]) .skip)) c36_s3))), []⟩
theorem hc36 : toSF Tryd.prog {how := [(30, 2), (55, 2)]} Tryd.f36 = some c36 := by kernel_rfl
theorem hn36 : (Tryd.f36.name == "runtime.NumGoroutine") = false := by kernel_rfl
theorem OwnS.ints {h : Heap} {l : List Int} {a : AVal} (O : OwnS h 3 1 (l.map eInt) a) (M : Mut a) : (l.length = 0 ∧ a = .emp) ∨ ∃ r ob, a = .osl r 1 0 l.length ∧ h r = some ob ∧ l.length ≤ ob.es.length ∧ ∀ j, j < l.length → ob.es.getD j [] = eInt (nth l j) := by
  rcases O.live M with ⟨h1, h2⟩ | ⟨r, es, h1, h2, h3, h4⟩
  · exact .inl ⟨by rw [← List.length_map (f := eInt), h1]; rfl, h2⟩
  · rw [List.length_map] at h1 h3 h4
    refine .inr ⟨r, _, h1, h2, h3, fun j hj => ?_⟩
    have h5 : (es.take l.length)[j]? = some (eInt (nth l j)) := by rw [h4, List.getElem?_map, nth_some hj]; rfl
    rw [List.getElem?_take, if_pos hj] at h5
    rw [List.getD_eq_getElem?_getD, h5]; rfl
/-- behind the search for the word -/
theorem put_rest {h : Heap} {rk rM c : Nat} {As : List AVal} {a : AVal} {es : List (Int × Int)} {l : List HRef} {nv : Nat → AVal} {F : Nat → Prop} {n : Int} {k q : Nat} {K : AVal → Heap → Prop} (hk : h rk = some (kpO As rM)) (hAl : As.length = 4) (hc : c < 4) (ha : As[c]? = some a)
    (hM : h rM = some ⟨.m 69 (eM es), 1, []⟩) (R : RefAt h a l nv F) (hFk : ¬ F rk) (hFM : ¬ F rM) (hl : l.length ≤ 100000) (hkl : k < l.length) (hnl : (nth l k).nodes.length ≤ 99999)
    (hq : q ≤ (nth l k).nodes.length) (hlt : ∀ j, j < q → rkI es (nth (nth l k).nodes j) < rkI es n) (hge : ∀ j, q ≤ j → j < (nth l k).nodes.length → rkI es n ≤ rkI es (nth (nth l k).nodes j))
    (e : Env) (e1 : e 1 = .vp rk c) (e3 : e 3 = aInt n) (e4 : e 4 = .pin [.vp rk 0]) (e8 : e 8 = aInt k)
    (hK : ∀ v h' nv' r', h' rk = some (kpO As rM) → RefAt h' a (l.set k ⟨(nth l k).word, insL (nth l k).nodes q n⟩) nv' (fun r => F r ∨ r = r') → (F r' ∨ h r' = none) → (∀ t o, h t = some o → ¬ F t → h' t = some o) → K v h') :
    vc (Pg G) c36_s3 (retK [] K) e h := by
  have hk' : h rk = some ⟨.t 72, 5, [As ++ [.mpr rM]]⟩ := hk
  have hdrop : List.drop c (As ++ [.mpr rM]) = a :: List.drop (c + 1) (As ++ [.mpr rM]) := by
    have h1 : (As ++ [AVal.mpr rM])[c]? = some a := by rw [List.getElem?_append_left (by omega)]; exact ha
    have h2 := (List.getElem?_eq_some_iff.1 h1)
    rw [List.drop_eq_getElem_cons h2.1, h2.2]
  have hlen : c + 1 ≤ (As ++ [AVal.mpr rM]).length := by rw [List.length_append, List.length_singleton]; omega
  rcases R.own.live R.mt with ⟨h1, _⟩ | ⟨rA, er, hA1, hA2, hA3, hA4⟩
  · rw [← rowsR_len l nv, h1] at hkl; cases hkl
  rw [rowsR_len] at hA1 hA3 hA4
  have hrow : er.getD k [] = [.str (nth l k).word, nv k] := by
    have h5 : (er.take l.length)[k]? = some (rowR l nv k) := by rw [hA4]; exact rowsR_get hkl
    rw [List.getElem?_take, if_pos hkl] at h5
    rw [List.getD_eq_getElem?_getD, h5]; rfl
  obtain ⟨N1, N2, N3⟩ := R.num k hkl
  unfold c36_s3
  skip
  obtain ⟨a0, a1, a2, a3, hAs⟩ : ∃ a0 a1 a2 a3, As = [a0, a1, a2, a3] := by
    match As, hAl with
    | [a0, a1, a2, a3], _ => exact ⟨a0, a1, a2, a3, rfl⟩
  have hB := bsI_ok (G := G) (h := h) (a := nv k) (x := aInt n) (n := (nth l k).nodes.length) (k := q) (f := 51) (A := []) (B := [.pin [.vp rk 0]]) (row := fun j => eInt (nth (nth l k).nodes j)) (c := fun j => cmpI (rkI es (nth (nth l k).nodes j)) (rkI es n)) (by omega) hq (fun _ _ => rfl) (N1.ints N2)
    (fun j hj => cmpZ_neg.2 (hlt j hj)) (fun j h1 h2 => by
      have h3 := hge j h1 h2
      refine Int.not_lt.1 fun hc => ?_
      have := cmpZ_neg.1 hc; omega) (fun j _ => put1_ok (rk := rk) (rM := rM) (by rw [← hAs]; exact hk) hM (nth (nth l k).nodes j) n)
  simp -dsimp -implicitDefEqProofs (disch := omega) only [VCA, Nat.reduceEqDiff, Nat.reduceAdd, Nat.reduceLT, ↓reduceIte, exists_eq_left', e1, e3, e4, e8, hk', hdrop, hA1, hA2, hrow]
  refine ⟨hlen, ⟨by omega, by omega⟩, by omega, DCalls.of hB ?_⟩
  rintro v h1 ⟨rfl, rfl⟩
  simp -dsimp -implicitDefEqProofs (disch := omega) only [VCA, Nat.reduceEqDiff, Nat.reduceAdd, Nat.reduceLT, ↓reduceIte, okParts, exists_eq_left', lit_eq, hA2, hrow, e3]
  refine ⟨by omega, fun rv hrv => ?_⟩
  have hfr : ∀ r o, h1 r = some o → upd h1 rv (some ⟨.t 3, 1, [eInt n]⟩) r = some o := fun r o ho => by
    rw [upd_ne _ _ (fun e => by rw [e, hrv] at ho; cases ho)]; exact ho
  have hIns := insertI_ok (G := G) (x := n) (i := q) (rv := rv) (N1.keep fun r o _ ho => hfr r o ho) N2 hq (by omega) (upd_same _ _ _) (fun e => by
    obtain ⟨o, ho⟩ := N1.there e
    rw [hrv] at ho; cases ho)
  refine DCalls.of hIns ?_
  rintro v h2 ⟨r', rfl, z1, z2, z3⟩
  have ne1 : rootOf (nv k) ≠ some rA := fun e => (N3 rA e).2 (by rw [hA1]; rfl)
  have zA := z3 rA _ (hfr rA _ hA2) ne1
  simp -dsimp -implicitDefEqProofs (disch := omega) only [VCA, Nat.reduceEqDiff, Nat.reduceAdd, ↓reduceIte, setAt, exists_eq_left', zA, hrow]
  have FA : F rA := R.inF rA (by rw [hA1]; rfl)
  have z2' : rootOf (nv k) = some r' ∨ h1 r' = none := z2.imp id fun e => by
    unfold upd at e
    split at e
    · cases e
    · exact e
  have kp : ∀ t o, h1 t = some o → rootOf (nv k) ≠ some t → t ≠ rA → upd h2 rA (some ⟨.t 45, 2, er.set k [.str (nth l k).word, .osl r' 1 0 ((nth l k).nodes.length + 1)]⟩) t = some o := fun t o ht h1 h2 => by
    rw [upd_ne _ _ h2]; exact z3 t o (hfr t o ht) h1
  have il := insL_len (nth l k).nodes q n hq
  have r'A : r' ≠ rA := fun e => by rw [e, zA] at z1; cases z1
  refine ⟨by omega, _, Sub.refl _, hK _ _ _ r' ?_ (R.setN (ns := insL (nth l k).nodes q n) hkl hA1 hA2 hA3 hA4 (by rw [il]; exact upd_same _ _ _) (by rw [upd_ne _ _ r'A]; exact z1) z2' kp) ?_ ?_⟩
  · exact kp _ _ hk (fun e => hFk (N3 rk e).1) (fun e => hFk (by rw [e]; exact FA))
  · exact z2'.imp (fun e => (N3 r' e).1) id
  · exact fun t o ht hF => kp t o ht (fun e => hF (N3 t e).1) (fun e => hF (by rw [e]; exact FA))
/-- a number put into a list, by a word -/
def putL (l : List HRef) (k q : Nat) (w : List UInt8) (n : Int) : List HRef := if k < l.length ∧ (nth l k).word = w then l.set k ⟨w, insL (nth l k).nodes q n⟩ else insL l k ⟨w, [n]⟩
theorem insL_set {α : Type} [Inhabited α] (l : List α) (i : Nat) (x y : α) (hi : i ≤ l.length) : (insL l i x).set i y = insL l i y := by
  unfold insL
  rw [List.set_append_right _ _ (by rw [List.length_take]; omega), List.length_take, Nat.min_eq_left hi, Nat.sub_self]; rfl
set_option maxHeartbeats 1000000 in
theorem put_ok {h : Heap} {rk rM c : Nat} {As : List AVal} {a : AVal} {es : List (Int × Int)} {l : List HRef} {nv : Nat → AVal} {F : Nat → Prop} {w : List UInt8} {n : Int} {k q : Nat} (hk : h rk = some (kpO As rM)) (hAl : As.length = 4) (hc : c < 4) (ha : As[c]? = some a)
    (hM : h rM = some ⟨.m 69 (eM es), 1, []⟩) (R : RefAt h a l nv F) (hFk : ¬ F rk) (hFM : ¬ F rM) (hl : l.length ≤ 99999)
    (hkl : k ≤ l.length) (hlt : ∀ j, j < k → ltS (nth l j).word w = true) (hge : ∀ j, k ≤ j → j < l.length → ltS (nth l j).word w = false)
    (hf : k < l.length → (nth l k).word = w → (nth l k).nodes.length ≤ 99999 ∧ q ≤ (nth l k).nodes.length ∧ (∀ j, j < q → rkI es (nth (nth l k).nodes j) < rkI es n) ∧ ∀ j, q ≤ j → j < (nth l k).nodes.length → rkI es n ≤ rkI es (nth (nth l k).nodes j)) :
    DCalls (Pg G) 36 [.vp rk 0, .vp rk c, .str w, aInt n] h fun _ h' => ∃ a' nv' F', h' rk = some (kpO (As.set c a') rM) ∧ RefAt h' a' (putL l k q w n) nv' F' ∧ (∀ r, F' r → F r ∨ h r = none) ∧ ∀ t o, h t = some o → ¬ F t → t ≠ rk → h' t = some o := by
  have hk' : h rk = some ⟨.t 72, 5, [As ++ [.mpr rM]]⟩ := hk
  have hFd := ixFind_ok (G := G) (n := l.length) (W := fun j => (nth l j).word) (nv := nv) w (by omega) hkl R.lst hlt hge
  have hdrop : List.drop c (As ++ [.mpr rM]) = a :: List.drop (c + 1) (As ++ [.mpr rM]) := by
    have h1 : (As ++ [AVal.mpr rM])[c]? = some a := by rw [List.getElem?_append_left (by omega)]; exact ha
    have h2 := (List.getElem?_eq_some_iff.1 h1)
    rw [List.drop_eq_getElem_cons h2.1, h2.2]
  have hlen : c + 1 ≤ (As ++ [AVal.mpr rM]).length := by rw [List.length_append, List.length_singleton]; omega
  have hset : As.set c a = As := by
    apply List.ext_getElem?
    intro j
    rw [List.getElem?_set]
    split
    · rename_i e; subst e; rw [if_pos (by omega), ha]
    · rfl
  by_cases hfd : k < l.length ∧ (nth l k).word = w
  · have d1 : decide (k < l.length ∧ (nth l k).word = w) = true := decide_eq_true hfd
    obtain ⟨f1, f2, f3, f4⟩ := hf hfd.1 hfd.2
    have hp : putL l k q w n = l.set k ⟨(nth l k).word, insL (nth l k).nodes q n⟩ := by unfold putL; rw [if_pos hfd, hfd.2]
    rw [hp]
    rw [d1] at hFd
    refine dcalls_of_vc Tryd.func36 hn36 hc36 (by rw [Tryd.ntmps36]; simp) (by rw [Tryd.ntmps36]; decide) ?_
    simp -dsimp -implicitDefEqProofs (disch := omega) only [VCA, Nat.reduceEqDiff, Nat.reduceLT, ↓reduceIte, ne_eq, exists_eq_left', c36, hk', hdrop]
    refine ⟨hlen, DCalls.of hFd ?_⟩
    rintro v h1 ⟨rfl, rfl⟩
    simp -dsimp -implicitDefEqProofs (disch := omega) only [VCA, Nat.reduceEqDiff, Nat.reduceAdd, Nat.reduceLT, ↓reduceIte]
    refine put_rest (G := G) (q := q) (n := n) hk hAl hc ha hM R hFk hFM (by omega) hfd.1 f1 f2 f3 f4 _ rfl rfl rfl rfl fun v h' nv' r' p1 p2 p3 p4 => ?_
    exact ⟨a, nv', _, by rw [hset]; exact p1, p2, fun r hr => hr.elim .inl fun e => by rw [e]; exact p3, fun t o ht hF _ => p4 t o ht hF⟩
  · have d1 : decide (k < l.length ∧ (nth l k).word = w) = false := decide_eq_false hfd
    have hp : putL l k q w n = insL l k ⟨w, [n]⟩ := by unfold putL; rw [if_neg hfd]
    rw [hp]
    rw [d1] at hFd
    refine dcalls_of_vc Tryd.func36 hn36 hc36 (by rw [Tryd.ntmps36]; simp) (by rw [Tryd.ntmps36]; decide) ?_
    simp -dsimp -implicitDefEqProofs (disch := omega) only [VCA, Nat.reduceEqDiff, Nat.reduceLT, ↓reduceIte, ne_eq, exists_eq_left', c36, hk', hdrop]
    refine ⟨hlen, DCalls.of hFd ?_⟩
    rintro v h1 ⟨rfl, rfl⟩
    simp -dsimp -implicitDefEqProofs (disch := omega) only [VCA, Nat.reduceEqDiff, Nat.reduceAdd, Nat.reduceLT, Nat.reduceLeDiff, ↓reduceIte, okParts, fillA, okFill, exists_eq_left', lit_eq, hk', hdrop]
    refine ⟨hlen, fun rv hrv => ?_⟩
    have hfr : ∀ r o, h1 r = some o → upd h1 rv (some ⟨.t 45, 2, [[.str w, .emp]]⟩) r = some o := fun r o ho => by
      rw [upd_ne _ _ (fun e => by rw [e, hrv] at ho; cases ho)]; exact ho
    have R1 := R.keep (fun r o _ ho => hfr r o ho)
    have hIns := insertR_rows (G := G) (x := [.str w, .emp]) (i := k) (rv := rv) R1.own R1.mt (rowsR_all l nv) rfl (by rw [rowsR_len]; exact hkl) (by rw [rowsR_len]; omega) (upd_same _ _ _) (fun e => by
      obtain ⟨o, ho⟩ := R.own.there e
      rw [hrv] at ho; cases ho)
    rw [rowsR_len] at hIns
    refine DCalls.of hIns ?_
    rintro v h2 ⟨r', rfl, z1, z2, z3⟩
    have z2' : rootOf a = some r' ∨ h1 r' = none := z2.imp id fun e => by
      unfold upd at e
      split at e
      · cases e
      · exact e
    have R2 := R1.ins hkl z1 z2 z3
    have na : rootOf a ≠ some rk := fun e => hFk (R.inF rk e)
    have zk := z3 rk _ (hfr rk _ hk') na
    have r'k : r' ≠ rk := fun e => by
      rcases z2' with q1 | q1
      · exact na (by rw [← e]; exact q1)
      · rw [e, hk'] at q1; cases q1
    simp -dsimp -implicitDefEqProofs (disch := omega) only [VCA, Nat.reduceEqDiff, Nat.reduceLT, ↓reduceIte, setAt, exists_eq_left', zk]
    refine ⟨hlen, ?_⟩
    have hrow : ∀ v : AVal, List.take c (As ++ [.mpr rM]) ++ [v] ++ List.drop (c + 1) (As ++ [.mpr rM]) = As.set c v ++ [.mpr rM] := fun v => by
      rw [List.take_append_of_le_length (by omega), List.drop_append_of_le_length (by omega), List.set_eq_take_append_cons_drop, if_pos (by omega)]
      simp
    rw [hrow]
    have kM : rM ≠ rk := fun e => by rw [e, hk'] at hM; cases hM
    have kp : ∀ t o, h1 t = some o → rootOf a ≠ some t → t ≠ rk → upd h2 rk (some ⟨.t 72, 5, [As.set c (.osl r' 2 0 (l.length + 1)) ++ [.mpr rM]]⟩) t = some o := fun t o ht q1 q2 => by
      rw [upd_ne _ _ q2]; exact z3 t o (hfr t o ht) q1
    have il := insL_len l k (⟨w, []⟩ : HRef) hkl
    have ik : nth (insL l k (⟨w, []⟩ : HRef)) k = ⟨w, []⟩ := by rw [nth_insL _ _ _ hkl, if_neg (Nat.lt_irrefl k), if_pos rfl]
    have R3 := R2.keep (h' := upd h2 rk (some ⟨.t 72, 5, [As.set c (.osl r' 2 0 (l.length + 1)) ++ [.mpr rM]]⟩)) (fun r o hr ho => by
      rw [upd_ne _ _ (fun e => by rcases hr with hr | hr; exact hFk (by rw [← e]; exact hr); exact r'k (by rw [← hr, e]))]; exact ho)
    have r'M : r' ≠ rM := fun e => by
      rcases z2' with q1 | q1
      · exact hFM (R.inF rM (by rw [← e]; exact q1))
      · rw [e, hM] at q1; cases q1
    refine put_rest (G := G) (q := 0) (n := n) (As := As.set c (.osl r' 2 0 (l.length + 1))) (rM := rM) (es := es) (upd_same _ _ _) (by rw [List.length_set]; exact hAl) hc (by rw [List.getElem?_set, if_pos rfl, if_pos (by omega)]) (kp _ _ hM (fun e => hFM (R.inF rM e)) kM) R3
      (fun e => e.elim hFk fun e => r'k e.symm) (fun e => e.elim hFM fun e => r'M e.symm) (by omega) (by omega) (by rw [ik]; exact Nat.zero_le _) (Nat.zero_le _) (fun j hj => absurd hj (Nat.not_lt_zero j)) (fun j _ hj => by rw [ik] at hj; exact absurd hj (Nat.not_lt_zero j)) _ rfl rfl rfl rfl fun v h' nv' r2 p1 p2 p3 p4 => ?_
    rw [ik, insL_set _ _ _ _ hkl] at p2
    refine ⟨_, nv', _, p1, p2, fun r hr => ?_, fun t o ht hF hne => ?_⟩
    · have q' : (F r ∨ r = r') → F r ∨ h1 r = none := fun e => e.elim .inl fun e => by
        rcases z2' with q1 | q1
        · exact .inl (R.inF r (by rw [e]; exact q1))
        · exact .inr (by rw [e]; exact q1)
      rcases hr with hr | rfl
      · exact q' hr
      · rcases p3 with p3 | p3
        · exact q' p3
        · by_cases hF : F r
          · exact .inl hF
          · cases ho : h1 r with
            | none => exact .inr rfl
            | some o =>
              by_cases hrk : r = rk
              · rw [hrk, upd_same] at p3; cases p3
              · have := kp r o ho (fun e => hF (R.inF r e)) hrk
                exact absurd (this.symm.trans p3) (by simp)
    · have hnr : t ≠ r' := fun e => by
        rcases z2' with q1 | q1
        · exact hF (R.inF t (by rw [e]; exact q1))
        · rw [e, q1] at ht; cases ht
      exact p4 t o (kp t o ht (fun e => hF (R.inF t e)) hne) fun e => e.elim hF hnr
end Go.Proofs.K
end
section
/- The index's words of a node, and its lists. -/
set_option linter.unusedSimpArgs false
set_option linter.unusedVariables false
namespace Go.Proofs.K
open Go Go.Sim Go.Proofs Go.Shelf
variable {G : Glob}
def c61 : SFun := ⟨(.seq (.reg [⟨(some 2), (.mv (.c .emp)), none⟩]) (.seq (.seq (.reg [⟨(some 3), (.mv (.t 0)), none⟩, ⟨(some 4), (.bin .eql (.t 3) (.c (.str []))), none⟩]) (.cond (.t 4) (.seq (.reg [⟨(some 2), (.mv (.c .emp)), none⟩]) .ret) .skip)) (.seq (.reg [⟨(some 5), (.mv (.t 0)), none⟩, ⟨(some 6), (.bldF 9 1 [(.t 5)]), none⟩, ⟨(some 2), (.mv (.t 6)), none⟩]) .ret))), [(.tmp 2)]⟩
theorem hc61 : toSF Tryd.prog {} Tryd.f61 = some c61 := by kernel_rfl
theorem hn61 : (Tryd.f61.name == "runtime.NumGoroutine") = false := by kernel_rfl
theorem oneOf_ok (s : List UInt8) : PCalls (Pg G) 61 [.str s] (sl eStr (if s = [] then [] else [s])) := PCalls.outV fun h => by
  by_cases hs : s = []
  · subst hs
    rw [if_pos rfl]
    refine dcalls_of_vc Tryd.func61 hn61 hc61 (by rw [Tryd.ntmps61]; simp) (by rw [Tryd.ntmps61]; decide) ?_
    simp -dsimp -implicitDefEqProofs (disch := omega) only [VCA, ↓reduceIte, reduceCtorEq, c61]
    repeat' (first | ((with_reducible refine Br.dec (fun _ => ?_) (fun _ => ?_)) <;> try (exfalso; omega)) | ((with_reducible refine Br.eq (fun _ => ?_) (fun _ => ?_)) <;> try (exfalso; omega)) | ((with_reducible refine Br.ne (fun _ => ?_) (fun _ => ?_)) <;> try (exfalso; omega)) | ((with_reducible refine brNdec (fun _ => ?_) (fun _ => ?_)) <;> try (exfalso; omega)) | ((with_reducible refine brNeq (fun _ => ?_) (fun _ => ?_)) <;> try (exfalso; omega)) | with_reducible refine Br.intro (fun _ => ?_) (fun _ => ?_) | (with_reducible refine And.intro ?_ ?_; · omega) | simp -dsimp -implicitDefEqProofs (disch := omega) only [VCA, ↓reduceIte, reduceCtorEq, okParts])
    all_goals first | exact ⟨_, Sub.refl _, Sub.refl _, .one _ _ .emp⟩ | (rename_i q; exact absurd rfl q)
  · rw [if_neg hs]
    have d1 : (s == []) = false := by simpa using hs
    refine dcalls_of_vc Tryd.func61 hn61 hc61 (by rw [Tryd.ntmps61]; simp) (by rw [Tryd.ntmps61]; decide) ?_
    simp -dsimp -implicitDefEqProofs (disch := omega) only [VCA, ↓reduceIte, reduceCtorEq, okParts, c61, d1]
    repeat' (first | ((with_reducible refine Br.dec (fun _ => ?_) (fun _ => ?_)) <;> try (exfalso; omega)) | ((with_reducible refine Br.eq (fun _ => ?_) (fun _ => ?_)) <;> try (exfalso; omega)) | ((with_reducible refine Br.ne (fun _ => ?_) (fun _ => ?_)) <;> try (exfalso; omega)) | ((with_reducible refine brNdec (fun _ => ?_) (fun _ => ?_)) <;> try (exfalso; omega)) | ((with_reducible refine brNeq (fun _ => ?_) (fun _ => ?_)) <;> try (exfalso; omega)) | with_reducible refine Br.intro (fun _ => ?_) (fun _ => ?_) | (with_reducible refine And.intro ?_ ?_; · omega) | simp -dsimp -implicitDefEqProofs (disch := omega) only [VCA, pg_gl, ↓upd_none, Nat.reduceEqDiff, Nat.reduceBEq, Nat.reduceAdd, Nat.reduceSub, Nat.reduceMul, Nat.reduceLT, Nat.reduceLeDiff, ↓reduceIte, reduceCtorEq, rsOf, rootsOf, SOp.rd, SI.rd, SX.rd, rdL, rdO, rdP, okParts, eqCells, okEqCells, fillA, okFill, setAt, implies_true, forall_const, forall_eq, ne_eq, exists_eq_right_right, exists_eq_right, exists_eq_left, exists_eq_left', rootL, eInt, eStr, eAttr, eNode, lit_eq])
    exact ⟨_, Sub.refl _, Sub.refl _, .one _ _ (.refl _)⟩
def c47 : SFun := ⟨(.seq (.reg [⟨(some 2), (.mv (.c .emp)), none⟩]) (.seq (.dreg [(⟨(some 3), (.mv (.t 0)), none⟩, none), (⟨(some 4), (.fldA 0 (.t 3)), none⟩, none), (⟨(some 5), (.fldA 0 (.t 4)), none⟩, none), (⟨(some 6), (.mv (.t 0)), none⟩, none), (⟨(some 7), (.fldA 0 (.t 6)), none⟩, none), (⟨(some 8), (.fldA 1 (.t 7)), none⟩, none), (⟨(some 9), (.mv (.t 0)), none⟩, none), (⟨(some 10), (.fldA 0 (.t 9)), none⟩, none), (⟨(some 11), (.fldA 2 (.t 10)), none⟩, none), (⟨(some 12), (.mv (.t 0)), none⟩, none), (⟨(some 13), (.fldA 0 (.t 12)), none⟩, none), (⟨(some 14), (.fldA 3 (.t 13)), none⟩, none), (⟨(some 15), (.bldF 92 1 [(.t 5), (.t 8), (.t 11), (.t 14)]), none⟩, none), (⟨(some 2), (.mv (.t 15)), none⟩, none)]) .ret)), [(.tmp 2)]⟩
theorem hc47 : toSF Tryd.prog {} Tryd.f47 = some c47 := by kernel_rfl
theorem hn47 : (Tryd.f47.name == "runtime.NumGoroutine") = false := by kernel_rfl
theorem lists_ok {h : Heap} {rk : Nat} : DCalls (Pg G) 47 [.vp rk 0] h fun r h' => r = .slc [[.vp rk 0], [.vp rk 1], [.vp rk 2], [.vp rk 3]] ∧ h' = h := by
  refine dcalls_of_vc Tryd.func47 hn47 hc47 (by rw [Tryd.ntmps47]; simp) (by rw [Tryd.ntmps47]; decide) ?_
  simp -dsimp -implicitDefEqProofs (disch := omega) only [VCA, Nat.reduceEqDiff, ↓reduceIte, reduceCtorEq, rsOf, rootsOf, okParts, exists_eq_right, rootL, c47]
  exact Sub.refl _
/-- an attribute's value, or nothing -/
def attV (l : List HAttr) (nm : List UInt8) : List UInt8 := if 0 ≤ attrAt l nm then (nth l (attrAt l nm).toNat).value else []
def c62 : SFun := ⟨(.seq (.reg [⟨(some 4), (.mv (.c (.str []))), none⟩]) (.seq (.seq (.reg [⟨(some 6), (.mv (.t 0)), none⟩, ⟨(some 7), (.mv (.t 1)), none⟩, ⟨(some 8), (.pcall 75 [(.t 6), (.t 7)]), none⟩, ⟨(some 5), (.mv (.t 8)), none⟩]) (.seq (.reg [⟨(some 9), (.mv (.t 5)), none⟩, ⟨(some 10), (.bin .geq (.t 9) (.c (.int .i64 (0)))), none⟩]) (.cond (.t 10) (.seq (.reg [⟨(some 11), (.mv (.t 0)), none⟩, ⟨(some 12), (.mv (.t 5)), none⟩, ⟨(some 13), (.idxA 2 (.t 11) (.t 12)), none⟩, ⟨(some 14), (.fldA 1 (.t 13)), none⟩, ⟨(some 15), (.ld 1 false (.t 14)), none⟩, ⟨(some 4), (.mv (.t 15)), none⟩]) .ret) .skip))) (.seq (.reg [⟨(some 4), (.mv (.c (.str []))), none⟩]) .ret))), [(.tmp 4)]⟩
theorem hc62 : toSF Tryd.prog {pure := [75]} Tryd.f62 = some c62 := by kernel_rfl
theorem hn62 : (Tryd.f62.name == "runtime.NumGoroutine") = false := by kernel_rfl
theorem domOf_ok (l : List HAttr) (nm : List UInt8) (hl : l.length ≤ 1073741824) : PCalls (Pg G) 62 [sl eAttr l, .str nm] (.str (attV l nm)) := fun h => by
  have cF := find_ok (G := G) l nm hl
  unfold attV
  obtain ⟨i, hi⟩ : ∃ i, attrAt l nm = i := ⟨_, rfl⟩
  have hb : i < l.length := by
    rw [← hi]
    unfold attrAt
    cases hm : l.findIdx? (fun a => a.name == nm) with
    | none => unfold idxM; rw [hm]; simp only; omega
    | some j =>
      have := (List.findIdx?_eq_some_iff_getElem.1 hm).1
      unfold idxM; rw [hm]; simp only; omega
  rw [hi] at cF ⊢
  by_cases h0 : 0 ≤ i
  · rw [if_pos h0]
    have d1 : decide (0 ≤ i) = true := decide_eq_true h0
    refine dcalls_of_vc Tryd.func62 hn62 hc62 (by rw [Tryd.ntmps62]; simp) (by rw [Tryd.ntmps62]; decide) ?_
    simp -dsimp -implicitDefEqProofs (disch := omega) only [VCA, Nat.reduceEqDiff, ↓reduceIte, reduceCtorEq, c62]
    repeat' (first | ((with_reducible refine Br.dec (fun _ => ?_) (fun _ => ?_)) <;> try (exfalso; omega)) | ((with_reducible refine Br.eq (fun _ => ?_) (fun _ => ?_)) <;> try (exfalso; omega)) | ((with_reducible refine Br.ne (fun _ => ?_) (fun _ => ?_)) <;> try (exfalso; omega)) | ((with_reducible refine brNdec (fun _ => ?_) (fun _ => ?_)) <;> try (exfalso; omega)) | ((with_reducible refine brNeq (fun _ => ?_) (fun _ => ?_)) <;> try (exfalso; omega)) | with_reducible refine Br.intro (fun _ => ?_) (fun _ => ?_) | (with_reducible apply pcallE.of; · exact cF) | (with_reducible refine And.intro ?_ ?_; · omega) | simp -dsimp -implicitDefEqProofs (disch := omega) only [VCA, Nat.reduceEqDiff, ↓reduceIte, reduceCtorEq, exists_eq_right, eAttr, d1, eAttr])
    all_goals exact Sub.refl _
  · rw [if_neg h0]
    have d1 : decide (0 ≤ i) = false := decide_eq_false h0
    refine dcalls_of_vc Tryd.func62 hn62 hc62 (by rw [Tryd.ntmps62]; simp) (by rw [Tryd.ntmps62]; decide) ?_
    simp -dsimp -implicitDefEqProofs (disch := omega) only [VCA, Nat.reduceEqDiff, ↓reduceIte, reduceCtorEq, c62]
    repeat' (first | ((with_reducible refine Br.dec (fun _ => ?_) (fun _ => ?_)) <;> try (exfalso; omega)) | ((with_reducible refine Br.eq (fun _ => ?_) (fun _ => ?_)) <;> try (exfalso; omega)) | ((with_reducible refine Br.ne (fun _ => ?_) (fun _ => ?_)) <;> try (exfalso; omega)) | ((with_reducible refine brNdec (fun _ => ?_) (fun _ => ?_)) <;> try (exfalso; omega)) | ((with_reducible refine brNeq (fun _ => ?_) (fun _ => ?_)) <;> try (exfalso; omega)) | with_reducible refine Br.intro (fun _ => ?_) (fun _ => ?_) | (with_reducible apply pcallE.of; · exact cF) | (with_reducible refine And.intro ?_ ?_; · omega) | simp -dsimp -implicitDefEqProofs (disch := omega) only [VCA, ↓reduceIte, exists_eq_right, d1])
    all_goals exact Sub.refl _
theorem attV_eq (l : List HAttr) (nm : List UInt8) : (attrOfM l nm).1 = attV l nm := by unfold attrOfM attV; split <;> rfl
def one1 (s : List UInt8) : List (List UInt8) := if s = [] then [] else [s]
def idS : List UInt8 := [105, 100]
def classS : List UInt8 := [99, 108, 97, 115, 115]
def nameS : List UInt8 := [110, 97, 109, 101]
/-- a node's words, for each list -/
def words4 (x : HNode) : List (List (List UInt8)) := if x.kind ≠ 2 then [[], [], [], []] else [one1 (attV x.attrs idS), wordsM (attV x.attrs classS), [x.name], one1 (attV x.attrs nameS)]
def eWs (l : List (List UInt8)) : List AVal := [sl eStr l]
def c46 : SFun := ⟨(.seq (.reg [⟨(some 1), (.boxF 53 6 (.t 0)), none⟩, ⟨(some 2), (.mv (.c .emp)), none⟩]) (.seq (.seq (.reg [⟨(some 4), (.fldA 0 (.t 1)), none⟩, ⟨(some 5), (.ld 1 false (.t 4)), none⟩, ⟨(some 6), (.bin .neq (.t 5) (.c (.int .i64 (2)))), none⟩]) (.cond (.t 6) (.seq (.reg [⟨(some 7), (.mks 35 1 24 [.emp] (.c (.int .i64 (4))) (.c (.int .i64 (4)))), none⟩, ⟨(some 2), (.mv (.t 7)), none⟩]) .ret) .skip)) (.seq (.reg [⟨(some 3), (.mv (.c (.fn 61 [] []))), none⟩]) (.seq (.dreg [(⟨(some 8), (.mv (.t 3)), none⟩, none), (⟨(some 9), (.fldA 2 (.t 1)), none⟩, none), (⟨(some 10), (.ld 1 false (.t 9)), none⟩, none), (⟨(some 11), (.pcall 62 [(.t 10), (.c (.str [105, 100]))]), none⟩, none), (⟨(some 13), (.fldA 2 (.t 1)), none⟩, none), (⟨(some 14), (.ld 1 false (.t 13)), none⟩, none), (⟨(some 17), (.fldA 1 (.t 1)), none⟩, none), (⟨(some 18), (.ld 1 false (.t 17)), none⟩, none), (⟨(some 19), (.bldF 9 1 [(.t 18)]), none⟩, none), (⟨(some 20), (.mv (.t 3)), none⟩, none), (⟨(some 21), (.fldA 2 (.t 1)), none⟩, none), (⟨(some 22), (.ld 1 false (.t 21)), none⟩, none), (⟨(some 12), (.call (.t 8) [(.t 11)]), none⟩, (some [10])), (⟨(some 15), (.pcall 62 [(.t 14), (.c (.str [99, 108, 97, 115, 115]))]), none⟩, none), (⟨(some 16), (.pcall 10 [(.t 15)]), none⟩, none), (⟨(some 23), (.pcall 62 [(.t 22), (.c (.str [110, 97, 109, 101]))]), none⟩, none), (⟨(some 24), (.call (.t 20) [(.t 23)]), none⟩, (some [22, 14, 10])), (⟨(some 25), (.bldF 35 1 [(.t 12), (.t 16), (.t 19), (.t 24)]), none⟩, none), (⟨(some 2), (.mv (.t 25)), none⟩, none)]) .ret)))), [(.tmp 2)]⟩
theorem hc46 : toSF Tryd.prog {pure := [62, 10, 61]} Tryd.f46 = some c46 := by kernel_rfl
theorem hn46 : (Tryd.f46.name == "runtime.NumGoroutine") = false := by kernel_rfl
theorem words4_ok (x : HNode) (hx : NodeSm x) (hs : (attV x.attrs classS).length ≤ 1000000) : PCalls (Pg G) 46 [.agg (eNode x)] (sl eWs (words4 x)) := PCalls.outV fun h => by
  have c1 := domOf_ok (G := G) x.attrs idS hx.attrs
  have c2 := domOf_ok (G := G) x.attrs classS hx.attrs
  have c3 := domOf_ok (G := G) x.attrs nameS hx.attrs
  have c4 := words_ok (G := G) _ hs
  have c5 := oneOf_ok (G := G) (attV x.attrs idS)
  have c6 := oneOf_ok (G := G) (attV x.attrs nameS)
  unfold idS at c1 c5
  unfold classS at c2 c4
  unfold nameS at c3 c6
  by_cases hk : x.kind = 2
  · have hw : words4 x = [one1 (attV x.attrs idS), wordsM (attV x.attrs classS), [x.name], one1 (attV x.attrs nameS)] := if_neg (by simpa using hk)
    rw [hw]
    have d1 : (x.kind != 2) = false := by simpa using hk
    unfold one1 idS classS nameS
    obtain ⟨A1, hA1⟩ : ∃ A, (if attV x.attrs [105, 100] = [] then [] else [attV x.attrs [105, 100]]) = A := ⟨_, rfl⟩
    obtain ⟨A4, hA4⟩ : ∃ A, (if attV x.attrs [110, 97, 109, 101] = [] then [] else [attV x.attrs [110, 97, 109, 101]]) = A := ⟨_, rfl⟩
    obtain ⟨A2, hA2⟩ : ∃ A, wordsM (attV x.attrs [99, 108, 97, 115, 115]) = A := ⟨_, rfl⟩
    rw [hA1] at c5
    rw [hA4] at c6
    rw [hA2] at c4
    rw [hA1, hA2, hA4]
    refine dcalls_of_vc Tryd.func46 hn46 hc46 (by rw [Tryd.ntmps46]; simp) (by rw [Tryd.ntmps46]; decide) ?_
    simp -dsimp -implicitDefEqProofs (disch := omega) only [VCA, Nat.reduceEqDiff, Nat.reduceAdd, Nat.reduceLeDiff, ↓reduceIte, rsOf, rootsOf, rootL, eNode, c46, d1, eNode]
    repeat' (first | ((with_reducible refine Br.dec (fun _ => ?_) (fun _ => ?_)) <;> try (exfalso; omega)) | ((with_reducible refine Br.eq (fun _ => ?_) (fun _ => ?_)) <;> try (exfalso; omega)) | ((with_reducible refine Br.ne (fun _ => ?_) (fun _ => ?_)) <;> try (exfalso; omega)) | ((with_reducible refine brNdec (fun _ => ?_) (fun _ => ?_)) <;> try (exfalso; omega)) | ((with_reducible refine brNeq (fun _ => ?_) (fun _ => ?_)) <;> try (exfalso; omega)) | with_reducible refine Br.intro (fun _ => ?_) (fun _ => ?_) | (with_reducible apply pcallE.of; · exact c1) | (with_reducible apply pcallE.of; · exact c2) | (with_reducible apply pcallE.of; · exact c3) | (with_reducible apply pcallE.of; · exact c4) | (with_reducible apply pcallE.of; · exact c5) | (with_reducible apply pcallE.of; · exact c6) | ((refine DCalls.of (c5 _) ?_; rintro _ _ ⟨rfl, rfl⟩)) | ((refine DCalls.of (c6 _) ?_; rintro _ _ ⟨rfl, rfl⟩)) | ((refine DCalls.of (c4 _) ?_; rintro _ _ ⟨rfl, rfl⟩)) | (with_reducible refine And.intro ?_ ?_; · omega) | simp -dsimp -implicitDefEqProofs (disch := omega) only [VCA, Nat.reduceEqDiff, Nat.reduceAdd, Nat.reduceLeDiff, ↓reduceIte, rsOf, rootsOf, SOp.rd, SI.rd, SX.rd, rdL, okParts, rootL])
    refine (show Hd (vcD _ _ _ _ _) _ Wit.mk from ?_)
    simp -dsimp -implicitDefEqProofs (disch := omega) only [VCA, Nat.reduceEqDiff, ↓reduceIte, rsOf, rootsOf, okParts, rootL]
    exact ⟨_, Sub.refl _, Sub.refl _, .one _ _ (.refl _)⟩
  · have hw : words4 x = [[], [], [], []] := if_pos hk
    rw [hw]
    have d1 : (x.kind != 2) = true := by simpa using hk
    refine dcalls_of_vc Tryd.func46 hn46 hc46 (by rw [Tryd.ntmps46]; simp) (by rw [Tryd.ntmps46]; decide) ?_
    simp -dsimp -implicitDefEqProofs (disch := omega) only [VCA, Nat.reduceEqDiff, Nat.reduceAdd, Nat.reduceLeDiff, ↓reduceIte, eNode, c46, d1, eNode]
    refine ⟨by decide, by decide, by decide, by decide, fun r hr => ⟨_, Sub.refl _, (Sub.refl _).upd hr, .one _ _ (Vw.osl0 (by rw [newH_none hr]; exact upd_same _ _ _) rfl (by decide) (fun f hf => ?_) ?_)⟩⟩
    · obtain ⟨w, _, rfl⟩ := List.mem_map.1 hf; rfl
    · exact .cons (.cons .emp .nil) (.cons (.cons .emp .nil) (.cons (.cons .emp .nil) (.cons (.cons .emp .nil) .nil)))
end Go.Proofs.K
end
section
/- The keeper's state: four lists in roots of their own, and the ranks. -/
set_option linter.unusedSimpArgs false
set_option linter.unusedVariables false
namespace Go.Proofs.K
open Go Go.Sim Go.Proofs Go.Shelf
variable {G : Glob}
theorem RefAt.there {h : Heap} {a : AVal} {l : List HRef} {nv : Nat → AVal} {F : Nat → Prop} (R : RefAt h a l nv F) : RefAt h a l nv fun r => F r ∧ h r ≠ none :=
  ⟨R.own, R.mt, fun r hr => ⟨R.inF r hr, fun e => by obtain ⟨o, ho⟩ := R.own.there hr; rw [e] at ho; cases ho⟩,
    fun j hj => ⟨(R.num j hj).1, (R.num j hj).2.1, fun r hr => ⟨⟨((R.num j hj).2.2 r hr).1, fun e => by obtain ⟨o, ho⟩ := (R.num j hj).1.there hr; rw [e] at ho; cases ho⟩, ((R.num j hj).2.2 r hr).2⟩⟩, R.two⟩
/-- the keeper at rk, its map at rM, its four lists -/
structure KS (h0 h : Heap) (rk rM : Nat) (es : List (Int × Int)) (As : List AVal) (Ls : List (List HRef)) (nvs : Nat → Nat → AVal) (Fs : Nat → Nat → Prop) : Prop where
  len : As.length = 4
  llen : Ls.length = 4
  kp : h rk = some (kpO As rM)
  mp : h rM = some ⟨.m 69 (eM es), 1, []⟩
  k0 : h0 rk = none
  m0 : h0 rM = none
  ref : ∀ c, c < 4 → ∃ a, As[c]? = some a ∧ RefAt h a (nth Ls c) (nvs c) (Fs c)
  dom : ∀ c r, c < 4 → Fs c r → h r ≠ none ∧ h0 r = none ∧ r ≠ rk ∧ r ≠ rM
  apart : ∀ c d r, c < 4 → d < 4 → c ≠ d → Fs c r → ¬ Fs d r
  sub : Sim.Sub h0 h
/-- one list is another one now -/
theorem KS.put {h0 h h' : Heap} {rk rM : Nat} {es : List (Int × Int)} {As : List AVal} {Ls : List (List HRef)} {nvs : Nat → Nat → AVal} {Fs : Nat → Nat → Prop} (S : KS h0 h rk rM es As Ls nvs Fs) {c : Nat} (hc : c < 4) {a' : AVal} {l' : List HRef} {nv' : Nat → AVal} {F' : Nat → Prop}
    (p1 : h' rk = some (kpO (As.set c a') rM)) (p2 : RefAt h' a' l' nv' F') (p3 : ∀ r, F' r → Fs c r ∨ h r = none) (p4 : ∀ t o, h t = some o → ¬ Fs c t → t ≠ rk → h' t = some o) :
    KS h0 h' rk rM es (As.set c a') (Ls.set c l') (fun d => if d = c then nv' else nvs d) (fun d r => if d = c then F' r ∧ h' r ≠ none else Fs d r) := by
  have kM : rM ≠ rk := fun e => by have h1 := S.mp; rw [e, S.kp] at h1; cases h1
  have nM : ¬ Fs c rM := fun e => (S.dom c rM hc e).2.2.2 rfl
  have hF' : ∀ r, F' r → h0 r = none ∧ r ≠ rk ∧ r ≠ rM := fun r hr => by
    rcases p3 r hr with q | q
    · exact (S.dom c r hc q).2
    · exact ⟨S.sub.none q, (fun e => by rw [e, S.kp] at q; cases q), (fun e => by rw [e, S.mp] at q; cases q)⟩
  refine ⟨by rw [List.length_set]; exact S.len, by rw [List.length_set]; exact S.llen, p1, p4 _ _ S.mp nM kM, S.k0, S.m0, fun d hd => ?_, fun d r hd hr => ?_, fun d1 d2 r h1 h2 hne hr => ?_, fun t o ht => ?_⟩
  · by_cases q : d = c
    · subst q
      refine ⟨a', by rw [List.getElem?_set, if_pos rfl, if_pos (by rw [S.len]; exact hd)], ?_⟩
      rw [nth_set _ _ _ _ (by rw [S.llen]; exact hd)]
      simp only [if_true]
      exact p2.there
    · obtain ⟨a, g1, g2⟩ := S.ref d hd
      refine ⟨a, by rw [List.getElem?_set, if_neg (fun e => q e.symm)]; exact g1, ?_⟩
      rw [nth_set _ _ _ _ (by rw [S.llen]; exact hc)]
      simp only [if_neg q]
      exact g2.keep fun r o hr ho => p4 r o ho (S.apart d c r hd hc q hr) (S.dom d r hd hr).2.2.1
  · by_cases q : d = c
    · have hr : F' r ∧ h' r ≠ none := by simpa only [if_pos q] using hr
      exact ⟨hr.2, hF' r hr.1⟩
    · have hr : Fs d r := by simpa only [if_neg q] using hr
      obtain ⟨g1, g2⟩ := S.dom d r hd hr
      refine ⟨fun e => ?_, g2⟩
      cases ho : h r with
      | none => exact g1 ho
      | some o =>
        have := p4 r o ho (S.apart d c r hd hc q hr) g2.2.1
        rw [e] at this; cases this
  · have key : ∀ d, d < 4 → d ≠ c → Fs d r → ¬ F' r := fun d hd q g e => by
      rcases p3 r e with e | e
      · exact S.apart d c r hd hc q g e
      · exact (S.dom d r hd g).1 e
    by_cases q1 : d1 = c
    · have hr : F' r ∧ h' r ≠ none := by simpa only [if_pos q1] using hr
      have q2 : d2 ≠ c := fun e => hne (q1.trans e.symm)
      simp only [if_neg q2]
      exact fun g => key d2 h2 q2 g hr.1
    · have hr : Fs d1 r := by simpa only [if_neg q1] using hr
      by_cases q2 : d2 = c
      · simp only [if_pos q2]
        exact fun g => key d1 h1 q1 hr g.1
      · simp only [if_neg q2]; exact S.apart d1 d2 r h1 h2 hne hr
  · exact p4 t o (S.sub t o ht) (fun e => by have := (S.dom c t hc e).2.1; rw [ht] at this; cases this) (fun e => by have := S.k0; rw [← e, ht] at this; cases this)
end Go.Proofs.K
end
section
/- Places in a list of words that rise (plain). -/
set_option linter.unusedSimpArgs false
set_option linter.unusedVariables false
namespace Go.Proofs.K
open Go Go.Sim Go.Proofs
def Rise (l : List HRef) : Prop := l.Pairwise fun x y => ltS x.word y.word = true
/-- the place of a word -/
def kOf (l : List HRef) (w : List UInt8) : Nat := (l.takeWhile fun x => ltS x.word w).length
theorem kOf_le (l : List HRef) (w : List UInt8) : kOf l w ≤ l.length := by
  unfold kOf; exact (List.takeWhile_sublist _).length_le
theorem kOf_lt {l : List HRef} {w : List UInt8} : ∀ {j : Nat}, j < kOf l w → ltS (nth l j).word w = true := by
  unfold kOf
  induction l with
  | nil => intro j hj; exact absurd hj (Nat.not_lt_zero j)
  | cons x r ih =>
    intro j hj
    rw [List.takeWhile_cons] at hj
    split at hj
    · rename_i hx
      cases j with
      | zero => exact hx
      | succ j => exact ih (by simpa using hj)
    · exact absurd hj (Nat.not_lt_zero j)
theorem kOf_ge {l : List HRef} {w : List UInt8} (hR : Rise l) : ∀ {j : Nat}, kOf l w ≤ j → j < l.length → ltS (nth l j).word w = false := by
  unfold kOf
  induction l with
  | nil => intro j _ hj; exact absurd hj (Nat.not_lt_zero j)
  | cons x r ih =>
    intro j hk hj
    have hR' := List.pairwise_cons.1 hR
    rw [List.takeWhile_cons] at hk
    split at hk
    · cases j with
      | zero => simp at hk
      | succ j => exact ih hR'.2 (by simpa using hk) (by simpa using hj)
    · rename_i hx
      have hx : ltS x.word w = false := by simpa using hx
      cases j with
      | zero => exact hx
      | succ j =>
        have hj' : j < r.length := by simpa using hj
        have h1 := hR'.1 _ (nth_mem' hj')
        show ltS (nth r j).word w = false
        cases h2 : ltS (nth r j).word w with
        | false => rfl
        | true => have := ltS_trans _ _ _ h1 h2; rw [hx] at this; cases this
theorem Rise.lt {l : List HRef} (hR : Rise l) {i j : Nat} (h : i < j) (hj : j < l.length) : ltS (nth l i).word (nth l j).word = true := by
  have h3 := List.pairwise_iff_getElem.1 hR i j (by omega) hj h
  have q1 := nth_some (show i < l.length by omega)
  have q2 := nth_some hj
  rw [List.getElem?_eq_getElem (by omega)] at q1 q2
  rw [← Option.some.inj q1, ← Option.some.inj q2]; exact h3
theorem Rise.of {l : List HRef} (h : ∀ i j, i < j → j < l.length → ltS (nth l i).word (nth l j).word = true) : Rise l := by
  refine List.pairwise_iff_getElem.2 fun i j hi hj hij => ?_
  have q1 := nth_some hi
  have q2 := nth_some hj
  rw [List.getElem?_eq_getElem (by omega)] at q1 q2
  rw [Option.some.inj q1, Option.some.inj q2]; exact h i j hij hj
/-- a word that is not there goes in where it belongs -/
theorem Rise.ins {l : List HRef} (hR : Rise l) {w : List UInt8} (ns : List Int) (hne : ¬ (kOf l w < l.length ∧ (nth l (kOf l w)).word = w)) : Rise (insL l (kOf l w) ⟨w, ns⟩) := by
  have hk := kOf_le l w
  obtain ⟨k, hkk⟩ : ∃ k, kOf l w = k := ⟨_, rfl⟩
  have a1 : ∀ j, j < k → ltS (nth l j).word w = true := fun j hj => kOf_lt (by omega)
  have a2 : ∀ j, k ≤ j → j < l.length → ltS w (nth l j).word = true := fun j h1 h2 => by
    have h3 := kOf_ge hR (w := w) (j := j) (by omega) h2
    rcases ltS_tri (nth l j).word w with q | q | q
    · rw [h3] at q; cases q
    · exfalso
      by_cases e : j = k
      · exact hne (by rw [hkk, ← e]; exact ⟨h2, q⟩)
      · have h4 := hR.lt (show k < j by omega) h2
        rw [q, kOf_ge hR (by omega) (by omega)] at h4; cases h4
    · exact q
  rw [hkk] at hk ⊢
  have il := insL_len l k (⟨w, ns⟩ : HRef) hk
  refine Rise.of fun i j hij hj => ?_
  rw [nth_insL _ _ _ hk, nth_insL _ _ _ hk]
  (repeat' split) <;> first
    | (exfalso; omega)
    | exact hR.lt (by omega) (by omega)
    | exact a1 _ (by omega)
    | exact a2 _ (by omega) (by omega)
theorem Rise.set {l : List HRef} (hR : Rise l) {k : Nat} (hk : k < l.length) (ns : List Int) : Rise (l.set k ⟨(nth l k).word, ns⟩) := by
  refine Rise.of fun i j hij hj => ?_
  rw [List.length_set] at hj
  rw [nth_set _ _ _ _ hk, nth_set _ _ _ _ hk]
  (repeat' split) <;> first
    | (exfalso; omega)
    | (rename_i h1 h2; subst h1; exact hR.lt (by omega) (by omega))
    | (rename_i h1 h2; subst h2; exact hR.lt (by omega) (by omega))
    | exact hR.lt (by omega) (by omega)
/-- a number put in by a word, at the end of the word's numbers -/
def putE (l : List HRef) (w : List UInt8) (n : Int) : List HRef := putL l (kOf l w) (nth l (kOf l w)).nodes.length w n
theorem Rise.putE {l : List HRef} (hR : Rise l) (w : List UInt8) (n : Int) : Rise (putE l w n) := by
  unfold Go.Proofs.K.putE putL
  split
  · rename_i h
    have := hR.set h.1 (insL (nth l (kOf l w)).nodes (nth l (kOf l w)).nodes.length n)
    rw [h.2] at this; exact this
  · rename_i h; exact hR.ins [n] h
end Go.Proofs.K
end
section
/- What an index's list holds (plain): each word once, in order, with its nodes. -/
set_option linter.unusedSimpArgs false
set_option linter.unusedVariables false
namespace Go.Proofs.K
open Go Go.Sim Go.Proofs
abbrev Pairs := List (List UInt8 × Int)
/-- the nodes that a word was put by, in order -/
def nodesOf (P : Pairs) (w : List UInt8) : List Int := (P.filter fun x => x.1 == w).map (·.2)
theorem nodesOf_app (P Q : Pairs) (w : List UInt8) : nodesOf (P ++ Q) w = nodesOf P w ++ nodesOf Q w := by
  unfold nodesOf; rw [List.filter_append, List.map_append]
theorem nodesOf_one (v w : List UInt8) (n : Int) : nodesOf [(v, n)] w = if v = w then [n] else [] := by
  unfold nodesOf
  by_cases h : v = w
  · have : ((v, n).1 == w) = true := by simpa using h
    rw [List.filter_cons, if_pos this, if_pos h]; rfl
  · have : ((v, n).1 == w) = false := by simpa using h
    rw [List.filter_cons, this, if_neg h]; rfl
theorem mem_nodesOf {P : Pairs} {w : List UInt8} {n : Int} : n ∈ nodesOf P w ↔ (w, n) ∈ P := by
  unfold nodesOf
  rw [List.mem_map]
  constructor
  · rintro ⟨⟨v, m⟩, h1, rfl⟩
    obtain ⟨h2, h3⟩ := List.mem_filter.1 h1
    have h3 : v = w := by simpa using h3
    rw [← h3]; exact h2
  · exact fun h => ⟨(w, n), List.mem_filter.2 ⟨h, by simp⟩, rfl⟩
structure Spec (L : List HRef) (P : Pairs) : Prop where
  rise : Rise L
  row : ∀ j, j < L.length → (nth L j).nodes = nodesOf P (nth L j).word ∧ nodesOf P (nth L j).word ≠ []
  all : ∀ w, nodesOf P w ≠ [] → ∃ j, j < L.length ∧ (nth L j).word = w
theorem Spec.nil : Spec [] [] := ⟨List.Pairwise.nil, fun j hj => absurd hj (Nat.not_lt_zero j), fun w h => absurd rfl h⟩
theorem insL_end {α : Type} (l : List α) (x : α) : insL l l.length x = l ++ [x] := by
  unfold insL; rw [List.take_length, List.drop_length]
theorem Rise.one {l : List HRef} (hR : Rise l) {i j : Nat} (hi : i < l.length) (hj : j < l.length) (h : (nth l i).word = (nth l j).word) : i = j := by
  rcases Nat.lt_trichotomy i j with q | q | q
  · have := hR.lt q hj; rw [h, ltS_irr] at this; cases this
  · exact q
  · have := hR.lt q hi; rw [h, ltS_irr] at this; cases this
/-- a word that is not at its place is nowhere -/
theorem Rise.none {l : List HRef} (hR : Rise l) {w : List UInt8} (hne : ¬ (kOf l w < l.length ∧ (nth l (kOf l w)).word = w)) : ∀ j, j < l.length → (nth l j).word ≠ w := by
  intro j hj e
  by_cases h1 : j < kOf l w
  · have := kOf_lt h1; rw [e, ltS_irr] at this; cases this
  · by_cases h2 : j = kOf l w
    · exact hne ⟨by omega, by rw [← h2]; exact e⟩
    · have h3 := hR.lt (show kOf l w < j by omega) hj
      rw [e, kOf_ge hR (Nat.le_refl _) (by omega)] at h3; cases h3
theorem Spec.put {L : List HRef} {P : Pairs} (S : Spec L P) (w : List UInt8) (n : Int) : Spec (putE L w n) (P ++ [(w, n)]) := by
  have hR := S.rise.putE w n
  have hk := kOf_le L w
  unfold putE putL at hR ⊢
  by_cases hf : kOf L w < L.length ∧ (nth L (kOf L w)).word = w
  · rw [if_pos hf] at hR ⊢
    obtain ⟨k, hkk⟩ : ∃ k, kOf L w = k := ⟨_, rfl⟩
    rw [hkk] at hf hR ⊢
    rw [insL_end] at hR ⊢
    refine ⟨hR, fun j hj => ?_, fun v hv => ?_⟩
    · rw [List.length_set] at hj
      rw [nth_set _ _ _ _ hf.1, nodesOf_app, nodesOf_one]
      split
      · rename_i e
        have h1 := (S.row k hf.1).1
        rw [hf.2] at h1
        simp only [if_true]
        rw [h1]
        exact ⟨rfl, by simp⟩
      · rename_i e
        have h2 : w ≠ (nth L j).word := fun h => e (S.rise.one hj hf.1 (by rw [hf.2, h]))
        rw [if_neg h2, List.append_nil]
        exact S.row j hj
    · by_cases e : v = w
      · exact ⟨k, by rw [List.length_set]; exact hf.1, by rw [nth_set _ _ _ _ hf.1, if_pos rfl]; exact e.symm⟩
      · rw [nodesOf_app, nodesOf_one, if_neg (fun h => e h.symm), List.append_nil] at hv
        obtain ⟨j, hj, hw⟩ := S.all v hv
        refine ⟨j, by rw [List.length_set]; exact hj, ?_⟩
        rw [nth_set _ _ _ _ hf.1, if_neg (fun h => e (by rw [← hw, h, hf.2]))]; exact hw
  · rw [if_neg hf] at hR ⊢
    have hno := S.rise.none hf
    have h0 : nodesOf P w = [] := Classical.byContradiction fun h => by
      obtain ⟨j, hj, hw⟩ := S.all w h
      exact hno j hj hw
    obtain ⟨k, hkk⟩ : ∃ k, kOf L w = k := ⟨_, rfl⟩
    rw [hkk] at hk hR ⊢
    have il := insL_len L k ⟨w, [n]⟩ hk
    refine ⟨hR, fun j hj => ?_, fun v hv => ?_⟩
    · rw [il] at hj
      have old : ∀ i, i < L.length → (nth L i).nodes = nodesOf (P ++ [(w, n)]) (nth L i).word ∧ nodesOf (P ++ [(w, n)]) (nth L i).word ≠ [] := fun i hi => by
        rw [nodesOf_app, nodesOf_one, if_neg (fun h => hno i hi h.symm), List.append_nil]; exact S.row i hi
      rw [nth_insL _ _ _ hk]
      split
      · exact old j (by omega)
      · split
        · rw [nodesOf_app, nodesOf_one, if_pos rfl]
          exact ⟨by rw [h0]; rfl, by simp⟩
        · exact old (j - 1) (by omega)
    · by_cases e : v = w
      · exact ⟨k, by omega, by rw [nth_insL _ _ _ hk, if_neg (by omega), if_pos rfl]; exact e.symm⟩
      · rw [nodesOf_app, nodesOf_one, if_neg (fun h => e h.symm), List.append_nil] at hv
        obtain ⟨j, hj, hw⟩ := S.all v hv
        by_cases h1 : j < k
        · exact ⟨j, by omega, by rw [nth_insL _ _ _ hk, if_pos h1]; exact hw⟩
        · exact ⟨j + 1, by omega, by rw [nth_insL _ _ _ hk, if_neg (by omega), if_neg (by omega), Nat.add_sub_cancel]; exact hw⟩
/-- all pairs put in, one by one -/
def idxL (P : Pairs) : List HRef := P.foldl (fun L x => putE L x.1 x.2) []
theorem idxL_snoc (P : Pairs) (w : List UInt8) (n : Int) : idxL (P ++ [(w, n)]) = putE (idxL P) w n := by
  unfold idxL; rw [List.foldl_append]; rfl
theorem idxL_is : ∀ P : Pairs, Spec (idxL P) P := fun P => by
  suffices h : ∀ (Q P : Pairs) (L : List HRef), Spec L P → Spec (Q.foldl (fun L x => putE L x.1 x.2) L) (P ++ Q) by
    have := h P [] [] .nil; exact this
  intro Q
  induction Q with
  | nil => intro P L S; rw [List.append_nil]; exact S
  | cons x r ih =>
    intro P L S
    have := ih (P ++ [x]) _ (S.put x.1 x.2)
    rw [List.append_assoc] at this; exact this
theorem putE_len (L : List HRef) (w : List UInt8) (n : Int) : (putE L w n).length ≤ L.length + 1 := by
  unfold putE putL
  split
  · rw [List.length_set]; omega
  · rw [insL_len _ _ _ (kOf_le L w)]; omega
theorem idxL_len (P : Pairs) : (idxL P).length ≤ P.length := by
  suffices h : ∀ (Q : Pairs) (L : List HRef), (Q.foldl (fun L x => putE L x.1 x.2) L).length ≤ L.length + Q.length by
    have := h P []; simpa [idxL] using this
  intro Q
  induction Q with
  | nil => intro L; exact Nat.le_refl _
  | cons x r ih =>
    intro L
    have h1 := ih (putE L x.1 x.2)
    have h2 := putE_len L x.1 x.2
    simp only [List.foldl_cons, List.length_cons] at h1 ⊢; omega
theorem nodesOf_len (P : Pairs) (w : List UInt8) : (nodesOf P w).length ≤ P.length := by
  unfold nodesOf; rw [List.length_map]; exact List.length_filter_le _ _
/-- what put asks of a list that stands so, when the next number ranks above -/
theorem Spec.rank {L : List HRef} {P : Pairs} (S : Spec L P) {w : List UInt8} {n : Int} {rk : Int → Int} (hP : P.length ≤ 99999) (hr : ∀ m, (w, m) ∈ P → rk m < rk n) (hk : kOf L w < L.length) (hw : (nth L (kOf L w)).word = w) :
    (nth L (kOf L w)).nodes.length ≤ 99999 ∧ (nth L (kOf L w)).nodes.length ≤ (nth L (kOf L w)).nodes.length ∧ (∀ j, j < (nth L (kOf L w)).nodes.length → rk (nth (nth L (kOf L w)).nodes j) < rk n) ∧
      ∀ j, (nth L (kOf L w)).nodes.length ≤ j → j < (nth L (kOf L w)).nodes.length → rk n ≤ rk (nth (nth L (kOf L w)).nodes j) := by
  have h1 := (S.row _ hk).1
  refine ⟨by rw [h1]; exact Nat.le_trans (nodesOf_len _ _) hP, Nat.le_refl _, fun j hj => hr _ ?_, fun j h2 h3 => absurd h3 (by omega)⟩
  have h2 := nth_mem' hj
  rw [h1, hw] at h2
  rw [h1, hw]; exact mem_nodesOf.1 h2
end Go.Proofs.K
end
section
/- The index's turn: a node put in by all its words. -/
set_option linter.unusedSimpArgs false
set_option linter.unusedVariables false
namespace Go.Proofs.K
open Go Go.Sim Go.Proofs Go.Shelf
variable {G : Glob}
/-- the keeper, with what its four lists were given -/
def KX (h0 h : Heap) (rk rM : Nat) (es : List (Int × Int)) (Q : Nat → Pairs) : Prop := ∃ As Ls nvs Fs, KS h0 h rk rM es As Ls nvs Fs ∧ ∀ c, c < 4 → nth Ls c = idxL (Q c)
theorem KX.congr {h0 h : Heap} {rk rM : Nat} {es : List (Int × Int)} {Q Q' : Nat → Pairs} (X : KX h0 h rk rM es Q) (hq : ∀ c, c < 4 → Q c = Q' c) : KX h0 h rk rM es Q' := by
  obtain ⟨As, Ls, nvs, Fs, S, hQ⟩ := X
  exact ⟨As, Ls, nvs, Fs, S, fun c hc => by rw [hQ c hc, hq c hc]⟩
theorem KX.sub {h0 h : Heap} {rk rM : Nat} {es : List (Int × Int)} {Q : Nat → Pairs} (X : KX h0 h rk rM es Q) : Sim.Sub h0 h := by
  obtain ⟨As, Ls, nvs, Fs, S, hQ⟩ := X
  exact S.sub
theorem putK_ok {h0 h : Heap} {rk rM : Nat} {es : List (Int × Int)} {Q : Nat → Pairs} (X : KX h0 h rk rM es Q) {c : Nat} (hc : c < 4) (hl : (Q c).length ≤ 99999) {w : List UInt8} {n : Int} (hr : ∀ m, (w, m) ∈ Q c → rkI es m < rkI es n) :
    DCalls (Pg G) 36 [.vp rk 0, .vp rk c, .str w, aInt n] h fun _ h' => KX h0 h' rk rM es fun d => if d = c then Q c ++ [(w, n)] else Q d := by
  obtain ⟨As, Ls, nvs, Fs, S, hQ⟩ := X
  obtain ⟨a, ha, R⟩ := S.ref c hc
  have I := idxL_is (Q c)
  have hL := hQ c hc
  rw [hL] at R
  have hll := idxL_len (Q c)
  refine (put_ok (G := G) (w := w) (n := n) S.kp S.len hc ha S.mp R (fun h => (S.dom c rk hc h).2.2.1 rfl) (fun h => (S.dom c rM hc h).2.2.2 rfl) (by omega) (kOf_le _ w) (fun j hj => kOf_lt hj) (fun j h1 h2 => kOf_ge I.rise h1 h2) (I.rank hl hr)).mono fun r h' hp => ?_
  obtain ⟨a', nv', F', p1, p2, p3, p4⟩ := hp
  refine ⟨_, _, _, _, S.put hc p1 p2 p3 p4, fun d hd => ?_⟩
  rw [nth_set _ _ _ _ (by rw [S.llen]; exact hc)]
  by_cases e : d = c
  · rw [if_pos e]; simp only [if_pos e]; rw [idxL_snoc]; rfl
  · rw [if_neg e]; simp only [if_neg e]; exact hQ d hd
/-- a node's words, with its number -/
def prs (W : List (List UInt8)) (n : Int) : Pairs := W.map fun w => (w, n)
def addQ (Q : Nat → Pairs) (W : List (List (List UInt8))) (n : Int) (c k d : Nat) : Pairs := Q d ++ if d < c then prs (nth W d) n else if d = c then prs ((nth W d).take k) n else []
def newQ (Q : Nat → Pairs) (W : List (List (List UInt8))) (n : Int) (d : Nat) : Pairs := Q d ++ prs (nth W d) n
theorem prs_len (W : List (List UInt8)) (n : Int) : (prs W n).length = W.length := by unfold prs; rw [List.length_map]
theorem mem_prs {W : List (List UInt8)} {n m : Int} {w : List UInt8} (h : (w, m) ∈ prs W n) : w ∈ W ∧ m = n := by
  obtain ⟨v, hv, e⟩ := List.mem_map.1 h
  cases e; exact ⟨hv, rfl⟩
/-- what is asked of a node's words -/
structure WOK (W : List (List (List UInt8))) : Prop where
  len : W.length = 4
  nd : ∀ c, c < 4 → (nth W c).Nodup
  le : ∀ c, c < 4 → (nth W c).length ≤ 420
instance : LenE eWs 1 := ⟨fun _ => rfl⟩
def c35 : SFun := ⟨(.seq (.reg [⟨(some 5), (.boxF 53 6 (.t 1)), none⟩]) (.seq (.reg [⟨(some 13), (.ld 6 true (.t 5)), none⟩, ⟨(some 14), (.pcall 46 [(.t 13)]), none⟩, ⟨(some 8), (.mv (.t 14)), none⟩]) (.seq (.reg [⟨(some 15), (.mv (.t 0)), none⟩, ⟨(some 16), (.fldA 0 (.t 15)), none⟩, ⟨(some 17), (.fldA 0 (.t 16)), none⟩, ⟨(some 18), (.call (.c (.fn 47 [] [])) [(.t 17)]), none⟩, ⟨(some 19), (.len (.t 18)), none⟩, ⟨(some 20), (.mv (.c (.int .i64 (0)))), none⟩]) (.block 0 (.loop (.seq (.reg [⟨(some 21), (.bin .lss (.t 20) (.t 19)), none⟩]) (.seq (.cond (.t 21) .skip (.exit 0)) (.seq (.block 1 (.seq (.reg [⟨(some 22), (.mv (.t 20)), none⟩, ⟨(some 23), (.idxA 1 (.t 18) (.t 20)), none⟩, ⟨(some 24), (.ld 1 false (.t 23)), none⟩, ⟨(some 9), (.mv (.t 22)), none⟩, ⟨(some 10), (.mv (.t 24)), none⟩]) (.seq (.reg [⟨(some 25), (.mv (.t 8)), none⟩, ⟨(some 26), (.mv (.t 9)), none⟩, ⟨(some 27), (.idxA 1 (.t 25) (.t 26)), none⟩, ⟨(some 28), (.ld 1 false (.t 27)), none⟩, ⟨(some 29), (.len (.t 28)), none⟩, ⟨(some 30), (.mv (.c (.int .i64 (0)))), none⟩]) (.block 2 (.loop (.seq (.reg [⟨(some 31), (.bin .lss (.t 30) (.t 29)), none⟩]) (.seq (.cond (.t 31) .skip (.exit 2)) (.seq (.block 3 (.seq (.reg [⟨(some 32), (.idxA 1 (.t 28) (.t 30)), none⟩, ⟨(some 33), (.ld 1 false (.t 32)), none⟩, ⟨(some 12), (.mv (.t 33)), none⟩]) (.reg [⟨(some 34), (.mv (.t 3)), none⟩, ⟨(some 35), (.mv (.t 10)), none⟩, ⟨(some 36), (.mv (.t 12)), none⟩, ⟨(some 37), (.mv (.t 2)), none⟩, ⟨(some 38), (.call (.t 34) [(.t 35), (.t 36), (.t 37)]), none⟩]))) (.reg [⟨(some 39), (.bin .add (.t 30) (.c (.int .i64 (1)))), none⟩, ⟨(some 30), (.mv (.t 39)), none⟩]))))))))) (.reg [⟨(some 40), (.bin .add (.t 20) (.c (.int .i64 (1)))), none⟩, ⟨(some 20), (.mv (.t 40)), none⟩]))))))))), []⟩
theorem hc35 : toSF Tryd.prog {pure := [46]} Tryd.f35 = some c35 := by kernel_rfl
theorem hn35 : (Tryd.f35.name == "runtime.NumGoroutine") = false := by kernel_rfl
set_option maxHeartbeats 1000000 in
theorem turn_ok {h0 h : Heap} {rk rM : Nat} {es : List (Int × Int)} {Q : Nat → Pairs} (X : KX h0 h rk rM es Q) (x : HNode) (hx : NodeSm x) (hs : (attV x.attrs classS).length ≤ 1000000) (hW : WOK (words4 x)) (n : Int)
    (hl : ∀ c, c < 4 → (Q c).length ≤ 90000) (hr : ∀ c, c < 4 → ∀ v m, (v, m) ∈ Q c → rkI es m < rkI es n) :
    DCalls (Pg G) 35 [.vp rk 0, .agg (eNode x), aInt n, .fn 36 [.vp rk 0] []] h fun _ h' => KX h0 h' rk rM es (newQ Q (words4 x) n) := by
  have cW := words4_ok (G := G) x hx hs
  obtain ⟨W, hWe⟩ : ∃ W, words4 x = W := ⟨_, rfl⟩
  rw [hWe] at cW hW ⊢
  refine dcalls_of_vc Tryd.func35 hn35 hc35 (by rw [Tryd.ntmps35]; simp) (by rw [Tryd.ntmps35]; decide) ?_
  have l6 : (eNode x).length = 6 := rfl
  have t6 : List.take 6 (eNode x) = eNode x := rfl
  have hd6 : (6 : Nat) ≤ 6 := Nat.le_refl 6
  simp -dsimp -implicitDefEqProofs (disch := omega) only [VCA, Nat.reduceEqDiff, ↓reduceIte, c35, l6, t6]
  repeat' (first | ((with_reducible refine Br.dec (fun _ => ?_) (fun _ => ?_)) <;> try (exfalso; omega)) | ((with_reducible refine Br.eq (fun _ => ?_) (fun _ => ?_)) <;> try (exfalso; omega)) | ((with_reducible refine Br.ne (fun _ => ?_) (fun _ => ?_)) <;> try (exfalso; omega)) | ((with_reducible refine brNdec (fun _ => ?_) (fun _ => ?_)) <;> try (exfalso; omega)) | ((with_reducible refine brNeq (fun _ => ?_) (fun _ => ?_)) <;> try (exfalso; omega)) | with_reducible refine Br.intro (fun _ => ?_) (fun _ => ?_) | (with_reducible apply pcallE.of; · exact cW) | (with_reducible refine And.intro ?_ ?_; · omega) | simp -dsimp -implicitDefEqProofs (disch := omega) only [VCA, ↓reduceIte, reduceCtorEq])
  refine DCalls.of lists_ok ?_
  rintro v h1 ⟨rfl, rfl⟩
  simp -dsimp -implicitDefEqProofs (disch := omega) only [VCA, Nat.reduceAdd, ↓reduceIte]
  refine LoopVC.intro (fun m e h' => ∃ c : Nat, c ≤ 4 ∧ m = 4 - c ∧ e 2 = aInt n ∧ e 3 = .fn 36 [.vp rk 0] [] ∧ e 8 = sl eWs W ∧ e 18 = .slc [[.vp rk 0], [.vp rk 1], [.vp rk 2], [.vp rk 3]] ∧ e 19 = aInt 4 ∧ e 20 = aInt c ∧ KX h0 h' rk rM es (addQ Q W n c 0)) 4 ⟨0, by omega, by omega, rfl, rfl, rfl, rfl, rfl, rfl, X.congr fun d hd => by unfold addQ; by_cases e : d = 0 <;> simp [e, prs]⟩ ?_
  rintro m e h' ⟨c, hc, rfl, e2, e3, e8, e18, e19, e20, Y⟩
  simp -dsimp -implicitDefEqProofs (disch := omega) only [VCA, ↓reduceIte, e19, e20]
  refine Br.dec (fun hlt => ?_) (fun hge => ?_)
  · have hc4 : c < 4 := by omega
    have hcell : ([[.vp rk 0], [.vp rk 1], [.vp rk 2], [.vp rk 3]] : List (List AVal)).getD c [] = [.vp rk c] := by
      rcases (show c = 0 ∨ c = 1 ∨ c = 2 ∨ c = 3 by omega) with rfl | rfl | rfl | rfl <;> rfl
    have hWl := hW.len
    have hwl := hW.le c hc4
    have hnd := hW.nd c hc4
    obtain ⟨V, hV⟩ : ∃ V, nth W c = V := ⟨_, rfl⟩
    rw [hV] at hwl hnd
    have hq0 := hl c hc4
    simp -dsimp -implicitDefEqProofs (disch := omega) only [VCA, Nat.reduceEqDiff, Nat.reduceAdd, ↓reduceIte, eWs, e8, e18, e20, hcell, eWs, hV]
    refine ⟨⟨by omega, by omega⟩, by omega, ?_⟩
    refine LoopVC.intro (fun m e1 h2 => ∃ k : Nat, k ≤ V.length ∧ m = V.length - k ∧ e1 2 = aInt n ∧ e1 3 = .fn 36 [.vp rk 0] [] ∧ e1 8 = sl eWs W ∧ e1 18 = .slc [[.vp rk 0], [.vp rk 1], [.vp rk 2], [.vp rk 3]] ∧ e1 19 = aInt 4 ∧ e1 20 = aInt c ∧ e1 10 = .vp rk c ∧ e1 28 = sl eStr V ∧ e1 29 = aInt V.length ∧ e1 30 = aInt k ∧ KX h0 h2 rk rM es (addQ Q W n c k)) V.length
      (by exact ⟨0, by omega, by omega, e2, e3, e8, e18, e19, e20, rfl, rfl, rfl, rfl, Y⟩) ?_
    rintro m e1 h2 ⟨k, hk, rfl, f2, f3, f8, f18, f19, f20, f10, f28, f29, f30, Z⟩
    simp -dsimp -implicitDefEqProofs (disch := omega) only [VCA, ↓reduceIte, f29, f30]
    refine Br.dec (fun hlt2 => ?_) (fun hge2 => ?_)
    · have hk' : k < V.length := by omega
      have hx : ∀ d, d < c → nth W d = nth W d := fun _ _ => rfl
      have hqc : addQ Q W n c k c = Q c ++ prs (V.take k) n := by unfold addQ; rw [if_neg (Nat.lt_irrefl c), if_pos rfl, hV]
      have hlq : (addQ Q W n c k c).length ≤ 99999 := by
        rw [hqc, List.length_append, prs_len, List.length_take]; omega
      have hrq : ∀ m, (nth V k, m) ∈ addQ Q W n c k c → rkI es m < rkI es n := fun m hm => by
        rw [hqc] at hm
        rcases List.mem_append.1 hm with hm | hm
        · exact hr c hc4 _ m hm
        · exfalso
          obtain ⟨j, hj, he⟩ := mem_nth (mem_prs hm).1
          rw [List.length_take] at hj
          have e1 : nth (V.take k) j = nth V j := by
            unfold nth
            rw [List.getD_eq_getElem?_getD, List.getD_eq_getElem?_getD, List.getElem?_take, if_pos (by omega)]
          rw [e1] at he
          have h3 := List.pairwise_iff_getElem.1 (List.nodup_iff_pairwise_ne.1 hnd) j k (by omega) hk' (by omega)
          have q1 := nth_some (show j < V.length by omega)
          have q2 := nth_some hk'
          rw [List.getElem?_eq_getElem (by omega)] at q1 q2
          exact h3 (by rw [Option.some.inj q1, Option.some.inj q2]; exact he)
      have hP := putK_ok (G := G) Z hc4 hlq hrq
      simp -dsimp -implicitDefEqProofs (disch := omega) only [VCA, Nat.reduceEqDiff, ↓reduceIte, eStr, f2, f3, f10, f28, f30]
      refine ⟨⟨by omega, by omega⟩, DCalls.of hP ?_⟩
      intro v h3 Z3
      simp -dsimp -implicitDefEqProofs (disch := omega) only [VCA, Nat.reduceEqDiff, ↓reduceIte, f2, f3, f10, f28, f29, f30]
      refine ⟨_, by omega, k + 1, by omega, rfl, f8, f18, f19, f20, by first | rfl | (congr 1) | omega, Z3.congr fun d hd => ?_⟩
      by_cases e : d = c
      · subst e
        rw [if_pos rfl, hqc]
        unfold addQ
        rw [if_neg (Nat.lt_irrefl d), if_pos rfl, hV, take_snoc hk']
        unfold prs
        rw [List.map_append, List.append_assoc]; rfl
      · rw [if_neg e]
        unfold addQ
        by_cases e2 : d < c
        · rw [if_pos e2, if_pos e2]
        · rw [if_neg e2, if_neg e2, if_neg e, if_neg e]
    · obtain rfl : k = V.length := by omega
      simp -dsimp -implicitDefEqProofs (disch := omega) only [VCA, Nat.reduceEqDiff, ↓reduceIte, f20]
      refine ⟨_, by omega, c + 1, by omega, rfl, f2, f3, f8, f18, f19, by first | rfl | (congr 1) | omega, Z.congr fun d hd => ?_⟩
      unfold addQ
      by_cases e : d < c
      · rw [if_pos e, if_pos (by omega)]
      · by_cases e2 : d = c
        · subst e2
          rw [if_neg e, if_pos rfl, if_pos (by omega), hV, List.take_length]
        · rw [if_neg e, if_neg e2, if_neg (by omega)]
          by_cases e3 : d = c + 1
          · rw [if_pos e3, List.take_zero]; rfl
          · rw [if_neg e3]
  · obtain rfl : c = 4 := by omega
    simp -dsimp -implicitDefEqProofs (disch := omega) only [VCA, Nat.reduceSub, ↓reduceIte]
    exact ⟨_, Sub.refl _, Y.congr fun d hd => by unfold addQ newQ; rw [if_pos hd]⟩
end Go.Proofs.K
end
