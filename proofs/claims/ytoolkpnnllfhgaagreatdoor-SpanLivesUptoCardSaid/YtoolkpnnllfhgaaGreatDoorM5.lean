/- Texts of this claim, one behind the other. -/
import Derived.Test.YtoolkpnnllfhgaaGreatDoorM4
import Derived.Test.YtoolkpnnllfhgaaGreatDoorM3
section
/- Edits of documents: what they do, and what is wrong with them: plain law. -/
set_option linter.unusedSimpArgs false
set_option linter.unusedVariables false
namespace Go.Proofs.K
open Go Go.Sim Go.Proofs
structure HEdit where
  do' : Int
  at' : Int
  to : Int
  before : Int
  name : List UInt8
  value : List UInt8
  node : HNode
deriving DecidableEq, Inhabited
def eEdit (e : HEdit) : List AVal := [aInt e.do', aInt e.at', aInt e.to, aInt e.before, .str e.name, .str e.value, aInt e.node.kind, .str e.node.name, sl eAttr e.node.attrs, .str e.node.text, aInt e.node.parent, sl eInt e.node.kids]
instance : LenE eEdit 12 := ⟨fun _ => rfl⟩
def eE0 (e : HEdit) : List AVal := [aInt e.do', aInt e.at', aInt e.to, aInt e.before, .str e.name, .str e.value, aInt e.node.kind, .str e.node.name, .emp, .str e.node.text, aInt e.node.parent, .emp]
def bareE (e : HEdit) : Prop := e.node.attrs = [] ∧ e.node.kids = []
theorem eE0_wk {e : HEdit} (h : bareE e) : F2 Wk (eE0 e) (eEdit e) := by
  unfold eE0 eEdit
  rw [h.1, h.2]
  exact .cons (.refl _) (.cons (.refl _) (.cons (.refl _) (.cons (.refl _) (.cons (.refl _) (.cons (.refl _) (.cons (.refl _) (.cons (.refl _) (.cons .emp (.cons (.refl _) (.cons (.refl _) (.cons .emp .nil)))))))))))
theorem eE0_wks {l : List HEdit} (h : ∀ e ∈ l, bareE e) : F2 (F2 Wk) (l.map eE0) (l.map eEdit) := by
  induction l with
  | nil => exact .nil
  | cons e l ih => exact .cons (eE0_wk (h e List.mem_cons_self)) (ih fun x hx => h x (List.mem_cons_of_mem _ hx))
structure EditSm (e : HEdit) : Prop where
  name : e.name.length ≤ 1073741824
  value : e.value.length ≤ 1073741824
  node : NodeSm e.node
/-! ## attributes -/
def setAttr (l : List HAttr) (name value : List UInt8) : List HAttr := if 0 ≤ attrAt l name then l.set (attrAt l name).toNat ⟨name, value⟩ else l ++ [⟨name, value⟩]
def dropAttr (l : List HAttr) (name : List UInt8) : List HAttr := l.take (attrAt l name).toNat ++ l.drop ((attrAt l name).toNat + 1)
theorem attrAt_mem (l : List HAttr) (name : List UInt8) : 0 ≤ attrAt l name ↔ name ∈ l.map (·.name) := by
  have := idxM_any (fun a : HAttr => a.name == name) l
  unfold attrAt
  rw [← decide_eq_true_iff (p := 0 ≤ idxM (fun a : HAttr => a.name == name) l), this, List.any_eq_true, List.mem_map]
  constructor
  · rintro ⟨a, h1, h2⟩; exact ⟨a, h1, by simpa using h2⟩
  · rintro ⟨a, h1, h2⟩; exact ⟨a, h1, by simpa using h2⟩
theorem attrAt_spec (l : List HAttr) (name : List UInt8) (h : 0 ≤ attrAt l name) : (attrAt l name).toNat < l.length ∧ (nth l (attrAt l name).toNat).name = name ∧ ((attrAt l name).toNat : Int) = attrAt l name := by
  unfold attrAt idxM at *
  cases hf : l.findIdx? (fun a : HAttr => a.name == name) with
  | none => rw [hf] at h; simp at h
  | some i =>
    simp only [hf] at h ⊢
    rw [List.findIdx?_eq_some_iff_getElem] at hf
    obtain ⟨h1, h2, _⟩ := hf
    refine ⟨by simpa using h1, ?_, by simp⟩
    have : nth l i = l[i] := by unfold nth; rw [List.getD_eq_getElem?_getD, List.getElem?_eq_getElem h1]; rfl
    show (nth l ((i : Int)).toNat).name = name
    rw [show ((i : Int)).toNat = i by simp, this]
    simpa using h2
theorem attrsE_iff (l : List HAttr) : attrsE l = 0 ↔ l.length ≤ 12 ∧ (∀ a ∈ l, nameOK false a.name = true ∧ a.value.length ≤ 400) ∧ (l.map (·.name)).Nodup := by
  have key : ∀ i, i < l.length → (attrE l i = 0 ↔ nameOK false (nth l i).name = true ∧ (nth l i).value.length ≤ 400 ∧ nth (l.map (·.name)) i ∉ (l.map (·.name)).take i) := fun i hi => by
    have hn : nth (l.map (·.name)) i = (nth l i).name := by
      unfold nth; rw [List.getD_eq_getElem?_getD, List.getD_eq_getElem?_getD, List.getElem?_map, List.getElem?_eq_getElem hi]; rfl
    have hm := attrAt_mem (l.take i) (nth l i).name
    rw [List.map_take] at hm
    rw [hn, ← hm]
    unfold attrE
    constructor
    · intro h
      split at h
      · omega
      · rename_i h1
        split at h
        · omega
        · rename_i h2
          split at h
          · omega
          · rename_i h3
            exact ⟨by simpa using h1, by omega, h3⟩
    · rintro ⟨h1, h2, h3⟩
      rw [if_neg (by simp [h1]), if_neg (by omega), if_neg h3]
  unfold attrsE
  constructor
  · intro h
    split at h
    · omega
    · rename_i hl
      have h := fe_zero h
      refine ⟨by omega, fun a ha => ?_, nodup_of_take fun k hk => ?_⟩
      · obtain ⟨k, hk, rfl⟩ := mem_nth ha
        have := (key k hk).1 (h k hk)
        exact ⟨this.1, this.2.1⟩
      · rw [List.length_map] at hk
        exact ((key k hk).1 (h k hk)).2.2
  · rintro ⟨h1, h2, h3⟩
    rw [if_neg (by omega)]
    refine fe_none fun k hk => (key k hk).2 ⟨(h2 _ (nth_mem' hk)).1, (h2 _ (nth_mem' hk)).2, take_of_nodup h3 (by rw [List.length_map]; exact hk)⟩
theorem nodeE_iff (x : HNode) : nodeE x = 0 ↔ (1 ≤ x.kind ∧ x.kind ≤ 5) ∧ bareM x = true ∧ (x.kind = 2 → nameOK true x.name = true) ∧ attrsE x.attrs = 0 ∧ x.text.length ≤ 400 ∧ x.name.length ≤ 400 := by
  unfold nodeE
  constructor
  · intro h
    split at h
    · omega
    · rename_i h1
      simp only [not_or] at h1
      split at h
      · omega
      · rename_i h2
        split at h
        · rename_i h3; exact absurd h h3
        · rename_i h3
          split at h
          · omega
          · rename_i h4
            refine ⟨by omega, by simpa using h1.2.2, fun h5 => ?_, by simpa using h3, by omega, by omega⟩
            cases hn : nameOK true x.name with
            | true => rfl
            | false => exact absurd ⟨h5, hn⟩ h2
  · rintro ⟨h1, h2, h3, h4, h5, h6⟩
    rw [if_neg (by rw [h2]; simp; omega), if_neg (by rintro ⟨h7, h8⟩; rw [h3 h7] at h8; cases h8), if_neg (by simpa using h4), if_neg (by omega)]
theorem map_set_name {l : List HAttr} {i : Nat} {a : HAttr} (hi : i < l.length) (hn : (nth l i).name = a.name) : (l.set i a).map (·.name) = l.map (·.name) := by
  apply List.ext_getElem?
  intro j
  rw [List.getElem?_map, List.getElem?_map, List.getElem?_set]
  by_cases h : i = j
  · subst h
    have : nth l i = l[i] := by unfold nth; rw [List.getD_eq_getElem?_getD, List.getElem?_eq_getElem hi]; rfl
    rw [if_pos rfl, if_pos hi, List.getElem?_eq_getElem hi, Option.map_some, Option.map_some, ← this, hn]
  · rw [if_neg h]
theorem setAttr_ok {l : List HAttr} {name value : List UInt8} (hl : attrsE l = 0) (hn : nameOK false name = true) : attrsE (setAttr l name value) = 0 ↔ value.length ≤ 400 ∧ (¬ 0 ≤ attrAt l name → l.length < 12) := by
  rw [attrsE_iff] at hl
  obtain ⟨h1, h2, h3⟩ := hl
  rw [attrsE_iff]
  unfold setAttr
  by_cases h0 : 0 ≤ attrAt l name
  · rw [if_pos h0]
    obtain ⟨g1, g2, g3⟩ := attrAt_spec l name h0
    rw [List.length_set, map_set_name g1 (by rw [g2])]
    constructor
    · rintro ⟨_, q, _⟩
      have hm : (⟨name, value⟩ : HAttr) ∈ l.set (attrAt l name).toNat ⟨name, value⟩ := List.mem_of_getElem? (i := (attrAt l name).toNat) (by rw [List.getElem?_set]; simp [g1])
      exact ⟨(q _ hm).2, fun h => absurd h0 h⟩
    · rintro ⟨q, _⟩
      refine ⟨h1, fun a ha => ?_, h3⟩
      rcases List.mem_or_eq_of_mem_set ha with ha | rfl
      · exact h2 a ha
      · exact ⟨hn, q⟩
  · rw [if_neg h0, List.length_append, List.map_append]
    have hnm : name ∉ l.map (·.name) := fun h => h0 ((attrAt_mem l name).2 h)
    constructor
    · rintro ⟨q1, q2, _⟩
      have := (q2 ⟨name, value⟩ (by simp)).2
      simp only [List.length_singleton] at q1
      exact ⟨this, fun _ => by omega⟩
    · rintro ⟨q1, q2⟩
      have := q2 h0
      refine ⟨by simp; omega, fun a ha => ?_, ?_⟩
      · rcases List.mem_append.1 ha with ha | ha
        · exact h2 a ha
        · simp only [List.mem_singleton] at ha; subst ha; exact ⟨hn, q1⟩
      · rw [List.nodup_append]
        refine ⟨h3, by simp, fun x hx y hy hxy => ?_⟩
        simp only [List.map_cons, List.map_nil, List.mem_singleton] at hy
        subst hy; subst hxy
        exact hnm hx
theorem dropAttr_ok {l : List HAttr} {name : List UInt8} (hl : attrsE l = 0) (h0 : 0 ≤ attrAt l name) : attrsE (dropAttr l name) = 0 := by
  rw [attrsE_iff] at hl ⊢
  obtain ⟨h1, h2, h3⟩ := hl
  have hs : ∀ i, (l.take i ++ l.drop (i + 1)).Sublist l := fun i => by
    conv => rhs; rw [← List.take_append_drop i l]
    refine List.Sublist.append (List.Sublist.refl _) ?_
    rw [show l.drop (i + 1) = (l.drop i).drop 1 by rw [List.drop_drop]]
    exact List.drop_sublist _ _
  unfold dropAttr
  have h := hs (attrAt l name).toNat
  exact ⟨Nat.le_trans h.length_le h1, fun a ha => h2 a (h.subset ha), (h3.sublist (h.map _))⟩
/-- the reference's way -/
theorem setAttr_map {l : List HAttr} {name value : List UInt8} (h3 : (l.map (·.name)).Nodup) : setAttr l name value = (l.map fun a => if a.name = name then ⟨a.name, value⟩ else a) ++ (if 0 ≤ attrAt l name then [] else [⟨name, value⟩]) := by
  unfold setAttr
  by_cases h0 : 0 ≤ attrAt l name
  · rw [if_pos h0, if_pos h0, List.append_nil]
    obtain ⟨g1, g2, g3⟩ := attrAt_spec l name h0
    generalize (attrAt l name).toNat = i at *
    apply List.ext_getElem?
    intro j
    rw [List.getElem?_set, List.getElem?_map]
    by_cases h : i = j
    · subst h
      have e : nth l i = l[i] := by unfold nth; rw [List.getD_eq_getElem?_getD, List.getElem?_eq_getElem g1]; rfl
      rw [if_pos rfl, if_pos g1, List.getElem?_eq_getElem g1, Option.map_some, ← e, if_pos g2, g2]
    · rw [if_neg h]
      by_cases hj : j < l.length
      · rw [List.getElem?_eq_getElem hj, Option.map_some, if_neg]
        intro e
        refine h ?_
        have e1 : nth l i = l[i] := by unfold nth; rw [List.getD_eq_getElem?_getD, List.getElem?_eq_getElem g1]; rfl
        rw [List.Nodup, List.pairwise_iff_getElem] at h3
        rcases Nat.lt_trichotomy i j with hij | hij | hij
        · exact absurd (by rw [List.getElem_map, List.getElem_map, e, ← e1, g2]) (h3 i j (by simpa using g1) (by simpa using hj) hij)
        · exact hij
        · exact absurd (by rw [List.getElem_map, List.getElem_map, e, ← e1, g2]) (h3 j i (by simpa using hj) (by simpa using g1) hij)
      · rw [List.getElem?_eq_none (by omega)]; rfl
  · rw [if_neg h0, if_neg h0]
    congr 1
    have : ∀ a ∈ l, a.name ≠ name := fun a ha e => h0 ((attrAt_mem l name).2 (List.mem_map.2 ⟨a, ha, e⟩))
    conv => lhs; rw [← List.map_id l]
    refine List.map_congr_left fun a ha => ?_
    rw [if_neg (this a ha)]; rfl
theorem dropAttr_filter {l : List HAttr} {name : List UInt8} (h3 : (l.map (·.name)).Nodup) (h0 : 0 ≤ attrAt l name) : dropAttr l name = l.filter fun a => decide (a.name ≠ name) := by
  obtain ⟨g1, g2, g3⟩ := attrAt_spec l name h0
  unfold dropAttr
  generalize (attrAt l name).toNat = i at *
  have e : l = l.take i ++ nth l i :: l.drop (i + 1) := by
    have : nth l i = l[i] := by unfold nth; rw [List.getD_eq_getElem?_getD, List.getElem?_eq_getElem g1]; rfl
    rw [this, List.getElem_cons_drop, List.take_append_drop]
  generalize nth l i = y at *
  generalize l.take i = A at *
  generalize l.drop (i + 1) = B at *
  subst e
  rw [List.map_append, List.map_cons, List.nodup_append, List.nodup_cons] at h3
  obtain ⟨_, ⟨k2, _⟩, k4⟩ := h3
  rw [List.filter_append, List.filter_cons_of_neg (by simpa using g2)]
  rw [List.filter_eq_self.2 fun a ha => ?_, List.filter_eq_self.2 fun a ha => ?_]
  · simp only [ne_eq, decide_eq_true_eq]
    intro e
    exact k2 (List.mem_map.2 ⟨a, ha, by rw [e, g2]⟩)
  · simp only [ne_eq, decide_eq_true_eq]
    intro e
    exact k4 a.name (List.mem_map.2 ⟨a, ha, rfl⟩) y.name List.mem_cons_self (by rw [e, g2])
/-! ## how far what lies below a node goes -/
def lowF : Nat → HDoc → Int → Nat
  | 0, _, _ => 0
  | f + 1, d, n => ((nd d n).kids.map fun k => lowF f d k + 1).foldl max 0
def low (d : HDoc) (n : Int) : Nat := lowF (41 - up d n) d n
theorem foldl_max (l : List Nat) (c : Nat) : ∀ a, l.foldl max a ≤ c ↔ a ≤ c ∧ ∀ x ∈ l, x ≤ c := by
  induction l with
  | nil => intro a; simp
  | cons y l ih =>
    intro a
    rw [List.foldl_cons, ih]
    constructor
    · rintro ⟨h1, h2⟩
      refine ⟨by omega, fun x hx => ?_⟩
      rcases List.mem_cons.1 hx with rfl | hx
      · omega
      · exact h2 x hx
    · rintro ⟨h1, h2⟩
      have := h2 y List.mem_cons_self
      exact ⟨by omega, fun x hx => h2 x (List.mem_cons_of_mem _ hx)⟩
section
variable {d : HDoc}
theorem low_eq (V : DV d) {n : Int} (hn : inD d n) : low d n = ((nd d n).kids.map fun k => low d k + 1).foldl max 0 := by
  have h40 := V.deep n hn
  obtain ⟨f, hf⟩ : ∃ f, 41 - up d n = f + 1 := ⟨40 - up d n, by omega⟩
  have e : low d n = lowF (f + 1) d n := by unfold low; rw [hf]
  rw [e, lowF]
  congr 1
  refine List.map_congr_left fun k hk => ?_
  have hu := V.up_kid hn hk
  show _ = lowF (41 - up d k) d k + 1
  rw [show 41 - up d k = f by omega]
theorem low_le (V : DV d) : ∀ n, inD d n → ∀ c, low d n ≤ c ↔ ∀ m ∈ below d n, up d m ≤ up d n + c := V.down fun n hn ih c => by
  rw [low_eq V hn, foldl_max, below_eq V hn]
  constructor
  · rintro ⟨_, h⟩ m hm
    rcases List.mem_cons.1 hm with rfl | hm
    · omega
    · obtain ⟨k, hk, hm⟩ := List.mem_flatMap.1 hm
      have h1 := h _ (List.mem_map.2 ⟨k, hk, rfl⟩)
      have h2 := (ih k hk (c - 1)).1 (by omega) m hm
      have := V.up_kid hn hk
      omega
  · intro h
    refine ⟨by omega, fun x hx => ?_⟩
    obtain ⟨k, hk, rfl⟩ := List.mem_map.1 hx
    have hki := (V.kid n hn k hk).1
    have hu := V.up_kid hn hk
    have h0 := h k (List.mem_cons_of_mem _ (List.mem_flatMap.2 ⟨k, hk, below_self V hki⟩))
    have := (ih k hk (c - 1)).2 fun m hm => by
      have := h m (List.mem_cons_of_mem _ (List.mem_flatMap.2 ⟨k, hk, hm⟩))
      omega
    omega
theorem low_40 (V : DV d) {n : Int} (hn : inD d n) : low d n ≤ 40 := (low_le V n hn 40).2 fun m hm => by have := V.deep m (below_in V n hn m hm); omega
end
/-! ## the edits -/
def insAt (d : HDoc) (e : HEdit) : Nat := if e.before = -1 then (nd d e.at').kids.length else (idxM (· == e.before) (nd d e.at').kids).toNat
def editE (d : HDoc) (e : HEdit) : Int :=
  if e.do' = 1 then (if ¬ inD d e.at' then 5 else if (nd d e.at').kind ≠ 2 then 7 else if nameOK false e.name = false then 3
    else if 400 < e.value.length ∨ (¬ 0 ≤ attrAt (nd d e.at').attrs e.name ∧ (nd d e.at').attrs.length = 12) then 2 else 0)
  else if e.do' = 2 then (if ¬ inD d e.at' then 5 else if (nd d e.at').kind ≠ 2 then 7 else if ¬ 0 ≤ attrAt (nd d e.at').attrs e.name then 5 else 0)
  else if e.do' = 3 then (if ¬ inD d e.at' then 5 else if (nd d e.at').kind ≠ 3 ∧ (nd d e.at').kind ≠ 4 then 7 else if 400 < e.value.length then 2 else 0)
  else if e.do' = 4 then (if e.node.kids ≠ [] then 3 else if e.node.kind = 1 then 7 else if nodeE e.node ≠ 0 then nodeE e.node else if d.nodes.length = 200 then 2 else 0)
  else if e.do' = 5 then (if ¬ inD d e.at' ∨ ¬ inD d e.to then 5
    else if ¬ ((nd d e.at').kind = 1 ∨ (nd d e.at').kind = 2) ∨ (nd d e.to).kind = 1 ∨ ((nd d e.at').kind = 1 ∧ (nd d e.to).kind = 3) then 7
    else if 0 ≤ (nd d e.to).parent then 9 else if e.before ≠ -1 ∧ e.before ∉ (nd d e.at').kids then 5 else if e.to ∈ chain d e.at' then 8
    else if 40 < up d e.at' + 1 + low d e.to then 2 else 0)
  else if e.do' = 6 then (if ¬ inD d e.at' then 5 else if (nd d e.at').kind = 1 then 7 else if ¬ 0 ≤ (nd d e.at').parent then 5 else 0)
  else 1
def madeM (x : HNode) : HNode := ⟨x.kind, x.name, x.attrs, x.text, -1, []⟩
def editD (d : HDoc) (e : HEdit) : HDoc :=
  if e.do' = 1 then setN d e.at' { nd d e.at' with attrs := setAttr (nd d e.at').attrs e.name e.value }
  else if e.do' = 2 then setN d e.at' { nd d e.at' with attrs := dropAttr (nd d e.at').attrs e.name }
  else if e.do' = 3 then setN d e.at' { nd d e.at' with text := e.value }
  else if e.do' = 4 then addN d (madeM e.node)
  else if e.do' = 5 then hung d e.at' e.to (insAt d e)
  else cutN d e.at' (idxM (· == e.at') (nd d (nd d e.at').parent).kids).toNat
def editN (d : HDoc) (e : HEdit) : Int := if e.do' = 4 then d.nodes.length else 0
/-- .. as the reference has it -/
def errR (d : HDoc) (e : HEdit) : Int :=
  if ¬ (1 ≤ e.do' ∧ e.do' ≤ 6) then 1
  else if e.do' = 4 then (if e.node.kids ≠ [] then 3 else if e.node.kind = 1 then 7 else nodeE e.node)
  else if ¬ inD d e.at' ∨ (e.do' = 5 ∧ ¬ inD d e.to) then 5
  else if e.do' = 1 then (if (nd d e.at').kind ≠ 2 then 7 else if nameOK false e.name = false then 3 else 0)
  else if e.do' = 2 then (if (nd d e.at').kind ≠ 2 then 7 else if ¬ 0 ≤ attrAt (nd d e.at').attrs e.name then 5 else 0)
  else if e.do' = 3 then (if (nd d e.at').kind ≠ 3 ∧ (nd d e.at').kind ≠ 4 then 7 else 0)
  else if e.do' = 6 then (if e.at' = 0 then 7 else if (nd d e.at').parent < 0 then 5 else 0)
  else (if 2 < (nd d e.at').kind ∨ e.to = 0 ∨ (e.at' = 0 ∧ (nd d e.to).kind = 3) then 7 else if 0 ≤ (nd d e.to).parent then 9
    else if e.before ≠ -1 ∧ e.before ∉ (nd d e.at').kids then 5 else if e.to ∈ chain d e.at' then 8 else 0)
section
variable {d : HDoc}
theorem editE_errR (V : DV d) (e : HEdit) : (errR d e ≠ 0 → editE d e = errR d e) ∧ (errR d e = 0 → editE d e = 0 ∨ editE d e = 2) := by
  unfold errR editE
  by_cases h1 : e.do' = 1
  · rw [if_neg (by omega), if_neg (by omega), if_pos h1, if_pos h1]
    by_cases ha : inD d e.at'
    · rw [if_neg (show ¬ (¬ inD d e.at' ∨ (e.do' = 5 ∧ ¬ inD d e.to)) by simp [ha]; omega), if_neg (show ¬ ¬ inD d e.at' from fun h => h ha)]
      by_cases hk : (nd d e.at').kind ≠ 2
      · first | (rw [if_pos hk, if_pos hk]; simp; done) | (rw [if_pos hk]; simp)
      · rw [if_neg hk, if_neg hk]
        by_cases hn : nameOK false e.name = false
        · first | (rw [if_pos hn, if_pos hn]; simp; done) | (rw [if_pos hn]; simp)
        · first | (rw [if_neg hn, if_neg hn]; split <;> simp; done) | (rw [if_neg hn]; split <;> simp)
    · rw [if_pos (.inl ha), if_pos ha]; simp
  rw [if_neg (show ¬ e.do' = 1 from h1), if_neg (show ¬ e.do' = 1 from h1)]
  by_cases h2 : e.do' = 2
  · rw [if_neg (by omega), if_neg (by omega), if_pos h2, if_pos h2]
    by_cases ha : inD d e.at'
    · rw [if_neg (show ¬ (¬ inD d e.at' ∨ (e.do' = 5 ∧ ¬ inD d e.to)) by simp [ha]; omega), if_neg (show ¬ ¬ inD d e.at' from fun h => h ha)]
      by_cases hk : (nd d e.at').kind ≠ 2
      · first | (rw [if_pos hk, if_pos hk]; simp; done) | (rw [if_pos hk]; simp)
      · first | (rw [if_neg hk, if_neg hk]; split <;> simp; done) | (rw [if_neg hk]; split <;> simp)
    · rw [if_pos (.inl ha), if_pos ha]; simp
  rw [if_neg (show ¬ e.do' = 2 from h2), if_neg (show ¬ e.do' = 2 from h2)]
  by_cases h3 : e.do' = 3
  · rw [if_neg (by omega), if_neg (by omega), if_pos h3, if_pos h3]
    by_cases ha : inD d e.at'
    · rw [if_neg (show ¬ (¬ inD d e.at' ∨ (e.do' = 5 ∧ ¬ inD d e.to)) by simp [ha]; omega), if_neg (show ¬ ¬ inD d e.at' from fun h => h ha)]
      by_cases hk : (nd d e.at').kind ≠ 3 ∧ (nd d e.at').kind ≠ 4
      · first | (rw [if_pos hk, if_pos hk]; simp; done) | (rw [if_pos hk]; simp)
      · first | (rw [if_neg hk, if_neg hk]; split <;> simp; done) | (rw [if_neg hk]; split <;> simp)
    · rw [if_pos (.inl ha), if_pos ha]; simp
  rw [if_neg (show ¬ e.do' = 3 from h3), if_neg (show ¬ e.do' = 3 from h3)]
  by_cases h4 : e.do' = 4
  · rw [if_neg (by omega), if_pos h4, if_pos h4]
    by_cases hk : e.node.kids ≠ []
    · first | (rw [if_pos hk, if_pos hk]; simp; done) | (rw [if_pos hk]; simp)
    · rw [if_neg hk, if_neg hk]
      by_cases hk1 : e.node.kind = 1
      · first | (rw [if_pos hk1, if_pos hk1]; simp; done) | (rw [if_pos hk1]; simp)
      · rw [if_neg hk1, if_neg hk1]
        by_cases hz : nodeE e.node ≠ 0
        · rw [if_pos hz]; exact ⟨fun _ => rfl, fun h => absurd h hz⟩
        · rw [if_neg hz]
          refine ⟨fun h => absurd h hz, fun _ => ?_⟩
          split <;> simp
  rw [if_neg (show ¬ e.do' = 4 from h4), if_neg (show ¬ e.do' = 4 from h4)]
  by_cases h5 : e.do' = 5
  · rw [if_neg (by omega), if_pos h5]
    by_cases ha : inD d e.at'
    · by_cases ht : inD d e.to
      · rw [if_neg (show ¬ (¬ inD d e.at' ∨ (e.do' = 5 ∧ ¬ inD d e.to)) by simp [ha, ht]), if_neg (show ¬ e.do' = 6 by omega), if_neg (show ¬ (¬ inD d e.at' ∨ ¬ inD d e.to) by simp [ha, ht])]
        have ka := V.kind _ ha
        have kt := V.kind _ ht
        have na := ((nodeE_iff _).1 (V.node _ ha)).1
        have eq7 : (¬ ((nd d e.at').kind = 1 ∨ (nd d e.at').kind = 2) ∨ (nd d e.to).kind = 1 ∨ ((nd d e.at').kind = 1 ∧ (nd d e.to).kind = 3)) ↔ (2 < (nd d e.at').kind ∨ e.to = 0 ∨ (e.at' = 0 ∧ (nd d e.to).kind = 3)) := by
          rw [kt, ka]
          refine or_congr ?_ Iff.rfl
          omega
        by_cases h7 : 2 < (nd d e.at').kind ∨ e.to = 0 ∨ (e.at' = 0 ∧ (nd d e.to).kind = 3)
        · rw [if_pos h7, if_pos (eq7.2 h7)]; simp
        · rw [if_neg h7, if_neg (fun h => h7 (eq7.1 h))]
          by_cases h9 : 0 ≤ (nd d e.to).parent
          · first | (rw [if_pos h9, if_pos h9]; simp; done) | (rw [if_pos h9]; simp)
          · rw [if_neg h9, if_neg h9]
            by_cases hb : e.before ≠ -1 ∧ e.before ∉ (nd d e.at').kids
            · first | (rw [if_pos hb, if_pos hb]; simp; done) | (rw [if_pos hb]; simp)
            · rw [if_neg hb, if_neg hb]
              by_cases hc : e.to ∈ chain d e.at'
              · first | (rw [if_pos hc, if_pos hc]; simp; done) | (rw [if_pos hc]; simp)
              · first | (rw [if_neg hc, if_neg hc]; split <;> simp; done) | (rw [if_neg hc]; split <;> simp)
      · rw [if_pos (.inr ⟨h5, ht⟩), if_pos (.inr ht)]; simp
    · rw [if_pos (.inl ha), if_pos (.inl ha)]; simp
  rw [if_neg (show ¬ e.do' = 5 from h5)]
  by_cases h6 : e.do' = 6
  · rw [if_neg (by omega), if_pos h6, if_pos h6]
    by_cases ha : inD d e.at'
    · rw [if_neg (show ¬ (¬ inD d e.at' ∨ (e.do' = 5 ∧ ¬ inD d e.to)) by simp [ha]; omega), if_neg (show ¬ ¬ inD d e.at' from fun h => h ha)]
      have ka := V.kind _ ha
      by_cases hk : e.at' = 0
      · rw [if_pos hk, if_pos (ka.2 hk)]; simp
      · rw [if_neg hk, if_neg (fun h => hk (ka.1 h))]
        by_cases hp : 0 ≤ (nd d e.at').parent
        · rw [if_neg (by omega), if_neg (by simpa using hp)]; simp
        · rw [if_pos (by omega), if_pos hp]; simp
    · rw [if_pos (.inl ha), if_pos ha]; simp
  rw [if_neg (show ¬ e.do' = 6 from h6), if_pos (by omega)]
  simp [h6]
theorem made_nodeE {x : HNode} (h : x.kids = []) : nodeE (madeM x) = nodeE x := by
  have : bareM (madeM x) = bareM x := by unfold bareM madeM; rw [h]
  unfold nodeE; rw [this]; rfl
theorem idxM_leK (l : List Int) (x : Int) : -1 ≤ idxM (· == x) l ∧ idxM (· == x) l < l.length ∧ (0 ≤ idxM (· == x) l → nth l (idxM (· == x) l).toNat = x) := by
  unfold idxM
  split
  · rename_i i hi
    rw [List.findIdx?_eq_some_iff_getElem] at hi
    obtain ⟨h1, h2, _⟩ := hi
    refine ⟨by omega, by omega, fun _ => ?_⟩
    have : nth l i = l[i] := by unfold nth; rw [List.getD_eq_getElem?_getD, List.getElem?_eq_getElem h1]; rfl
    rw [Int.toNat_natCast, this]; simpa using h2
  · refine ⟨by omega, by omega, fun h => by omega⟩
theorem idx_at {l : List Int} {x : Int} (h : x ∈ l) : (idxM (· == x) l).toNat < l.length ∧ nth l (idxM (· == x) l).toNat = x := by
  have h0 := (idx_mem l x).2 h
  have := idxM_leK l x
  exact ⟨by omega, this.2.2 h0⟩
/-- an edit that is not refused leaves a document that is right; and one that is refused for being too much would not -/
theorem edit_DV (V : DV d) (e : HEdit) (h0 : errR d e = 0) : DV (editD d e) ↔ editE d e = 0 := by
  unfold errR at h0
  unfold editE editD
  by_cases h1 : e.do' = 1
  · rw [if_neg (by omega), if_neg (by omega)] at h0
    split at h0
    · omega
    rename_i ha
    simp only [not_or, Classical.not_not] at ha
    try rw [if_pos h1] at h0
    split at h0
    · omega
    rename_i hk
    split at h0
    · omega
    rename_i hn
    have hk : (nd d e.at').kind = 2 := by simpa using hk
    rw [if_pos h1, if_pos h1, if_neg (by simpa using ha.1), if_neg (by simpa using hk), if_neg hn]
    rw [V.same ha.1 (x := { nd d e.at' with attrs := setAttr (nd d e.at').attrs e.name e.value }) rfl rfl rfl]
    have hx := (nodeE_iff _).1 (V.node _ ha.1)
    have hs := setAttr_ok (value := e.value) hx.2.2.2.1 (by simpa using hn : nameOK false e.name = true)
    rw [nodeE_iff]
    constructor
    · rintro ⟨_, _, _, h4, _⟩
      have := hs.1 h4
      have hl := ((attrsE_iff _).1 hx.2.2.2.1).1
      rw [if_neg]
      rintro (h | ⟨h, h'⟩)
      · omega
      · have := this.2 h; omega
    · intro h
      split at h
      · omega
      rename_i hb
      simp only [not_or, not_and] at hb
      have hl := ((attrsE_iff _).1 hx.2.2.2.1).1
      refine ⟨hx.1, ?_, hx.2.2.1, hs.2 ⟨by omega, fun hh => by have := hb.2 hh; omega⟩, hx.2.2.2.2⟩
      have hbm := hx.2.1
      unfold bareM at hbm ⊢
      simp only [hk] at hbm ⊢
      simpa using hbm
  rw [if_neg h1, if_neg h1]
  by_cases h2 : e.do' = 2
  · rw [if_neg (by omega), if_neg (by omega)] at h0
    split at h0
    · omega
    rename_i ha
    simp only [not_or, Classical.not_not] at ha
    try rw [if_neg h1] at h0
    try rw [if_pos h2] at h0
    split at h0
    · omega
    rename_i hk
    split at h0
    · omega
    rename_i hn
    have hk : (nd d e.at').kind = 2 := by simpa using hk
    have hn : 0 ≤ attrAt (nd d e.at').attrs e.name := Classical.not_not.1 hn
    rw [if_pos h2, if_pos h2, if_neg (by simpa using ha.1), if_neg (by simpa using hk), if_neg (by simpa using hn)]
    rw [V.same ha.1 (x := { nd d e.at' with attrs := dropAttr (nd d e.at').attrs e.name }) rfl rfl rfl]
    have hx := (nodeE_iff _).1 (V.node _ ha.1)
    rw [nodeE_iff]
    refine ⟨fun _ => rfl, fun _ => ⟨hx.1, ?_, hx.2.2.1, dropAttr_ok hx.2.2.2.1 hn, hx.2.2.2.2⟩⟩
    have hbm := hx.2.1
    unfold bareM at hbm ⊢
    simp only [hk] at hbm ⊢
    simpa using hbm
  rw [if_neg h2, if_neg h2]
  by_cases h3 : e.do' = 3
  · rw [if_neg (by omega), if_neg (by omega)] at h0
    split at h0
    · omega
    rename_i ha
    simp only [not_or, Classical.not_not] at ha
    try rw [if_neg h1] at h0
    try rw [if_neg h2] at h0
    try rw [if_pos h3] at h0
    split at h0
    · omega
    rename_i hk
    rw [if_pos h3, if_pos h3, if_neg (by simpa using ha.1), if_neg hk]
    rw [V.same ha.1 (x := { nd d e.at' with text := e.value }) rfl rfl rfl]
    have hx := (nodeE_iff _).1 (V.node _ ha.1)
    rw [nodeE_iff]
    constructor
    · rintro ⟨_, _, _, _, h5, _⟩
      rw [if_neg (by simpa using h5)]
    · intro h
      split at h
      · omega
      rename_i hb
      refine ⟨hx.1, ?_, hx.2.2.1, hx.2.2.2.1, by show e.value.length ≤ 400; omega, hx.2.2.2.2.2⟩
      have hbm := hx.2.1
      unfold bareM at hbm ⊢
      have : (nd d e.at').kind = 3 ∨ (nd d e.at').kind = 4 := by omega
      rcases this with hk | hk <;> simp only [hk] at hbm ⊢ <;> simpa using hbm
  rw [if_neg h3, if_neg h3]
  by_cases h4 : e.do' = 4
  · rw [if_neg (by omega), if_pos h4] at h0
    split at h0
    · omega
    rename_i hk
    split at h0
    · omega
    rename_i hk1
    have hk : e.node.kids = [] := by simpa using hk
    rw [if_pos h4, if_pos h4, if_neg (by simpa using hk), if_neg hk1, if_neg (by simpa using h0)]
    rw [V.add (x := madeM e.node) rfl rfl hk1, made_nodeE hk]
    have := V.len
    constructor
    · rintro ⟨_, h⟩; rw [if_neg (by omega)]
    · intro h
      split at h
      · omega
      exact ⟨h0, by omega⟩
  rw [if_neg h4, if_neg h4]
  by_cases h5 : e.do' = 5
  · rw [if_neg (by omega), if_neg h4] at h0
    split at h0
    · omega
    rename_i ha
    simp only [not_or, Classical.not_not, not_and] at ha
    have hat := ha.1
    have hto := ha.2 h5
    try rw [if_neg h1] at h0
    try rw [if_neg h2] at h0
    try rw [if_neg h3] at h0
    try rw [if_neg (show ¬ e.do' = 6 by omega)] at h0
    split at h0
    · omega
    rename_i h7
    split at h0
    · omega
    rename_i h9
    split at h0
    · omega
    rename_i hb
    split at h0
    · omega
    rename_i hc
    simp only [not_or, not_and] at h7
    have ka := V.kind _ hat
    have kt := V.kind _ hto
    have na := ((nodeE_iff _).1 (V.node _ hat)).1
    have c1 : (nd d e.at').kind = 1 ∨ (nd d e.at').kind = 2 := by omega
    have c2 : (nd d e.to).kind ≠ 1 := fun h => h7.2.1 (kt.1 h)
    have c3 : ¬ ((nd d e.at').kind = 1 ∧ (nd d e.to).kind = 3) := fun ⟨h, h'⟩ => h7.2.2 (ka.1 h) h'
    rw [if_pos h5, if_pos h5, if_neg (by simp [hat, hto]), if_neg (fun hh => hh.elim (fun h => h c1) (fun h => h.elim c2 c3)), if_neg h9, if_neg hb, if_neg hc]
    rw [V.hang hat hto c1 c2 c3 h9 hc]
    have hl := low_le V e.to hto
    have ut := V.up_top (n := e.to) h9
    rw [ut] at hl
    constructor
    · intro h
      rw [if_neg]
      have := (hl (39 - up d e.at')).2 fun m hm => by have := h m hm; omega
      have := h e.to (below_self V hto)
      omega
    · intro h m hm
      split at h
      · omega
      have := (hl (39 - up d e.at')).1 (by omega) m hm
      omega
  rw [if_neg h5, if_neg h5]
  by_cases h6 : e.do' = 6
  · rw [if_neg (by omega), if_neg h4] at h0
    split at h0
    · omega
    rename_i ha
    simp only [not_or, Classical.not_not] at ha
    try rw [if_neg h1] at h0
    try rw [if_neg h2] at h0
    try rw [if_neg h3] at h0
    try rw [if_pos h6] at h0
    split at h0
    · omega
    rename_i hz
    split at h0
    · omega
    rename_i hp
    have hp : 0 ≤ (nd d e.at').parent := by omega
    have ka := V.kind _ ha.1
    rw [if_pos h6, if_neg (by simpa using ha.1), if_neg (fun h => hz (ka.1 h)), if_neg (by simpa using hp)]
    obtain ⟨i1, i2⟩ := idx_at (V.par_in ha.1 hp).2
    exact ⟨fun _ => rfl, fun _ => V.cut ha.1 hp i1 i2⟩
  rw [if_pos (by omega)] at h0
  omega
end
end Go.Proofs.K
end
section
/- Edits as they are handed in: a reader. -/
set_option linter.unusedSimpArgs false
set_option linter.unusedVariables false
namespace Go.Proofs.YtoolkpnnllfhgaaGreatDoor
open Go Go.Sim Go.Proofs Go.Proofs.K Go.ChangeShapes Go.WideShapes Go.ChangeAt Go.RowKit
variable {H : Type} {enc : TypeId × Value → H} {w : World}
def goodE (k : Nat) (x : HEdit) : Prop := x.name.length ≤ k ∧ x.value.length ≤ k ∧ goodN k x.node
theorem rEdit : Rdr enc Tryz.prog w Rows.uptoBulk 42 eEdit goodE := by
  have hB := bulk H
  have r := Rdr.struct (eh := enc) (w := w) hB Tryz.underlying42 (by kernel_rfl) (.cons (sz := 1) rfl (by kernel_rfl) mInt rInt (.cons (sz := 1) rfl (by kernel_rfl) mInt rInt (.cons (sz := 1) rfl (by kernel_rfl) mInt rInt (.cons (sz := 1) rfl (by kernel_rfl) mInt rInt
    (.cons (sz := 1) rfl (by kernel_rfl) mStr rStr (.cons (sz := 1) rfl (by kernel_rfl) mStr rStr (.cons (sz := 6) rfl (by kernel_rfl) mN rNode (.nil _))))))))
  exact r.map (fun p => (⟨p.1, p.2.1, p.2.2.1, p.2.2.2.1, p.2.2.2.2.1, p.2.2.2.2.2.1, p.2.2.2.2.2.2.1⟩ : HEdit)) (fun _ => rfl) (fun _ _ h => ⟨h.2.2.2.2.1, h.2.2.2.2.2.1, h.2.2.2.2.2.2.1⟩)
theorem editSm_of {k : Nat} {e : HEdit} (hk : k ≤ 1073741824) (g : goodE k e) : EditSm e := by
  obtain ⟨g1, g2, h1, ⟨h2, h3⟩, h4, h5⟩ := g
  exact ⟨Nat.le_trans g1 hk, Nat.le_trans g2 hk, ⟨Nat.le_trans h1 hk, Nat.le_trans h2 hk, fun a ha => ⟨Nat.le_trans (h3 a ha).1 hk, Nat.le_trans (h3 a ha).2 hk⟩, Nat.le_trans h4 hk, Nat.le_trans h5 hk⟩⟩
end Go.Proofs.YtoolkpnnllfhgaaGreatDoor
end
section
/- Ranges: points, spans: contracts. -/
set_option linter.unusedSimpArgs false
set_option linter.unusedVariables false
namespace Go.Proofs.K
open Go Go.Sim Go.Proofs
variable {G : Glob}
def roomM (d : HDoc) (n : Int) : Nat := if (nd d n).kind = 3 ∨ (nd d n).kind = 4 then (nd d n).text.length else (nd d n).kids.length
def c100 : SFun := ⟨(.seq (.reg [⟨(some 2), (.boxF 89 2 (.t 0)), none⟩, ⟨(some 4), (.mv (.c (.int .i64 (0)))), none⟩]) (.seq (.reg [⟨(some 6), (.fldA 0 (.t 2)), none⟩, ⟨(some 7), (.fldA 0 (.t 6)), none⟩, ⟨(some 8), (.ld 1 false (.t 7)), none⟩, ⟨(some 9), (.mv (.t 1)), none⟩, ⟨(some 10), (.idxA 6 (.t 8) (.t 9)), none⟩, ⟨(some 11), (.ld 6 true (.t 10)), none⟩, ⟨(some 5), (.new 40 6 [(.int .i64 (0)), (.str []), .emp, (.str []), (.int .i64 (0)), .emp]), none⟩, ⟨none, (.st 6 (.t 5) (.t 11)), none⟩]) (.seq (.reg [⟨(some 12), (.fldA 0 (.t 5)), none⟩, ⟨(some 13), (.ld 1 false (.t 12)), none⟩]) (.block 0 (.seq (.seq (.reg [⟨(some 18), (.bin .eql (.t 13) (.c (.int .i64 (3)))), none⟩, ⟨(some 17), (.mv (.t 18)), none⟩]) (.cond (.t 17) .skip (.reg [⟨(some 19), (.bin .eql (.t 13) (.c (.int .i64 (4)))), none⟩, ⟨(some 17), (.mv (.t 19)), none⟩]))) (.cond (.t 17) (.seq (.reg [⟨(some 20), (.fldA 3 (.t 5)), none⟩, ⟨(some 21), (.ld 1 false (.t 20)), none⟩, ⟨(some 22), (.lenS (.t 21)), none⟩, ⟨(some 4), (.mv (.t 22)), none⟩]) .ret) (.seq (.reg [⟨(some 14), (.fldA 5 (.t 5)), none⟩, ⟨(some 15), (.ld 1 false (.t 14)), none⟩, ⟨(some 16), (.len (.t 15)), none⟩, ⟨(some 4), (.mv (.t 16)), none⟩]) .ret))))))), [(.tmp 4)]⟩
theorem hc100 : toSF Tryz.prog {} Tryz.f100 = some c100 := by kernel_rfl
theorem hn100 : (Tryz.f100.name == "runtime.NumGoroutine") = false := by kernel_rfl
theorem room_ok (d : HDoc) (sm : DocSm d) (n : Int) (hn : inD d n) : PCalls (Pg G) 100 [.agg (eDoc d), aInt n] (aInt (roomM d n)) := fun h => by
  have dl := sm.len
  have n0 := hn.1
  have n1 := hn.2
  have e0 : nth d.nodes n.toNat = nd d n := rfl
  refine dcalls_of_vc Tryz.func100 hn100 hc100 (by rw [Tryz.ntmps100]; simp) (by rw [Tryz.ntmps100]; decide) ?_
  simp -dsimp -implicitDefEqProofs (disch := omega) only [VCA, Nat.reduceEqDiff, Nat.reduceAdd, Nat.reduceLT, Nat.reduceLeDiff, ↓reduceIte, setAt, exists_eq_left', c100, eDoc, eNode]
  rw [e0]
  refine ⟨by omega, ?_⟩
  intro r hr
  repeat' (first | ((with_reducible refine Br.dec (fun _ => ?_) (fun _ => ?_)) <;> try (exfalso; omega)) | ((with_reducible refine Br.eq (fun _ => ?_) (fun _ => ?_)) <;> try (exfalso; omega)) | ((with_reducible refine Br.ne (fun _ => ?_) (fun _ => ?_)) <;> try (exfalso; omega)) | ((with_reducible refine brNdec (fun _ => ?_) (fun _ => ?_)) <;> try (exfalso; omega)) | ((with_reducible refine brNeq (fun _ => ?_) (fun _ => ?_)) <;> try (exfalso; omega)) | with_reducible refine Br.intro (fun _ => ?_) (fun _ => ?_) | (with_reducible refine And.intro ?_ ?_; · omega) | simp -dsimp -implicitDefEqProofs (disch := omega) only [VCA, Nat.reduceEqDiff, Nat.reduceAdd, Nat.reduceLT, Nat.reduceLeDiff, ↓reduceIte, exists_eq_right_right, exists_eq_left'])
  · rename_i q1 q2; exact ⟨(Sub.refl h).upd hr, by unfold roomM; rw [if_pos (.inl q2)]⟩
  · rename_i q1 q2; exact ⟨(Sub.refl h).upd hr, by unfold roomM; rw [if_pos (.inr q2)]⟩
  · rename_i q1 q2; exact ⟨(Sub.refl h).upd hr, by unfold roomM; rw [if_neg (fun hh => hh.elim q1 q2)]⟩
/-- the way down to a node, from below: which kid each one is -/
def rkey (d : HDoc) (n : Int) : List Int := ((chain d n).filter (fun m => decide (0 < m))).map fun m => 2 * idxM (· == m) (nd d (nd d m).parent).kids + 1
def key (d : HDoc) (p : HPoint) : List Int := (2 * p.at' :: rkey d p.node).reverse
section
variable {d : HDoc}
theorem rkey_zero (V : DV d) : rkey d 0 = [] := by
  unfold rkey; rw [chain_top V (by have := V.root; omega)]; rfl
theorem rkey_up (V : DV d) {n : Int} (hn : inD d n) (h0 : 0 < n) (hp : 0 ≤ (nd d n).parent) : rkey d n = (2 * idxM (· == n) (nd d (nd d n).parent).kids + 1) :: rkey d (nd d n).parent := by
  unfold rkey; rw [chain_up V hn hp, List.filter_cons_of_pos (by simpa using h0), List.map_cons]
theorem rkey_len (V : DV d) {n : Int} (hn : inD d n) : (rkey d n).length ≤ 41 := by
  unfold rkey
  have := V.deep n hn
  have h1 := chain_len V n hn
  have h2 := List.length_filter_le (fun m => decide (0 < m)) (chain d n)
  rw [List.length_map]; omega
end
def c131 : SFun := ⟨(.seq (.reg [⟨(some 2), (.boxF 89 2 (.t 0)), none⟩, ⟨(some 3), (.boxF 50 2 (.t 1)), none⟩, ⟨(some 4), (.mv (.c (.prim (.slice none 0 0)))), none⟩]) (.seq (.reg [⟨(some 8), (.fldA 1 (.t 3)), none⟩, ⟨(some 9), (.ld 1 false (.t 8)), none⟩, ⟨(some 10), (.bin .mul (.c (.int .i64 (2))) (.t 9)), none⟩, ⟨(some 11), (.bldR 3 1 [(.t 10)]), none⟩, ⟨(some 5), (.mv (.t 11)), none⟩]) (.seq (.seq (.reg [⟨(some 12), (.fldA 0 (.t 3)), none⟩, ⟨(some 13), (.ld 1 false (.t 12)), none⟩, ⟨(some 6), (.mv (.t 13)), none⟩]) (.block 0 (.loop (.seq (.seq (.reg [⟨(some 14), (.mv (.t 6)), none⟩, ⟨(some 15), (.bin .gtr (.t 14) (.c (.int .i64 (0)))), none⟩]) (.cond (.t 15) .skip (.exit 0))) (.seq (.block 1 (.seq (.reg [⟨(some 23), (.fldA 0 (.t 2)), none⟩, ⟨(some 24), (.fldA 0 (.t 23)), none⟩, ⟨(some 25), (.ld 1 false (.t 24)), none⟩, ⟨(some 26), (.mv (.t 6)), none⟩, ⟨(some 27), (.idxA 6 (.t 25) (.t 26)), none⟩, ⟨(some 28), (.fldA 4 (.t 27)), none⟩, ⟨(some 29), (.ld 1 false (.t 28)), none⟩, ⟨(some 7), (.mv (.t 29)), none⟩]) (.seq (.seq (.reg [⟨(some 30), (.mv (.t 7)), none⟩, ⟨(some 31), (.bin .lss (.t 30) (.c (.int .i64 (0)))), none⟩]) (.cond (.t 31) (.seq (.reg [⟨(some 4), (.mv (.c (.prim (.slice none 0 0)))), none⟩]) .ret) .skip)) (.reg [⟨(some 32), (.mv (.t 5)), none⟩, ⟨(some 33), (.fldA 0 (.t 2)), none⟩, ⟨(some 34), (.fldA 0 (.t 33)), none⟩, ⟨(some 35), (.ld 1 false (.t 34)), none⟩, ⟨(some 36), (.mv (.t 7)), none⟩, ⟨(some 37), (.idxA 6 (.t 35) (.t 36)), none⟩, ⟨(some 38), (.fldA 5 (.t 37)), none⟩, ⟨(some 39), (.ld 1 false (.t 38)), none⟩, ⟨(some 40), (.mv (.t 6)), none⟩, ⟨(some 41), (.pcall 80 [(.t 39), (.t 40)]), none⟩, ⟨(some 42), (.bin .mul (.c (.int .i64 (2))) (.t 41)), none⟩, ⟨(some 43), (.bin .add (.t 42) (.c (.int .i64 (1)))), none⟩, ⟨(some 44), (.bldF 3 1 [(.t 43)]), none⟩, ⟨(some 45), (.app 3 1 8 (.t 32) (.t 44)), none⟩, ⟨(some 5), (.mv (.t 45)), none⟩])))) (.reg [⟨(some 16), (.fldA 0 (.t 2)), none⟩, ⟨(some 17), (.fldA 0 (.t 16)), none⟩, ⟨(some 18), (.ld 1 false (.t 17)), none⟩, ⟨(some 19), (.mv (.t 6)), none⟩, ⟨(some 20), (.idxA 6 (.t 18) (.t 19)), none⟩, ⟨(some 21), (.fldA 4 (.t 20)), none⟩, ⟨(some 22), (.ld 1 false (.t 21)), none⟩, ⟨(some 6), (.mv (.t 22)), none⟩])))))) (.seq (.reg [⟨(some 46), (.mv (.t 5)), none⟩, ⟨(some 47), (.call (.c (.fn 172 [] [])) [(.t 46)]), none⟩]) (.seq (.reg [⟨(some 48), (.mv (.t 5)), none⟩, ⟨(some 4), (.mv (.t 48)), none⟩]) .ret))))), [(.tmp 4)]⟩
theorem hc131 : toSF Tryz.prog {pure := [80], how := [(11, 2), (4, 7)]} Tryz.f131 = some c131 := by kernel_rfl
theorem hn131 : (Tryz.f131.name == "runtime.NumGoroutine") = false := by kernel_rfl
theorem spath_ok (d : HDoc) (V : DV d) (sm : DocSm d) (p : HPoint) (hn : inD d p.node) (h0 : 0 ∈ chain d p.node) (ha : 0 ≤ p.at' ∧ p.at' ≤ 1073741824) : PCalls (Pg G) 131 [.agg (eDoc d), .agg (eP p)] (sl eInt (key d p)) := PCalls.acc (ty := 3) (sz := 1) fun h => by
  have hl := V.len
  have kl := rkey_len V hn
  have a0 := ha.1
  have a1 := ha.2
  refine dcalls_of_vc Tryz.func131 hn131 hc131 (by rw [Tryz.ntmps131]; simp) (by rw [Tryz.ntmps131]; decide) ?_
  simp -dsimp -implicitDefEqProofs (disch := omega) only [VCA, Nat.reduceEqDiff, Nat.reduceAdd, Nat.reduceLeDiff, ↓reduceIte, okParts, lit_eq, c131, eDoc, eP]
  intro r hr
  refine LoopVC.intro (fun m e h' => ∃ (c : Int) (L : List Int), m = up d c ∧ inD d c ∧ 0 ∈ chain d c ∧ e 2 = .pin (eDoc d) ∧ e 6 = aInt c ∧ Acc h 3 1 (L.map eInt) (e 5) h' ∧ Sim.Sub h h' ∧ L ++ rkey d c = 2 * p.at' :: rkey d p.node) _ ⟨p.node, [2 * p.at'], rfl, hn, h0, rfl, rfl, Acc.root hr (upd_same _ _ _), (Sub.refl h).upd hr, rfl⟩ ?_
  rintro m e h' ⟨c, L, rfl, hc, hc0, he2, he6, A, S, hL⟩
  have c0 := hc.1
  have c1 := hc.2
  have hLl : L.length ≤ 42 := by
    have := congrArg List.length hL
    simp at this; omega
  have e0 : nth d.nodes c.toNat = nd d c := rfl
  simp -dsimp -implicitDefEqProofs (disch := omega) only [VCA, ↓reduceIte, he6]
  refine Br.dec (fun h1 => ?_) (fun h1 => ?_)
  · have hp := par_of V hc hc0 (by omega)
    have hpi := (V.par_in hc hp).1
    have p1 := hpi.2
    have e1 : nth d.nodes (nd d c).parent.toNat = nd d (nd d c).parent := rfl
    have kl2 := (sm.nd (nd d c).parent).kids
    have hq := idxM_le (nd d (nd d c).parent).kids c
    have hI := hasII_ok (G := G) (nd d (nd d c).parent).kids c kl2
    have hru := rkey_up V hc h1 hp
    have hup := V.up_par hc hp
    have hpc : 0 ∈ chain d (nd d c).parent := by
      rw [chain_up V hc hp] at hc0
      exact (List.mem_cons.1 hc0).resolve_left (by omega)
    generalize idxM (· == c) (nd d (nd d c).parent).kids = q at *
    simp -dsimp -implicitDefEqProofs (disch := omega) only [VCA, Nat.reduceEqDiff, Nat.reduceAdd, Nat.reduceLeDiff, ↓reduceIte, he2, he6, eDoc, eNode, e0]
    refine ⟨by omega, Br.dec (fun hh => absurd hh (by omega)) (fun _ => ?_)⟩
    simp -dsimp -implicitDefEqProofs (disch := omega) only [VCA, Nat.reduceEqDiff, Nat.reduceAdd, Nat.reduceLeDiff, ↓reduceIte, he2, he6, eDoc, eNode, e1]
    refine ⟨by omega, ?_⟩
    refine pcallE.of (hI) ?_; simp -dsimp -implicitDefEqProofs (disch := omega) only [VCA, Nat.reduceEqDiff, ↓reduceIte, okParts, forall_eq, exists_eq_left]
    refine A.app S (by simp only [List.length_map, List.length_cons, List.length_nil]; omega) (by simp only [List.length_map, List.length_cons, List.length_nil]; omega) fun a' h'' A' S' => ?_
    simp -dsimp -implicitDefEqProofs (disch := omega) only [VCA, Nat.reduceEqDiff, Nat.reduceAdd, Nat.reduceLeDiff, ↓reduceIte, he2, he6, eDoc, eNode, e0]
    refine ⟨by omega, _, ?_, (nd d c).parent, L ++ [2 * q + 1], rfl, hpi, hpc, rfl, by simpa [eInt] using A', S', by rw [← hL, hru]; simp⟩
    omega
  · obtain rfl : c = 0 := by omega
    rw [rkey_zero V, List.append_nil] at hL
    subst hL
    obtain ⟨r, h0, hr, he⟩ := A.pos (by simp)
    rw [List.length_map] at he
    simp -dsimp -implicitDefEqProofs (disch := omega) only [VCA, Nat.reduceEqDiff, ↓reduceIte, he]
    refine DCalls.of (reverseI_ok _ hr (by omega)) ?_
    rintro a h'' ⟨rfl, rfl⟩
    simp -dsimp -implicitDefEqProofs (disch := omega) only [VCA, Nat.reduceEqDiff, ↓reduceIte, he]
    have hlr : ((2 * p.at' :: rkey d p.node).reverse.map eInt).length = (2 * p.at' :: rkey d p.node).length := by simp
    refine ⟨_, Sub.refl _, ?_, S.upd h0⟩
    have := Acc.root (h := h) (h' := upd h' r (some ⟨.t 3, 1, (2 * p.at' :: rkey d p.node).reverse.map eInt⟩)) h0 (upd_same _ _ _)
    rwa [hlr] at this
theorem spath_nil (d : HDoc) (V : DV d) (sm : DocSm d) (p : HPoint) (hn : inD d p.node) (h0 : 0 ∉ chain d p.node) (ha : 0 ≤ p.at' ∧ p.at' ≤ 1073741824) : PCalls (Pg G) 131 [.agg (eDoc d), .agg (eP p)] (.prim (.slice none 0 0)) := fun h => by
  have hl := V.len
  have a0 := ha.1
  have a1 := ha.2
  refine dcalls_of_vc Tryz.func131 hn131 hc131 (by rw [Tryz.ntmps131]; simp) (by rw [Tryz.ntmps131]; decide) ?_
  simp -dsimp -implicitDefEqProofs (disch := omega) only [VCA, Nat.reduceEqDiff, Nat.reduceAdd, Nat.reduceLeDiff, ↓reduceIte, okParts, lit_eq, c131, eDoc, eP]
  intro r hr
  refine LoopVC.intro (fun m e h' => ∃ (c : Int) (L : List Int), m = up d c ∧ inD d c ∧ 0 ∉ chain d c ∧ e 2 = .pin (eDoc d) ∧ e 6 = aInt c ∧ Acc h 3 1 (L.map eInt) (e 5) h' ∧ Sim.Sub h h' ∧ L.length + up d c ≤ 42) _ ⟨p.node, [2 * p.at'], rfl, hn, h0, rfl, rfl, Acc.root hr (upd_same _ _ _), (Sub.refl h).upd hr, by have := V.deep _ hn; simp; omega⟩ ?_
  rintro m e h' ⟨c, L, rfl, hc, hc0, he2, he6, A, S, hL⟩
  have c0 := hc.1
  have c1 := hc.2
  have hne : c ≠ 0 := fun e => hc0 (by rw [e]; exact chain_self _ _)
  have e0 : nth d.nodes c.toNat = nd d c := rfl
  simp -dsimp -implicitDefEqProofs (disch := omega) only [VCA, ↓reduceIte, he6]
  refine Br.dec (fun h1 => ?_) (fun h1 => absurd c0 (by omega))
  by_cases hp : 0 ≤ (nd d c).parent
  · have hpi := (V.par_in hc hp).1
    have p1 := hpi.2
    have e1 : nth d.nodes (nd d c).parent.toNat = nd d (nd d c).parent := rfl
    have kl2 := (sm.nd (nd d c).parent).kids
    have hq := idxM_le (nd d (nd d c).parent).kids c
    have hI := hasII_ok (G := G) (nd d (nd d c).parent).kids c kl2
    have hup := V.up_par hc hp
    have hpc : 0 ∉ chain d (nd d c).parent := fun hh => hc0 (by rw [chain_up V hc hp]; exact List.mem_cons_of_mem _ hh)
    generalize idxM (· == c) (nd d (nd d c).parent).kids = q at *
    simp -dsimp -implicitDefEqProofs (disch := omega) only [VCA, Nat.reduceEqDiff, Nat.reduceAdd, Nat.reduceLeDiff, ↓reduceIte, he2, he6, eDoc, eNode, e0]
    refine ⟨by omega, Br.dec (fun hh => absurd hh (by omega)) (fun _ => ?_)⟩
    simp -dsimp -implicitDefEqProofs (disch := omega) only [VCA, Nat.reduceEqDiff, Nat.reduceAdd, Nat.reduceLeDiff, ↓reduceIte, he2, he6, eDoc, eNode, e1]
    refine ⟨by omega, ?_⟩
    refine pcallE.of (hI) ?_; simp -dsimp -implicitDefEqProofs (disch := omega) only [VCA, Nat.reduceEqDiff, ↓reduceIte, okParts, forall_eq, exists_eq_left]
    refine A.app S (by simp only [List.length_map, List.length_cons, List.length_nil]; omega) (by simp only [List.length_map, List.length_cons, List.length_nil]; omega) fun a' h'' A' S' => ?_
    simp -dsimp -implicitDefEqProofs (disch := omega) only [VCA, Nat.reduceEqDiff, Nat.reduceAdd, Nat.reduceLeDiff, ↓reduceIte, he2, he6, eDoc, eNode, e0]
    refine ⟨by omega, _, ?_, (nd d c).parent, L ++ [2 * q + 1], rfl, hpi, hpc, rfl, by simpa [eInt] using A', S', by simp; omega⟩
    omega
  · simp -dsimp -implicitDefEqProofs (disch := omega) only [VCA, Nat.reduceEqDiff, Nat.reduceAdd, Nat.reduceLeDiff, ↓reduceIte, he2, he6, eDoc, eNode, e0]
    refine ⟨by omega, Br.dec (fun _ => ?_) (fun hh => absurd hp (by omega))⟩
    simp -dsimp -implicitDefEqProofs (disch := omega) only [VCA, ↓reduceIte, exists_eq_right]
    exact S
def pointE (d : HDoc) (p : HPoint) : Int := if ¬ (inD d p.node ∧ 0 ≤ p.at' ∧ p.at' ≤ roomM d p.node) then 1 else if 0 ∉ chain d p.node then 5 else 0
theorem room_le {d : HDoc} (sm : DocSm d) (n : Int) : roomM d n ≤ 1073741824 := by
  unfold roomM
  split
  · exact (sm.nd n).text
  · exact (sm.nd n).kids
def c128 : SFun := ⟨(.seq (.reg [⟨(some 2), (.boxF 89 2 (.t 0)), none⟩, ⟨(some 3), (.boxF 50 2 (.t 1)), none⟩, ⟨(some 4), (.mv (.c (.int .i64 (0)))), none⟩]) (.seq (.block 0 (.seq (.dreg [(⟨(some 6), (.fldA 0 (.t 3)), none⟩, none), (⟨(some 7), (.ld 1 false (.t 6)), none⟩, none), (⟨(some 8), (.bin .lss (.t 7) (.c (.int .i64 (0)))), none⟩, none), (⟨(some 9), (.mv (.t 8)), none⟩, none), (⟨(some 10), (.fldA 0 (.t 3)), (some (9, false))⟩, none), (⟨(some 11), (.ld 1 false (.t 10)), (some (9, false))⟩, none), (⟨(some 12), (.fldA 0 (.t 2)), (some (9, false))⟩, none), (⟨(some 13), (.fldA 0 (.t 12)), (some (9, false))⟩, none), (⟨(some 14), (.ld 1 false (.t 13)), (some (9, false))⟩, none), (⟨(some 15), (.len (.t 14)), (some (9, false))⟩, none), (⟨(some 16), (.bin .geq (.t 11) (.t 15)), (some (9, false))⟩, none), (⟨(some 17), (.pick (.t 9) (.c (.bool true)) (.t 16)), none⟩, none), (⟨(some 18), (.mv (.t 17)), none⟩, none), (⟨(some 19), (.fldA 1 (.t 3)), (some (18, false))⟩, none), (⟨(some 20), (.ld 1 false (.t 19)), (some (18, false))⟩, none), (⟨(some 21), (.bin .lss (.t 20) (.c (.int .i64 (0)))), (some (18, false))⟩, none), (⟨(some 22), (.pick (.t 18) (.c (.bool true)) (.t 21)), none⟩, none), (⟨(some 23), (.mv (.t 22)), none⟩, none), (⟨(some 24), (.fldA 1 (.t 3)), (some (23, false))⟩, none), (⟨(some 25), (.ld 1 false (.t 24)), (some (23, false))⟩, none), (⟨(some 26), (.ld 2 true (.t 2)), (some (23, false))⟩, none), (⟨(some 27), (.fldA 0 (.t 3)), (some (23, false))⟩, none), (⟨(some 28), (.ld 1 false (.t 27)), (some (23, false))⟩, none), (⟨(some 29), (.pcall 100 [(.t 26), (.t 28)]), (some (23, false))⟩, none), (⟨(some 30), (.bin .gtr (.t 25) (.t 29)), (some (23, false))⟩, none), (⟨(some 31), (.pick (.t 23) (.c (.bool true)) (.t 30)), none⟩, none), (⟨(some 5), (.mv (.t 31)), none⟩, none)]) (.cond (.t 5) (.seq (.reg [⟨(some 4), (.mv (.c (.int .i64 (1)))), none⟩]) .ret) (.seq (.reg [⟨(some 33), (.ld 2 true (.t 2)), none⟩, ⟨(some 34), (.ld 2 true (.t 3)), none⟩, ⟨(some 35), (.pcall 131 [(.t 33), (.t 34)]), none⟩, ⟨(some 36), (.isnil 0 false (.t 35)), none⟩, ⟨(some 32), (.mv (.t 36)), none⟩]) (.cond (.t 32) (.seq (.reg [⟨(some 4), (.mv (.c (.int .i64 (5)))), none⟩]) .ret) .skip))))) (.seq (.reg [⟨(some 4), (.mv (.c (.int .i64 (0)))), none⟩]) .ret))), [(.tmp 4)]⟩
theorem hc128 : toSF Tryz.prog {pure := [100, 131]} Tryz.f128 = some c128 := by kernel_rfl
theorem hn128 : (Tryz.f128.name == "runtime.NumGoroutine") = false := by kernel_rfl
theorem point_ok (d : HDoc) (V : DV d) (sm : DocSm d) (p : HPoint) : PCalls (Pg G) 128 [.agg (eDoc d), .agg (eP p)] (aInt (pointE d p)) := fun h => by
  have hl := V.len
  refine dcalls_of_vc Tryz.func128 hn128 hc128 (by rw [Tryz.ntmps128]; simp) (by rw [Tryz.ntmps128]; decide) ?_
  by_cases hn : inD d p.node
  · have n0 := hn.1
    have n1 := hn.2
    have hR := room_ok (G := G) d sm p.node hn
    have rl := room_le sm p.node
    unfold eDoc at hR
    by_cases h1 : 0 ≤ p.at' ∧ p.at' ≤ roomM d p.node
    · by_cases h2 : 0 ∈ chain d p.node
      · have hP := spath_ok (G := G) d V sm p hn h2 ⟨h1.1, by omega⟩
        have hk : 0 < (key d p).length := by unfold key; simp
        unfold eDoc eP at hP
        have hE : pointE d p = 0 := by unfold pointE; rw [if_neg (by simp [hn, h1]), if_neg (by simpa using h2)]
        simp -dsimp -implicitDefEqProofs (disch := omega) only [↓vcD_sp 9, VCA, Nat.reduceEqDiff, Nat.reduceAdd, Nat.reduceLeDiff, ↓reduceIte, rsOf, rootsOf, rootL, c128, eDoc, eP, hE]
        repeat' (first | ((with_reducible refine Br.dec (fun _ => ?_) (fun _ => ?_)) <;> try (exfalso; omega)) | ((with_reducible refine Br.eq (fun _ => ?_) (fun _ => ?_)) <;> try (exfalso; omega)) | ((with_reducible refine Br.ne (fun _ => ?_) (fun _ => ?_)) <;> try (exfalso; omega)) | ((with_reducible refine brNdec (fun _ => ?_) (fun _ => ?_)) <;> try (exfalso; omega)) | ((with_reducible refine brNeq (fun _ => ?_) (fun _ => ?_)) <;> try (exfalso; omega)) | with_reducible refine Br.intro (fun _ => ?_) (fun _ => ?_) | (with_reducible apply pcallE.of; · exact hR) | (with_reducible apply pcallE.of; · exact hP) | (with_reducible refine And.intro ?_ ?_; · omega) | simp -dsimp -implicitDefEqProofs (disch := omega) only [↓vcD_sp 18, ↓vcD_sp 23, VCA, Nat.reduceEqDiff, Nat.reduceAdd, Nat.reduceLeDiff, ↓reduceIte, rsOf, rootsOf, rootL])
        intro b hb
        obtain rfl : b = false := by
          cases b with
          | false => rfl
          | true => rw [hb rfl] at hk; exact absurd hk (by simp)
        simp -dsimp -implicitDefEqProofs (disch := omega) only [VCA, ↓reduceIte, exists_eq_right]
        all_goals exact Sub.refl _
      · have hP := spath_nil (G := G) d V sm p hn h2 ⟨h1.1, by omega⟩
        unfold eDoc eP at hP
        have hE : pointE d p = 5 := by unfold pointE; rw [if_neg (by simp [hn, h1]), if_pos h2]
        simp -dsimp -implicitDefEqProofs (disch := omega) only [↓vcD_sp 9, VCA, Nat.reduceEqDiff, Nat.reduceAdd, Nat.reduceLeDiff, ↓reduceIte, rsOf, rootsOf, rootL, c128, eDoc, eP, hE]
        repeat' (first | ((with_reducible refine Br.dec (fun _ => ?_) (fun _ => ?_)) <;> try (exfalso; omega)) | ((with_reducible refine Br.eq (fun _ => ?_) (fun _ => ?_)) <;> try (exfalso; omega)) | ((with_reducible refine Br.ne (fun _ => ?_) (fun _ => ?_)) <;> try (exfalso; omega)) | ((with_reducible refine brNdec (fun _ => ?_) (fun _ => ?_)) <;> try (exfalso; omega)) | ((with_reducible refine brNeq (fun _ => ?_) (fun _ => ?_)) <;> try (exfalso; omega)) | with_reducible refine Br.intro (fun _ => ?_) (fun _ => ?_) | (with_reducible apply pcallE.of; · exact hR) | (with_reducible apply pcallE.of; · exact hP) | (with_reducible refine And.intro ?_ ?_; · omega) | simp -dsimp -implicitDefEqProofs (disch := omega) only [↓vcD_sp 18, ↓vcD_sp 23, VCA, Nat.reduceEqDiff, Nat.reduceAdd, Nat.reduceLeDiff, ↓reduceIte, rsOf, rootsOf, exists_eq_right, rootL])
        all_goals exact Sub.refl _
    · have hE : pointE d p = 1 := by unfold pointE; rw [if_pos (fun hh => h1 hh.2)]
      simp -dsimp -implicitDefEqProofs (disch := omega) only [↓vcD_sp 9, VCA, Nat.reduceEqDiff, Nat.reduceAdd, Nat.reduceLeDiff, ↓reduceIte, rsOf, rootsOf, rootL, c128, eDoc, eP, hE]
      repeat' (first | ((with_reducible refine Br.dec (fun _ => ?_) (fun _ => ?_)) <;> try (exfalso; omega)) | ((with_reducible refine Br.eq (fun _ => ?_) (fun _ => ?_)) <;> try (exfalso; omega)) | ((with_reducible refine Br.ne (fun _ => ?_) (fun _ => ?_)) <;> try (exfalso; omega)) | ((with_reducible refine brNdec (fun _ => ?_) (fun _ => ?_)) <;> try (exfalso; omega)) | ((with_reducible refine brNeq (fun _ => ?_) (fun _ => ?_)) <;> try (exfalso; omega)) | with_reducible refine Br.intro (fun _ => ?_) (fun _ => ?_) | (with_reducible apply pcallE.of; · exact hR) | (with_reducible refine And.intro ?_ ?_; · omega) | simp -dsimp -implicitDefEqProofs (disch := omega) only [↓vcD_sp 18, ↓vcD_sp 23, VCA, Nat.reduceEqDiff, Nat.reduceAdd, Nat.reduceLeDiff, ↓reduceIte, rsOf, rootsOf, exists_eq_right, rootL])
      all_goals exact Sub.refl _
  · have hE : pointE d p = 1 := by unfold pointE; rw [if_pos (fun hh => hn hh.1)]
    unfold inD at hn
    simp -dsimp -implicitDefEqProofs (disch := omega) only [↓vcD_sp 9, VCA, Nat.reduceEqDiff, Nat.reduceAdd, Nat.reduceLeDiff, ↓reduceIte, rsOf, rootsOf, rootL, c128, eDoc, eP, hE]
    repeat' (first | ((with_reducible refine Br.dec (fun _ => ?_) (fun _ => ?_)) <;> try (exfalso; omega)) | ((with_reducible refine Br.eq (fun _ => ?_) (fun _ => ?_)) <;> try (exfalso; omega)) | ((with_reducible refine Br.ne (fun _ => ?_) (fun _ => ?_)) <;> try (exfalso; omega)) | ((with_reducible refine brNdec (fun _ => ?_) (fun _ => ?_)) <;> try (exfalso; omega)) | ((with_reducible refine brNeq (fun _ => ?_) (fun _ => ?_)) <;> try (exfalso; omega)) | with_reducible refine Br.intro (fun _ => ?_) (fun _ => ?_) | (with_reducible refine And.intro ?_ ?_; · omega) | simp -dsimp -implicitDefEqProofs (disch := omega) only [↓vcD_sp 18, ↓vcD_sp 23, VCA, Nat.reduceEqDiff, Nat.reduceAdd, Nat.reduceLeDiff, ↓reduceIte, rsOf, rootsOf, exists_eq_right, rootL])
    all_goals exact Sub.refl _
end Go.Proofs.K
end
section
/- Ranges: the order of points, plain law. -/
set_option linter.unusedSimpArgs false
set_option linter.unusedVariables false
namespace Go.Proofs.K
open Go Go.Sim Go.Proofs
/-! ## lists by their order -/
theorem cmpI_self (a : Int) : cmpI a a = 0 := by unfold cmpI; rw [if_neg (by omega), if_neg (by omega)]
theorem cmpI_neg (a b : Int) : cmpI b a = - cmpI a b := by unfold cmpI; split <;> split <;> omega
theorem cmpL_self : ∀ p : List Int, cmpL p p = 0
  | [] => rfl
  | x :: p => by unfold cmpL; rw [if_neg (by rw [cmpI_self]; simp), cmpL_self p]
theorem cmpL_neg : ∀ p q : List Int, cmpL q p = - cmpL p q
  | [], [] => rfl
  | [], _ :: _ => rfl
  | _ :: _, [] => rfl
  | x :: p, y :: q => by
    unfold cmpL
    rw [cmpI_neg x y, cmpL_neg p q]
    by_cases h : cmpI x y = 0
    · rw [if_neg (by rw [h]; simp), if_neg (by rw [h]; simp)]
    · rw [if_pos (by omega), if_pos h]
theorem cmpL_pre : ∀ (a p q : List Int), cmpL (a ++ p) (a ++ q) = cmpL p q
  | [], p, q => rfl
  | x :: a, p, q => by
    have e : cmpL (x :: (a ++ p)) (x :: (a ++ q)) = if cmpI x x ≠ 0 then cmpI x x else cmpL (a ++ p) (a ++ q) := by rw [cmpL]
    show cmpL (x :: (a ++ p)) (x :: (a ++ q)) = _
    rw [e, if_neg (by rw [cmpI_self]; simp), cmpL_pre a p q]
theorem cmpL_head {x y : Int} (h : x < y) (p q : List Int) : cmpL (x :: p) (y :: q) = -1 := by
  unfold cmpL cmpI; rw [if_pos h]; simp
theorem cmpL_one (x y : Int) : cmpL [x] [y] = cmpI x y := by
  unfold cmpL
  by_cases h : cmpI x y = 0
  · rw [if_neg (by rw [h]; simp), h]; rfl
  · rw [if_pos h]
/-! ## all points of a tree, in their order -/
def textM (x : HNode) : List UInt8 := if x.kind = 5 then [] else x.text
def mkF : Nat → HDoc → Int → List HPoint
  | 0, _, n => [⟨n, 0⟩]
  | f + 1, d, n => ⟨n, 0⟩ :: ((List.range (nd d n).kids.length).flatMap (fun i => mkF f d (nth (nd d n).kids i) ++ [⟨n, (i : Int) + 1⟩]) ++ (List.range (textM (nd d n)).length).map fun i => ⟨n, (i : Int) + 1⟩)
def marks (d : HDoc) (n : Int) : List HPoint := mkF (41 - up d n) d n
theorem flatMap_cong {α β : Type} {l : List α} {f g : α → List β} (h : ∀ a ∈ l, f a = g a) : l.flatMap f = l.flatMap g := by
  induction l with
  | nil => rfl
  | cons a l ih => rw [List.flatMap_cons, List.flatMap_cons, h a List.mem_cons_self, ih fun b hb => h b (List.mem_cons_of_mem _ hb)]
section
variable {d : HDoc}
theorem marks_eq (V : DV d) {n : Int} (hn : inD d n) : marks d n = ⟨n, 0⟩ :: ((List.range (nd d n).kids.length).flatMap (fun i => marks d (nth (nd d n).kids i) ++ [⟨n, (i : Int) + 1⟩]) ++ (List.range (textM (nd d n)).length).map fun i => ⟨n, (i : Int) + 1⟩) := by
  have h40 := V.deep n hn
  obtain ⟨f, hf⟩ : ∃ f, 41 - up d n = f + 1 := ⟨40 - up d n, by omega⟩
  have e : mkF (41 - up d n) d n = mkF (f + 1) d n := by rw [hf]
  show mkF (41 - up d n) d n = _
  rw [e, mkF]
  rw [flatMap_cong (g := fun i => marks d (nth (nd d n).kids i) ++ [⟨n, (i : Int) + 1⟩]) fun i hi => ?_]
  have hi := List.mem_range.1 hi
  have hu := V.up_kid hn (nth_mem' hi)
  show mkF f d _ ++ _ = mkF (41 - up d _) d _ ++ _
  rw [show 41 - up d (nth (nd d n).kids i) = f by omega]
/-- texts have no kids, and what has kids has no text -/
theorem node_split (V : DV d) {n : Int} (hn : inD d n) : ((nd d n).kids = [] ∧ roomM d n = (textM (nd d n)).length) ∨ (textM (nd d n) = [] ∧ roomM d n = (nd d n).kids.length ∧ (nd d n).kind ≠ 3) := by
  have h := V.node n hn
  unfold nodeE at h
  split at h
  · omega
  · rename_i hb
    have hb : bareM (nd d n) = true := by
      cases hb2 : bareM (nd d n) with
      | true => rfl
      | false => exact absurd (.inr (.inr hb2)) hb
    unfold bareM at hb
    simp only [Bool.and_eq_true, Bool.or_eq_true, decide_eq_true_eq] at hb
    obtain ⟨⟨_, ht⟩, hk⟩ := hb
    unfold roomM textM
    by_cases h3 : (nd d n).kind = 3 ∨ (nd d n).kind = 4
    · left
      rw [if_pos h3, if_neg (by omega)]
      refine ⟨?_, rfl⟩
      rcases hk with (hk | hk) | hk
      · omega
      · omega
      · exact hk
    · right
      rw [if_neg h3]
      refine ⟨?_, rfl, fun e => h3 (.inl e)⟩
      split
      · rfl
      · rcases ht with (ht | ht) | ht
        · exact absurd (.inl ht) h3
        · exact absurd (.inr ht) h3
        · exact ht
def pre (d : HDoc) (n : Int) : List Int := (rkey d n).reverse
theorem key_pre (d : HDoc) (n a : Int) : key d ⟨n, a⟩ = pre d n ++ [2 * a] := by unfold key pre; rw [List.reverse_cons]
theorem pre_kid (V : DV d) {n : Int} (hn : inD d n) {i : Nat} (hi : i < (nd d n).kids.length) : pre d (nth (nd d n).kids i) = pre d n ++ [2 * (i : Int) + 1] := by
  have hm := nth_mem' hi
  obtain ⟨h1, h2⟩ := V.kid n hn _ hm
  have h0 : 0 < nth (nd d n).kids i := by
    have := h1.1
    have hne : nth (nd d n).kids i ≠ 0 := fun e => by rw [e, V.root] at h2; have := hn.1; omega
    omega
  have hp : 0 ≤ (nd d (nth (nd d n).kids i)).parent := by rw [h2]; exact hn.1
  unfold pre
  rw [rkey_up V h1 h0 hp, h2, nodup_at (V.nodup n hn) hi, List.reverse_cons]
theorem marks_key (V : DV d) : ∀ n, inD d n → ∀ p ∈ marks d n, ∃ t, t ≠ [] ∧ key d p = pre d n ++ t := V.down fun n hn ih p hp => by
  rw [marks_eq V hn] at hp
  rcases List.mem_cons.1 hp with rfl | hp
  · exact ⟨_, by simp, key_pre _ _ _⟩
  · rcases List.mem_append.1 hp with hp | hp
    · obtain ⟨i, hi, hp⟩ := List.mem_flatMap.1 hp
      have hi := List.mem_range.1 hi
      rcases List.mem_append.1 hp with hp | hp
      · obtain ⟨t, h1, h2⟩ := ih _ (nth_mem' hi) p hp
        exact ⟨(2 * (i : Int) + 1) :: t, by simp, by rw [h2, pre_kid V hn hi]; simp⟩
      · simp only [List.mem_singleton] at hp; subst hp
        exact ⟨_, by simp, key_pre _ _ _⟩
    · obtain ⟨i, hi, rfl⟩ := List.mem_map.1 hp
      exact ⟨_, by simp, key_pre _ _ _⟩
theorem marks_part (V : DV d) {n : Int} (hn : inD d n) {i : Nat} (hi : i < (nd d n).kids.length) {p : HPoint} (hp : p ∈ marks d (nth (nd d n).kids i) ++ [⟨n, (i : Int) + 1⟩]) :
    ∃ x t, key d p = pre d n ++ x :: t ∧ 2 * (i : Int) + 1 ≤ x ∧ x ≤ 2 * (i : Int) + 2 := by
  rcases List.mem_append.1 hp with hp | hp
  · obtain ⟨t, h1, h2⟩ := marks_key V _ (V.kid n hn _ (nth_mem' hi)).1 p hp
    exact ⟨2 * (i : Int) + 1, t, by rw [h2, pre_kid V hn hi]; simp, by omega, by omega⟩
  · simp only [List.mem_singleton] at hp; subst hp
    exact ⟨2 * ((i : Int) + 1), [], key_pre _ _ _, by omega, by omega⟩
def ltP (d : HDoc) (p q : HPoint) : Prop := cmpL (key d p) (key d q) = -1
theorem marks_sorted (V : DV d) : ∀ n, inD d n → (marks d n).Pairwise (ltP d) := V.down fun n hn ih => by
  rw [marks_eq V hn, List.pairwise_cons]
  constructor
  · intro q hq
    unfold ltP
    rw [key_pre]
    rcases List.mem_append.1 hq with hq | hq
    · obtain ⟨i, hi, hq⟩ := List.mem_flatMap.1 hq
      obtain ⟨x, t, h1, h2, h3⟩ := marks_part V hn (List.mem_range.1 hi) hq
      rw [h1, cmpL_pre, cmpL_head (by omega)]
    · obtain ⟨i, hi, rfl⟩ := List.mem_map.1 hq
      rw [key_pre, cmpL_pre, cmpL_head (by omega)]
  · rw [List.pairwise_append]
    refine ⟨?_, ?_, ?_⟩
    · rw [List.pairwise_flatMap]
      constructor
      · intro i hi
        have hi := List.mem_range.1 hi
        rw [List.pairwise_append]
        refine ⟨ih _ (nth_mem' hi), by simp, fun p hp q hq => ?_⟩
        simp only [List.mem_singleton] at hq; subst hq
        obtain ⟨t, h1, h2⟩ := marks_key V _ (V.kid n hn _ (nth_mem' hi)).1 p hp
        unfold ltP
        rw [h2, key_pre, pre_kid V hn hi, List.append_assoc, cmpL_pre]
        exact cmpL_head (by omega) _ _
      · refine List.Pairwise.imp_of_mem (R := fun a b => a < b) ?_ List.pairwise_lt_range
        intro i j hi hj hij p hp q hq
        obtain ⟨x, t, h1, h2, h3⟩ := marks_part V hn (List.mem_range.1 hi) hp
        obtain ⟨y, u, g1, g2, g3⟩ := marks_part V hn (List.mem_range.1 hj) hq
        unfold ltP
        rw [h1, g1, cmpL_pre, cmpL_head (by omega)]
    · rw [List.pairwise_map]
      refine List.Pairwise.imp (R := fun a b => a < b) ?_ List.pairwise_lt_range
      intro i j hij
      unfold ltP
      rw [key_pre, key_pre, cmpL_pre, cmpL_head (by omega)]
    · rcases node_split V hn with ⟨hk, _⟩ | ⟨ht, _⟩
      · rw [hk]; intro p hp; simp at hp
      · rw [ht]; intro p _ q hq; simp at hq
theorem idx_nd {α : Type} [DecidableEq α] [Inhabited α] {l : List α} (hn : l.Nodup) {A B : List α} {x : α} (h : l = A ++ x :: B) : idxM (· == x) l = A.length := by
  have hl : A.length < l.length := by rw [h]; simp
  refine idxM_some hl (fun j hj => ?_) (by rw [h]; simp [nth, List.getD_eq_getElem?_getD])
  have : nth l j ∈ A := by
    have e : nth l j = nth A j := by rw [h]; unfold nth; rw [List.getD_eq_getElem?_getD, List.getElem?_append_left hj, ← List.getD_eq_getElem?_getD]
    rw [e]; exact nth_mem' hj
  rw [beq_eq_false_iff_ne]
  intro e
  rw [h, List.nodup_append] at hn
  exact hn.2.2 (nth l j) this x List.mem_cons_self e
theorem sorted_nodup {l : List HPoint} (h : l.Pairwise (ltP d)) : l.Nodup := h.imp fun {a b} hab e => by
  subst e; unfold ltP at hab; rw [cmpL_self] at hab; omega
theorem sorted_idx {l : List HPoint} (h : l.Pairwise (ltP d)) {p q : HPoint} (hp : p ∈ l) (hq : q ∈ l) : cmpL (key d p) (key d q) = cmpI (idxM (· == p) l) (idxM (· == q) l) := by
  have hn := sorted_nodup h
  have two : ∀ {A B C : List HPoint} {p q : HPoint}, l = A ++ p :: (B ++ q :: C) → ltP d p q ∧ idxM (· == p) l < idxM (· == q) l := fun {A B C p q} e => by
    constructor
    · rw [e, List.pairwise_append] at h
      exact (List.pairwise_cons.1 h.2.1).1 q (by simp)
    · rw [idx_nd hn e, idx_nd hn (A := A ++ p :: B) (B := C) (x := q) (by rw [e]; simp)]
      simp; omega
  obtain ⟨A, B, e⟩ := List.append_of_mem hp
  have hq' := hq
  rw [e] at hq'
  rcases List.mem_append.1 hq' with hq' | hq'
  · obtain ⟨A1, A2, e2⟩ := List.append_of_mem hq'
    obtain ⟨h1, h2⟩ := two (A := A1) (B := A2) (C := B) (p := q) (q := p) (by rw [e, e2]; simp)
    unfold ltP at h1
    rw [cmpL_neg, h1]
    unfold cmpI; rw [if_neg (by omega), if_pos h2]; rfl
  · rcases List.mem_cons.1 hq' with rfl | hq'
    · rw [cmpL_self, cmpI_self]
    · obtain ⟨A1, A2, e2⟩ := List.append_of_mem hq'
      obtain ⟨h1, h2⟩ := two (A := A) (B := A1) (C := A2) (p := p) (q := q) (by rw [e, e2])
      unfold ltP at h1
      rw [h1]
      unfold cmpI; rw [if_pos h2]
theorem marks_has (V : DV d) {n a : Int} (hn : inD d n) (h0 : 0 ≤ a) (h1 : a ≤ roomM d n) : (⟨n, a⟩ : HPoint) ∈ marks d n := by
  rw [marks_eq V hn]
  by_cases hz : a = 0
  · subst hz; exact List.mem_cons_self
  · refine List.mem_cons_of_mem _ (List.mem_append.2 ?_)
    obtain ⟨k, hk⟩ : ∃ k : Nat, a = (k : Int) + 1 := ⟨(a - 1).toNat, by omega⟩
    subst hk
    rcases node_split V hn with ⟨_, hr⟩ | ⟨_, hr, _⟩
    · exact .inr (List.mem_map.2 ⟨k, List.mem_range.2 (by omega), rfl⟩)
    · exact .inl (List.mem_flatMap.2 ⟨k, List.mem_range.2 (by omega), by simp⟩)
theorem marks_sub (V : DV d) : ∀ n, inD d n → ∀ m ∈ below d n, ∀ p ∈ marks d m, p ∈ marks d n := V.down fun n hn ih m hm p hp => by
  rw [below_eq V hn] at hm
  rcases List.mem_cons.1 hm with rfl | hm
  · exact hp
  · obtain ⟨k, hk, hm⟩ := List.mem_flatMap.1 hm
    obtain ⟨i, hi, rfl⟩ := mem_nth hk
    rw [marks_eq V hn]
    exact List.mem_cons_of_mem _ (List.mem_append.2 (.inl (List.mem_flatMap.2 ⟨i, List.mem_range.2 hi, List.mem_append.2 (.inl (ih _ hk m hm p hp))⟩)))
theorem point_marks (V : DV d) {p : HPoint} (h : pointE d p = 0) : inD d p.node ∧ 0 ≤ p.at' ∧ p.at' ≤ roomM d p.node ∧ 0 ∈ chain d p.node ∧ p ∈ marks d 0 := by
  unfold pointE at h
  split at h
  · omega
  · rename_i h1
    have h1 := Classical.not_not.1 h1
    split at h
    · omega
    · rename_i h2
      have h2 := Classical.not_not.1 h2
      exact ⟨h1.1, h1.2.1, h1.2.2, h2, marks_sub V 0 V.zero _ ((mem_below V h1.1 V.zero).2 h2) _ (marks_has V h1.1 h1.2.1 h1.2.2)⟩
/-- the order of two points -/
def orderM (d : HDoc) (a b : HPoint) : Int := if a.node = b.node then cmpI a.at' b.at' else cmpL (key d a) (key d b)
theorem order_key (d : HDoc) (a b : HPoint) : orderM d a b = cmpL (key d a) (key d b) := by
  unfold orderM
  split
  · rename_i h
    obtain ⟨n, x⟩ := a
    obtain ⟨m, y⟩ := b
    simp only at h
    subst h
    rw [key_pre, key_pre, cmpL_pre, cmpL_one]
    show cmpI x y = cmpI (2 * x) (2 * y)
    unfold cmpI
    by_cases h1 : x < y
    · rw [if_pos h1, if_pos (by omega)]
    · rw [if_neg h1, if_neg (show ¬ 2 * x < 2 * y by omega)]
      by_cases h2 : y < x
      · rw [if_pos h2, if_pos (by omega)]
      · rw [if_neg h2, if_neg (by omega)]
  · rfl
def markM (d : HDoc) (p : HPoint) : Int := idxM (· == p) (marks d 0)
theorem order_mark (V : DV d) {p q : HPoint} (hp : p ∈ marks d 0) (hq : q ∈ marks d 0) : orderM d p q = cmpI (markM d p) (markM d q) := by
  rw [order_key, sorted_idx (marks_sorted V 0 V.zero) hp hq]; rfl
end
end Go.Proofs.K
end
section
/- Ranges: order, points, span, Check, Less; the reference's errors. -/
set_option linter.unusedSimpArgs false
set_option linter.unusedVariables false
namespace Go.Proofs.K
open Go Go.Sim Go.Proofs
variable {G : Glob}
theorem eP_len (p : HPoint) : (eP p).length = 2 := rfl
theorem eP_take (p : HPoint) : (eP p).take 2 = eP p := rfl
theorem key_len {d : HDoc} (V : DV d) {p : HPoint} (hn : inD d p.node) : (key d p).length ≤ 42 := by
  have := rkey_len V hn
  unfold key; simp; omega
def c99 : SFun := ⟨(.seq (.reg [⟨(some 3), (.boxF 89 2 (.t 0)), none⟩, ⟨(some 4), (.boxF 50 2 (.t 1)), none⟩, ⟨(some 5), (.boxF 50 2 (.t 2)), none⟩, ⟨(some 6), (.mv (.c (.int .i64 (0)))), none⟩]) (.seq (.seq (.reg [⟨(some 7), (.fldA 0 (.t 4)), none⟩, ⟨(some 8), (.ld 1 false (.t 7)), none⟩, ⟨(some 9), (.fldA 0 (.t 5)), none⟩, ⟨(some 10), (.ld 1 false (.t 9)), none⟩, ⟨(some 11), (.bin .eql (.t 8) (.t 10)), none⟩]) (.cond (.t 11) (.seq (.reg [⟨(some 12), (.fldA 1 (.t 4)), none⟩, ⟨(some 13), (.ld 1 false (.t 12)), none⟩, ⟨(some 14), (.fldA 1 (.t 5)), none⟩, ⟨(some 15), (.ld 1 false (.t 14)), none⟩, ⟨(some 16), (.pcall 129 [(.t 13), (.t 15)]), none⟩, ⟨(some 6), (.mv (.t 16)), none⟩]) .ret) .skip)) (.seq (.dreg [(⟨(some 17), (.ld 2 true (.t 3)), none⟩, none), (⟨(some 18), (.ld 2 true (.t 4)), none⟩, none), (⟨(some 19), (.pcall 131 [(.t 17), (.t 18)]), none⟩, none), (⟨(some 20), (.ld 2 true (.t 3)), none⟩, none), (⟨(some 21), (.ld 2 true (.t 5)), none⟩, none), (⟨(some 22), (.pcall 131 [(.t 20), (.t 21)]), none⟩, none), (⟨(some 23), (.pcall 130 [(.t 19), (.t 22)]), none⟩, none), (⟨(some 6), (.mv (.t 23)), none⟩, none)]) .ret))), [(.tmp 6)]⟩
theorem hc99 : toSF Tryz.prog {pure := [129, 130, 131]} Tryz.f99 = some c99 := by kernel_rfl
theorem hn99 : (Tryz.f99.name == "runtime.NumGoroutine") = false := by kernel_rfl
theorem order_ok (d : HDoc) (V : DV d) (sm : DocSm d) (p q : HPoint) (hp : pointE d p = 0) (hq : pointE d q = 0) : PCalls (Pg G) 99 [.agg (eDoc d), .agg (eP p), .agg (eP q)] (aInt (orderM d p q)) := fun h => by
  obtain ⟨p1, p2, p3, p4, p5⟩ := point_marks V hp
  obtain ⟨q1, q2, q3, q4, q5⟩ := point_marks V hq
  have rp := room_le sm p.node
  have rq := room_le sm q.node
  have hC := cmp_ok (G := G) p.at' q.at'
  have hP := spath_ok (G := G) d V sm p p1 p4 ⟨p2, by omega⟩
  have hQ := spath_ok (G := G) d V sm q q1 q4 ⟨q2, by omega⟩
  have hL := cmpL_ok (G := G) (key d p) (key d q) (by have := key_len V p1; omega) (by have := key_len V q1; omega)
  unfold eDoc eP at hP hQ
  refine dcalls_of_vc Tryz.func99 hn99 hc99 (by rw [Tryz.ntmps99]; simp) (by rw [Tryz.ntmps99]; decide) ?_
  unfold orderM
  by_cases h1 : p.node = q.node
  · rw [if_pos h1]
    simp -dsimp -implicitDefEqProofs (disch := omega) only [VCA, Nat.reduceEqDiff, Nat.reduceAdd, Nat.reduceLeDiff, ↓reduceIte, c99, eP, eDoc]
    repeat' (first | ((with_reducible refine Br.dec (fun _ => ?_) (fun _ => ?_)) <;> try (exfalso; omega)) | ((with_reducible refine Br.eq (fun _ => ?_) (fun _ => ?_)) <;> try (exfalso; omega)) | ((with_reducible refine Br.ne (fun _ => ?_) (fun _ => ?_)) <;> try (exfalso; omega)) | ((with_reducible refine brNdec (fun _ => ?_) (fun _ => ?_)) <;> try (exfalso; omega)) | ((with_reducible refine brNeq (fun _ => ?_) (fun _ => ?_)) <;> try (exfalso; omega)) | with_reducible refine Br.intro (fun _ => ?_) (fun _ => ?_) | (with_reducible apply pcallE.of; · exact hC) | (with_reducible refine And.intro ?_ ?_; · omega) | simp -dsimp -implicitDefEqProofs (disch := omega) only [VCA, Nat.reduceEqDiff, ↓reduceIte, exists_eq_right])
    all_goals exact Sub.refl _
  · rw [if_neg h1]
    simp -dsimp -implicitDefEqProofs (disch := omega) only [VCA, Nat.reduceEqDiff, Nat.reduceAdd, Nat.reduceLeDiff, ↓reduceIte, c99, eP, eDoc]
    repeat' (first | ((with_reducible refine Br.dec (fun _ => ?_) (fun _ => ?_)) <;> try (exfalso; omega)) | ((with_reducible refine Br.eq (fun _ => ?_) (fun _ => ?_)) <;> try (exfalso; omega)) | ((with_reducible refine Br.ne (fun _ => ?_) (fun _ => ?_)) <;> try (exfalso; omega)) | ((with_reducible refine brNdec (fun _ => ?_) (fun _ => ?_)) <;> try (exfalso; omega)) | ((with_reducible refine brNeq (fun _ => ?_) (fun _ => ?_)) <;> try (exfalso; omega)) | with_reducible refine Br.intro (fun _ => ?_) (fun _ => ?_) | (with_reducible apply pcallE.of; · exact hP) | (with_reducible apply pcallE.of; · exact hQ) | (with_reducible apply pcallE.of; · exact hL) | (with_reducible refine And.intro ?_ ?_; · omega) | simp -dsimp -implicitDefEqProofs (disch := omega) only [VCA, Nat.reduceEqDiff, Nat.reduceAdd, ↓reduceIte, rsOf, rootsOf, exists_eq_right, rootL])
    all_goals exact Sub.refl _
def pointsE (d : HDoc) (l : List HPoint) : Int := if docE d ≠ 0 then docE d else fe l.length fun j => pointE d (nth l j)
def c98 : SFun := ⟨(.seq (.reg [⟨(some 2), (.boxF 24 2 (.t 0)), none⟩, ⟨(some 4), (.new 89 2 [.emp, (.bool false)]), none⟩, ⟨(some 5), (.mv (.c (.int .i64 (0)))), none⟩]) (.seq (.reg [⟨(some 11), (.ld 2 true (.t 2)), none⟩, ⟨(some 12), (.bld [.emp, (.bool false)] [(0, (2, (.t 11)))]), none⟩, ⟨(some 6), (.new 89 2 [.emp, (.bool false)]), none⟩, ⟨none, (.st 2 (.t 6) (.t 12)), none⟩]) (.seq (.seq (.reg [⟨(some 13), (.ld 2 true (.t 2)), none⟩, ⟨(some 14), (.pcall 47 [(.t 13)]), none⟩, ⟨(some 7), (.mv (.t 14)), none⟩]) (.seq (.reg [⟨(some 15), (.mv (.t 7)), none⟩, ⟨(some 16), (.bin .neq (.t 15) (.c (.int .i64 (0)))), none⟩]) (.cond (.t 16) (.seq (.reg [⟨(some 17), (.ld 2 true (.t 6)), none⟩, ⟨(some 18), (.mv (.t 7)), none⟩, ⟨none, (.st 2 (.t 4) (.t 17)), none⟩, ⟨(some 5), (.mv (.t 18)), none⟩]) .ret) .skip))) (.seq (.seq (.reg [⟨(some 19), (.mv (.t 1)), none⟩, ⟨(some 20), (.len (.t 19)), none⟩, ⟨(some 21), (.mv (.c (.int .i64 (0)))), none⟩]) (.block 0 (.loop (.seq (.reg [⟨(some 22), (.bin .lss (.t 21) (.t 20)), none⟩]) (.seq (.cond (.t 22) .skip (.exit 0)) (.seq (.block 1 (.seq (.reg [⟨(some 23), (.idxA 2 (.t 19) (.t 21)), none⟩, ⟨(some 24), (.ld 2 true (.t 23)), none⟩, ⟨(some 9), (.new 50 2 [(.int .i64 (0)), (.int .i64 (0))]), none⟩, ⟨none, (.st 2 (.t 9) (.t 24)), none⟩]) (.seq (.reg [⟨(some 25), (.ld 2 true (.t 6)), none⟩, ⟨(some 26), (.ld 2 true (.t 9)), none⟩, ⟨(some 27), (.pcall 128 [(.t 25), (.t 26)]), none⟩, ⟨(some 10), (.mv (.t 27)), none⟩]) (.seq (.reg [⟨(some 28), (.mv (.t 10)), none⟩, ⟨(some 29), (.bin .neq (.t 28) (.c (.int .i64 (0)))), none⟩]) (.cond (.t 29) (.seq (.reg [⟨(some 30), (.ld 2 true (.t 6)), none⟩, ⟨(some 31), (.mv (.t 10)), none⟩, ⟨none, (.st 2 (.t 4) (.t 30)), none⟩, ⟨(some 5), (.mv (.t 31)), none⟩]) .ret) .skip))))) (.reg [⟨(some 32), (.bin .add (.t 21) (.c (.int .i64 (1)))), none⟩, ⟨(some 21), (.mv (.t 32)), none⟩]))))))) (.seq (.reg [⟨(some 33), (.ld 2 true (.t 6)), none⟩, ⟨none, (.st 2 (.t 4) (.t 33)), none⟩, ⟨(some 5), (.mv (.c (.int .i64 (0)))), none⟩]) .ret))))), [(.cell 4 2 true), (.tmp 5)]⟩
theorem hc98 : toSF Tryz.prog {pure := [47, 128]} Tryz.f98 = some c98 := by kernel_rfl
theorem hn98 : (Tryz.f98.name == "runtime.NumGoroutine") = false := by kernel_rfl
theorem points_ok (d : HDoc) (sm : DocSm d) (l : List HPoint) (hl : l.length ≤ 1073741824) : PCalls (Pg G) 98 [.agg (eDoc d), sl eP l] (.tup [.agg (eDoc d), aInt (pointsE d l)]) := fun h => by
  have hC := check_ok (G := G) d sm
  refine dcalls_of_vc Tryz.func98 hn98 hc98 (by rw [Tryz.ntmps98]; simp) (by rw [Tryz.ntmps98]; decide) ?_
  simp -dsimp -implicitDefEqProofs (disch := omega) only [VCA, ↓upd_none, Nat.reduceEqDiff, Nat.reduceAdd, Nat.reduceLT, ↓reduceIte, fillA, okFill, setAt, ne_eq, exists_eq_left', c98, eDoc_len, eDoc_take]
  intro r4 h4 r6 h6
  have n1 : ¬ r4 = r6 := fun e => h6.1 e.symm
  have n2 : ¬ r6 = r4 := h6.1
  refine pcallE.of (hC) ?_; simp -dsimp -implicitDefEqProofs (disch := omega) only [VCA, ↓reduceIte]
  by_cases h1 : docE d = 0
  · have V := docE_DV h1
    rw [h1]
    refine Br.ne (fun hh => absurd rfl hh) (fun _ => ?_)
    have hE : pointsE d l = fe l.length fun j => pointE d (nth l j) := by unfold pointsE; rw [if_neg (by simpa using h1)]
    simp -dsimp -implicitDefEqProofs (disch := omega) only [VCA, Nat.reduceEqDiff, ↓reduceIte]
    refine LoopVC.intro (fun m e h' => ∃ k : Nat, k ≤ l.length ∧ m = l.length - k ∧ e 4 = .vp r4 0 ∧ e 6 = .vp r6 0 ∧ e 19 = sl eP l ∧ e 20 = aInt l.length ∧ e 21 = aInt k ∧ h' r4 = some ⟨.t 89, 2, [[.emp, .bool false]]⟩ ∧ h' r6 = some ⟨.t 89, 2, [eDoc d]⟩ ∧ Sim.Sub h h' ∧ ∀ j, j < k → pointE d (nth l j) = 0) l.length ⟨0, by omega, by omega, rfl, rfl, rfl, rfl, rfl, ?_, ?_, ?_, by omega⟩ ?_
    · simp [upd, n1]
    · exact upd_same _ _ _
    · exact ((Sub.refl h).upd h4).upd h6.2
    rintro m e h' ⟨k, hk, rfl, he4, he6, he19, he20, he21, g4, g6, S, hj⟩
    simp -dsimp -implicitDefEqProofs (disch := omega) only [VCA, ↓reduceIte, he20, he21]
    refine Br.dec (fun hlt => ?_) (fun hge => ?_)
    · have hk' : k < l.length := by omega
      have hP := point_ok (G := G) d V sm (nth l k)
      simp -dsimp -implicitDefEqProofs (disch := omega) only [VCA, Nat.reduceEqDiff, Nat.reduceAdd, Nat.reduceLT, ↓reduceIte, setAt, exists_eq_left', he6, he19, he21, eP_len, eP_take]
      refine ⟨by omega, fun r9 h9 => ?_⟩
      have S9 : h r9 = none := by
        cases hh : h r9 with
        | none => rfl
        | some o => rw [S _ _ hh] at h9; cases h9
      have ne6 : ¬ r6 = r9 := fun e => by rw [e, h9] at g6; cases g6
      have ne4 : ¬ r4 = r9 := fun e => by rw [e, h9] at g4; cases g4
      simp -dsimp -implicitDefEqProofs (disch := omega) only [VCA, Nat.reduceLT, ↓reduceIte, exists_eq_left', ne6, g6, eDoc_len, eDoc_take]
      refine pcallE.of (hP) ?_; simp -dsimp -implicitDefEqProofs (disch := omega) only [VCA, ↓reduceIte, ne6, g6, eDoc_take, eP_take]
      refine Br.ne (fun h2 => ?_) (fun h2 => ?_)
      · simp -dsimp -implicitDefEqProofs (disch := omega) only [VCA, Nat.reduceEqDiff, Nat.reduceAdd, Nat.reduceLT, ↓reduceIte, setAt, exists_eq_right_right, exists_eq_left', he4, he6, ne6, ne4, g6, g4, eDoc_len, eDoc_take]
        have hz : (fe l.length fun j => pointE d (nth l j)) = pointE d (nth l k) := fe_some hk' hj h2
        rw [hE, hz]
        exact ⟨(S.upd S9).upd h4, rfl⟩
      · simp -dsimp -implicitDefEqProofs (disch := omega) only [VCA, Nat.reduceEqDiff, ↓reduceIte, he4, he6, he19, he20, he21]
        refine ⟨_, ?_, k + 1, by omega, rfl, by omega, ?_, ?_, ?_, ?_⟩
        · omega
        · rw [if_neg ne4]; exact g4
        · rw [if_neg ne6]; exact g6
        · exact S.upd S9
        · intro j hj'
          by_cases hjk : j = k
          · subst hjk; exact h2
          · exact hj j (by omega)
    · obtain rfl : k = l.length := by omega
      have hz : (fe l.length fun j => pointE d (nth l j)) = 0 := fe_none hj
      rw [hE, hz]
      simp -dsimp -implicitDefEqProofs (disch := omega) only [VCA, Nat.reduceEqDiff, Nat.reduceAdd, Nat.reduceLT, ↓reduceIte, setAt, exists_eq_right_right, exists_eq_left', he4, he6, g4, g6, eDoc_len, eDoc_take]
      exact S.upd h4
  · have hE : pointsE d l = docE d := by unfold pointsE; rw [if_pos h1]
    rw [hE]
    repeat' (first | ((with_reducible refine Br.dec (fun _ => ?_) (fun _ => ?_)) <;> try (exfalso; omega)) | ((with_reducible refine Br.eq (fun _ => ?_) (fun _ => ?_)) <;> try (exfalso; omega)) | ((with_reducible refine Br.ne (fun _ => ?_) (fun _ => ?_)) <;> try (exfalso; omega)) | ((with_reducible refine brNdec (fun _ => ?_) (fun _ => ?_)) <;> try (exfalso; omega)) | ((with_reducible refine brNeq (fun _ => ?_) (fun _ => ?_)) <;> try (exfalso; omega)) | with_reducible refine Br.intro (fun _ => ?_) (fun _ => ?_) | (with_reducible refine And.intro ?_ ?_; · omega) | simp -dsimp -implicitDefEqProofs (disch := omega) only [VCA, Nat.reduceEqDiff, Nat.reduceAdd, Nat.reduceLT, ↓reduceIte, setAt, exists_eq_right_right, exists_eq_left', n1, eDoc_len, eDoc_take])
    exact (((Sub.refl h).upd h4).upd h6.2).upd h4
def spanE (d : HDoc) (s : HSpan) : Int := if pointsE d [s.a, s.b] ≠ 0 then pointsE d [s.a, s.b] else if 0 < orderM d s.a s.b then 9 else 0
theorem pointsE_zero {d : HDoc} {p q : HPoint} (h : pointsE d [p, q] = 0) : docE d = 0 ∧ pointE d p = 0 ∧ pointE d q = 0 := by
  unfold pointsE at h
  split at h
  · contradiction
  · rename_i h1
    have := fe_zero h
    exact ⟨by simpa using h1, this 0 (by simp), this 1 (by simp)⟩
def c54 : SFun := ⟨(.seq (.reg [⟨(some 2), (.boxF 24 2 (.t 0)), none⟩, ⟨(some 3), (.boxF 52 4 (.t 1)), none⟩, ⟨(some 4), (.new 89 2 [.emp, (.bool false)]), none⟩, ⟨(some 5), (.mv (.c (.int .i64 (0)))), none⟩]) (.seq (.reg [⟨(some 9), (.ld 2 true (.t 2)), none⟩, ⟨(some 10), (.fldA 0 (.t 3)), none⟩, ⟨(some 11), (.ld 2 true (.t 10)), none⟩, ⟨(some 12), (.fldA 2 (.t 3)), none⟩, ⟨(some 13), (.ld 2 true (.t 12)), none⟩, ⟨(some 14), (.bldF 50 2 [(.t 11), (.t 13)]), none⟩, ⟨(some 15), (.pcall 98 [(.t 9), (.t 14)]), none⟩, ⟨(some 8), (.mv (.t 15)), none⟩, ⟨(some 16), (.ext (.t 8) 0), none⟩, ⟨(some 17), (.ext (.t 8) 1), none⟩, ⟨(some 6), (.new 89 2 [.emp, (.bool false)]), none⟩, ⟨none, (.st 2 (.t 6) (.t 16)), none⟩, ⟨(some 7), (.mv (.t 17)), none⟩]) (.seq (.seq (.reg [⟨(some 18), (.mv (.t 7)), none⟩, ⟨(some 19), (.bin .eql (.t 18) (.c (.int .i64 (0)))), none⟩, ⟨(some 20), (.mv (.t 19)), none⟩, ⟨(some 21), (.ld 2 true (.t 6)), (some (20, true))⟩, ⟨(some 22), (.fldA 0 (.t 3)), (some (20, true))⟩, ⟨(some 23), (.ld 2 true (.t 22)), (some (20, true))⟩, ⟨(some 24), (.fldA 2 (.t 3)), (some (20, true))⟩, ⟨(some 25), (.ld 2 true (.t 24)), (some (20, true))⟩, ⟨(some 26), (.pcall 99 [(.t 21), (.t 23), (.t 25)]), (some (20, true))⟩, ⟨(some 27), (.bin .gtr (.t 26) (.c (.int .i64 (0)))), (some (20, true))⟩, ⟨(some 28), (.pick (.t 20) (.t 27) (.c (.bool false))), none⟩]) (.cond (.t 28) (.reg [⟨(some 7), (.mv (.c (.int .i64 (9)))), none⟩]) .skip)) (.seq (.reg [⟨(some 29), (.ld 2 true (.t 6)), none⟩, ⟨(some 30), (.mv (.t 7)), none⟩, ⟨none, (.st 2 (.t 4) (.t 29)), none⟩, ⟨(some 5), (.mv (.t 30)), none⟩]) .ret)))), [(.cell 4 2 true), (.tmp 5)]⟩
theorem hc54 : toSF Tryz.prog {pure := [98, 99]} Tryz.f54 = some c54 := by kernel_rfl
theorem hn54 : (Tryz.f54.name == "runtime.NumGoroutine") = false := by kernel_rfl
theorem span_ok (d : HDoc) (sm : DocSm d) (s : HSpan) : PCalls (Pg G) 54 [.agg (eDoc d), .agg (eS s)] (.tup [.agg (eDoc d), aInt (spanE d s)]) := fun h => by
  have hC : PCalls (Pg G) 98 [.agg (eDoc d), .slc [eP s.a, eP s.b]] (.tup [.agg (eDoc d), aInt (pointsE d [s.a, s.b])]) := points_ok (G := G) d sm [s.a, s.b] (by simp)
  unfold eP at hC
  refine dcalls_of_vc Tryz.func54 hn54 hc54 (by rw [Tryz.ntmps54]; simp) (by rw [Tryz.ntmps54]; decide) ?_
  simp -dsimp -implicitDefEqProofs (disch := omega) only [VCA, Nat.reduceEqDiff, Nat.reduceAdd, Nat.reduceLeDiff, ↓reduceIte, okParts, c54, eDoc_len, eDoc_take, eS]
  intro r4 h4
  refine pcallE.of (hC) ?_; simp -dsimp -implicitDefEqProofs (disch := omega) only [↓vcOps_sp 20, VCA, ↓upd_none, Nat.reduceEqDiff, Nat.reduceAdd, Nat.reduceLT, ↓reduceIte, setAt, ne_eq, exists_eq_left', eDoc_len]
  intro r6 h6
  have n1 : ¬ r4 = r6 := fun e => h6.1 e.symm
  have n2 : ¬ r6 = r4 := h6.1
  have S : Sim.Sub h (upd (upd (upd h r4 (some ⟨.t 89, 2, [[.emp, .bool false]]⟩)) r6 (some ⟨.t 89, 2, [eDoc d]⟩)) r4 (some ⟨.t 89, 2, [eDoc d]⟩)) := (((Sub.refl h).upd h4).upd h6.2).upd h4
  by_cases h1 : pointsE d [s.a, s.b] = 0
  · obtain ⟨hd, hp, hq⟩ := pointsE_zero h1
    have V := docE_DV hd
    have hO := order_ok (G := G) d V sm s.a s.b hp hq
    unfold eP at hO
    have hE : spanE d s = if 0 < orderM d s.a s.b then 9 else 0 := by unfold spanE; rw [if_neg (by simpa using h1)]
    rw [h1, hE]
    repeat' (first | ((with_reducible refine Br.dec (fun _ => ?_) (fun _ => ?_)) <;> try (exfalso; omega)) | ((with_reducible refine Br.eq (fun _ => ?_) (fun _ => ?_)) <;> try (exfalso; omega)) | ((with_reducible refine Br.ne (fun _ => ?_) (fun _ => ?_)) <;> try (exfalso; omega)) | ((with_reducible refine brNdec (fun _ => ?_) (fun _ => ?_)) <;> try (exfalso; omega)) | ((with_reducible refine brNeq (fun _ => ?_) (fun _ => ?_)) <;> try (exfalso; omega)) | with_reducible refine Br.intro (fun _ => ?_) (fun _ => ?_) | (with_reducible apply pcallE.of; · exact hO) | (with_reducible refine And.intro ?_ ?_; · omega) | simp -dsimp -implicitDefEqProofs (disch := omega) only [VCA, Nat.reduceEqDiff, Nat.reduceAdd, Nat.reduceLT, Nat.reduceLeDiff, ↓reduceIte, setAt, exists_eq_right_right, exists_eq_left', n1, eDoc_len, eDoc_take])
    · rename_i q; rw [if_pos q]
    · rename_i q; rw [if_neg q]
  · have hE : spanE d s = pointsE d [s.a, s.b] := by unfold spanE; rw [if_pos h1]
    rw [hE]
    repeat' (first | ((with_reducible refine Br.dec (fun _ => ?_) (fun _ => ?_)) <;> try (exfalso; omega)) | ((with_reducible refine Br.eq (fun _ => ?_) (fun _ => ?_)) <;> try (exfalso; omega)) | ((with_reducible refine Br.ne (fun _ => ?_) (fun _ => ?_)) <;> try (exfalso; omega)) | ((with_reducible refine brNdec (fun _ => ?_) (fun _ => ?_)) <;> try (exfalso; omega)) | ((with_reducible refine brNeq (fun _ => ?_) (fun _ => ?_)) <;> try (exfalso; omega)) | with_reducible refine Br.intro (fun _ => ?_) (fun _ => ?_) | (with_reducible refine And.intro ?_ ?_; · omega) | simp -dsimp -implicitDefEqProofs (disch := omega) only [VCA, Nat.reduceEqDiff, Nat.reduceAdd, Nat.reduceLT, ↓reduceIte, setAt, exists_eq_right_right, exists_eq_left', n1, eDoc_len, eDoc_take])
    exact S
theorem eS_len (s : HSpan) : (eS s).length = 4 := rfl
theorem eS_take (s : HSpan) : (eS s).take 4 = eS s := rfl
def c56 : SFun := ⟨(.seq (.reg [⟨(some 2), (.boxF 24 2 (.t 0)), none⟩, ⟨(some 3), (.boxF 50 2 (.t 1)), none⟩, ⟨(some 4), (.mv (.c (.int .i64 (0)))), none⟩]) (.seq (.seq (.reg [⟨(some 7), (.fldA 0 (.t 3)), none⟩, ⟨(some 8), (.ld 1 false (.t 7)), none⟩, ⟨(some 9), (.fldA 0 (.t 2)), none⟩, ⟨(some 10), (.ld 1 false (.t 9)), none⟩, ⟨(some 11), (.len (.t 10)), none⟩, ⟨(some 12), (.bin .sub (.t 11) (.c (.int .i64 (1)))), none⟩, ⟨(some 13), (.pcall 76 [(.t 8), (.c (.int .i64 (0))), (.t 12)]), none⟩, ⟨(some 14), (.un .not (.t 13)), none⟩]) (.cond (.t 14) (.seq (.reg [⟨(some 4), (.mv (.c (.int .i64 (1)))), none⟩]) .ret) .skip)) (.seq (.reg [⟨(some 15), (.fldA 0 (.t 2)), none⟩, ⟨(some 16), (.ld 1 false (.t 15)), none⟩, ⟨(some 17), (.fldA 0 (.t 3)), none⟩, ⟨(some 18), (.ld 1 false (.t 17)), none⟩, ⟨(some 19), (.idxA 6 (.t 16) (.t 18)), none⟩, ⟨(some 20), (.ld 6 true (.t 19)), none⟩, ⟨(some 5), (.new 40 6 [(.int .i64 (0)), (.str []), .emp, (.str []), (.int .i64 (0)), .emp]), none⟩, ⟨none, (.st 6 (.t 5) (.t 20)), none⟩]) (.seq (.reg [⟨(some 21), (.fldA 5 (.t 5)), none⟩, ⟨(some 22), (.ld 1 false (.t 21)), none⟩, ⟨(some 23), (.len (.t 22)), none⟩, ⟨(some 6), (.mv (.t 23)), none⟩]) (.seq (.seq (.reg [⟨(some 24), (.fldA 0 (.t 5)), none⟩, ⟨(some 25), (.ld 1 false (.t 24)), none⟩, ⟨(some 26), (.bin .eql (.t 25) (.c (.int .i64 (3)))), none⟩, ⟨(some 27), (.mv (.t 26)), none⟩, ⟨(some 28), (.fldA 0 (.t 5)), (some (27, false))⟩, ⟨(some 29), (.ld 1 false (.t 28)), (some (27, false))⟩, ⟨(some 30), (.bin .eql (.t 29) (.c (.int .i64 (4)))), (some (27, false))⟩, ⟨(some 31), (.pick (.t 27) (.c (.bool true)) (.t 30)), none⟩]) (.cond (.t 31) (.reg [⟨(some 32), (.fldA 3 (.t 5)), none⟩, ⟨(some 33), (.ld 1 false (.t 32)), none⟩, ⟨(some 34), (.lenS (.t 33)), none⟩, ⟨(some 6), (.mv (.t 34)), none⟩]) .skip)) (.seq (.seq (.reg [⟨(some 35), (.fldA 1 (.t 3)), none⟩, ⟨(some 36), (.ld 1 false (.t 35)), none⟩, ⟨(some 37), (.mv (.t 6)), none⟩, ⟨(some 38), (.pcall 76 [(.t 36), (.c (.int .i64 (0))), (.t 37)]), none⟩, ⟨(some 39), (.un .not (.t 38)), none⟩]) (.cond (.t 39) (.seq (.reg [⟨(some 4), (.mv (.c (.int .i64 (1)))), none⟩]) .ret) .skip)) (.seq (.seq (.reg [⟨(some 40), (.ld 2 true (.t 2)), none⟩, ⟨(some 41), (.fldA 0 (.t 3)), none⟩, ⟨(some 42), (.ld 1 false (.t 41)), none⟩, ⟨(some 43), (.pcall 62 [(.t 40), (.t 42), (.c (.int .i64 (0)))]), none⟩, ⟨(some 44), (.un .not (.t 43)), none⟩]) (.cond (.t 44) (.seq (.reg [⟨(some 4), (.mv (.c (.int .i64 (5)))), none⟩]) .ret) .skip)) (.seq (.reg [⟨(some 4), (.mv (.c (.int .i64 (0)))), none⟩]) .ret)))))))), [(.tmp 4)]⟩
theorem hc56 : toSF Tryz.prog {pure := [76, 62]} Tryz.f56 = some c56 := by kernel_rfl
theorem hn56 : (Tryz.f56.name == "runtime.NumGoroutine") = false := by kernel_rfl
theorem pointErr_ok (d : HDoc) (V : DV d) (sm : DocSm d) (p : HPoint) : PCalls (Pg G) 56 [.agg (eDoc d), .agg (eP p)] (aInt (pointE d p)) := fun h => by
  have hl := V.len
  have hB := betw_ok (G := G) p.node 0 ((d.nodes.length : Int) - 1)
  have inP : inD d p.node ↔ (decide ((0 : Int) ≤ p.node) && decide (p.node ≤ (d.nodes.length : Int) - 1)) = true := by
    unfold inD; simp; omega
  refine dcalls_of_vc Tryz.func56 hn56 hc56 (by rw [Tryz.ntmps56]; simp) (by rw [Tryz.ntmps56]; decide) ?_
  simp -dsimp -implicitDefEqProofs (disch := omega) only [VCA, Nat.reduceEqDiff, Nat.reduceAdd, Nat.reduceLeDiff, ↓reduceIte, c56, eP]
  cases hb : (decide ((0 : Int) ≤ p.node) && decide (p.node ≤ (d.nodes.length : Int) - 1))
  · have hE : pointE d p = 1 := by unfold pointE; rw [if_pos (fun hh => by rw [inP, hb] at hh; cases hh.1)]
    rw [hb] at hB
    rw [hE]
    repeat' (first | ((with_reducible refine Br.dec (fun _ => ?_) (fun _ => ?_)) <;> try (exfalso; omega)) | ((with_reducible refine Br.eq (fun _ => ?_) (fun _ => ?_)) <;> try (exfalso; omega)) | ((with_reducible refine Br.ne (fun _ => ?_) (fun _ => ?_)) <;> try (exfalso; omega)) | ((with_reducible refine brNdec (fun _ => ?_) (fun _ => ?_)) <;> try (exfalso; omega)) | ((with_reducible refine brNeq (fun _ => ?_) (fun _ => ?_)) <;> try (exfalso; omega)) | with_reducible refine Br.intro (fun _ => ?_) (fun _ => ?_) | (with_reducible apply pcallE.of; · exact hB) | (with_reducible refine And.intro ?_ ?_; · omega) | simp -dsimp -implicitDefEqProofs (disch := omega) only [VCA, Nat.reduceAdd, Nat.reduceLeDiff, ↓reduceIte, exists_eq_right, eDoc])
    all_goals exact Sub.refl _
  · have hn := inP.2 hb
    have n0 := hn.1
    have n1 := hn.2
    rw [hb] at hB
    have e0 : nth d.nodes p.node.toNat = nd d p.node := rfl
    have hU := under_ok (G := G) d V p.node 0 hn (by omega)
    have hR := betw_ok (G := G) p.at' 0 (roomM d p.node)
    unfold eDoc at hU
    have e1 : pointE d p = if (decide ((0 : Int) ≤ p.at') && decide (p.at' ≤ (roomM d p.node : Int))) = false then 1 else if decide (0 ∈ chain d p.node) = false then 5 else 0 := by
      unfold pointE
      by_cases h2 : 0 ≤ p.at' ∧ p.at' ≤ (roomM d p.node : Int)
      · have hd : (decide ((0 : Int) ≤ p.at') && decide (p.at' ≤ (roomM d p.node : Int))) = true := by simp [h2]
        rw [if_neg (by simp [hn, h2]), hd]; simp
      · rw [if_pos (fun hh => h2 hh.2), if_pos (by simp; omega)]
    rw [e1]
    have e3 : (roomM d p.node : Int) = if (nd d p.node).kind = 3 ∨ (nd d p.node).kind = 4 then ((nd d p.node).text.length : Int) else ((nd d p.node).kids.length : Int) := by unfold roomM; split <;> rfl
    by_cases h3 : (nd d p.node).kind = 3 ∨ (nd d p.node).kind = 4
    · rw [if_pos h3] at e3
      rw [e3] at hR ⊢
      generalize (decide ((0 : Int) ≤ p.at') && decide (p.at' ≤ ((nd d p.node).text.length : Int))) = x at *
      generalize decide (0 ∈ chain d p.node) = y at *
      repeat' (first | ((with_reducible refine Br.dec (fun _ => ?_) (fun _ => ?_)) <;> try (exfalso; omega)) | ((with_reducible refine Br.eq (fun _ => ?_) (fun _ => ?_)) <;> try (exfalso; omega)) | ((with_reducible refine Br.ne (fun _ => ?_) (fun _ => ?_)) <;> try (exfalso; omega)) | ((with_reducible refine brNdec (fun _ => ?_) (fun _ => ?_)) <;> try (exfalso; omega)) | ((with_reducible refine brNeq (fun _ => ?_) (fun _ => ?_)) <;> try (exfalso; omega)) | with_reducible refine Br.intro (fun _ => ?_) (fun _ => ?_) | (with_reducible apply pcallE.of; · exact hB) | (with_reducible refine And.intro ?_ ?_; · omega) | simp -dsimp -implicitDefEqProofs (disch := omega) only [↓vcOps_sp 27, VCA, Nat.reduceEqDiff, Nat.reduceAdd, Nat.reduceLT, Nat.reduceLeDiff, ↓reduceIte, setAt, exists_eq_left', eDoc, eNode, e0])
      intro r hr
      repeat' (first | ((with_reducible refine Br.dec (fun _ => ?_) (fun _ => ?_)) <;> try (exfalso; omega)) | ((with_reducible refine Br.eq (fun _ => ?_) (fun _ => ?_)) <;> try (exfalso; omega)) | ((with_reducible refine Br.ne (fun _ => ?_) (fun _ => ?_)) <;> try (exfalso; omega)) | ((with_reducible refine brNdec (fun _ => ?_) (fun _ => ?_)) <;> try (exfalso; omega)) | ((with_reducible refine brNeq (fun _ => ?_) (fun _ => ?_)) <;> try (exfalso; omega)) | with_reducible refine Br.intro (fun _ => ?_) (fun _ => ?_) | (with_reducible apply pcallE.of; · exact hR) | (with_reducible apply pcallE.of; · exact hU) | (with_reducible refine And.intro ?_ ?_; · omega) | simp -dsimp -implicitDefEqProofs (disch := omega) only [VCA, Nat.reduceEqDiff, Nat.reduceAdd, Nat.reduceLT, Nat.reduceLeDiff, ↓reduceIte, exists_eq_right_right, exists_eq_left'])
      all_goals clear hR hU e1 hB
      all_goals cases x <;> cases y <;> first | exact ⟨(Sub.refl h).upd hr, rfl⟩ | (exfalso; simp_all; done)
    · rw [if_neg h3] at e3
      rw [e3] at hR ⊢
      generalize (decide ((0 : Int) ≤ p.at') && decide (p.at' ≤ ((nd d p.node).kids.length : Int))) = x at *
      generalize decide (0 ∈ chain d p.node) = y at *
      repeat' (first | ((with_reducible refine Br.dec (fun _ => ?_) (fun _ => ?_)) <;> try (exfalso; omega)) | ((with_reducible refine Br.eq (fun _ => ?_) (fun _ => ?_)) <;> try (exfalso; omega)) | ((with_reducible refine Br.ne (fun _ => ?_) (fun _ => ?_)) <;> try (exfalso; omega)) | ((with_reducible refine brNdec (fun _ => ?_) (fun _ => ?_)) <;> try (exfalso; omega)) | ((with_reducible refine brNeq (fun _ => ?_) (fun _ => ?_)) <;> try (exfalso; omega)) | with_reducible refine Br.intro (fun _ => ?_) (fun _ => ?_) | (with_reducible apply pcallE.of; · exact hB) | (with_reducible refine And.intro ?_ ?_; · omega) | simp -dsimp -implicitDefEqProofs (disch := omega) only [↓vcOps_sp 27, VCA, Nat.reduceEqDiff, Nat.reduceAdd, Nat.reduceLT, Nat.reduceLeDiff, ↓reduceIte, setAt, exists_eq_left', eDoc, eNode, e0])
      intro r hr
      repeat' (first | ((with_reducible refine Br.dec (fun _ => ?_) (fun _ => ?_)) <;> try (exfalso; omega)) | ((with_reducible refine Br.eq (fun _ => ?_) (fun _ => ?_)) <;> try (exfalso; omega)) | ((with_reducible refine Br.ne (fun _ => ?_) (fun _ => ?_)) <;> try (exfalso; omega)) | ((with_reducible refine brNdec (fun _ => ?_) (fun _ => ?_)) <;> try (exfalso; omega)) | ((with_reducible refine brNeq (fun _ => ?_) (fun _ => ?_)) <;> try (exfalso; omega)) | with_reducible refine Br.intro (fun _ => ?_) (fun _ => ?_) | (with_reducible apply pcallE.of; · exact hR) | (with_reducible apply pcallE.of; · exact hU) | (with_reducible refine And.intro ?_ ?_; · omega) | simp -dsimp -implicitDefEqProofs (disch := omega) only [VCA, Nat.reduceEqDiff, Nat.reduceAdd, Nat.reduceLT, Nat.reduceLeDiff, ↓reduceIte, exists_eq_right_right, exists_eq_left'])
      all_goals clear hR hU e1 hB
      all_goals cases x <;> cases y <;> first | exact ⟨(Sub.refl h).upd hr, rfl⟩ | (exfalso; simp_all; done)
end Go.Proofs.K
end
section
/- Ranges: the reference's marks, SpanErr. -/
set_option linter.unusedSimpArgs false
set_option linter.unusedVariables false
namespace Go.Proofs.K
open Go Go.Sim Go.Proofs
variable {G : Glob}
theorem text_len {d : HDoc} (V : DV d) {n : Int} (hn : inD d n) : (nd d n).text.length ≤ 400 := by
  have h := V.node n hn
  unfold nodeE at h
  split at h
  · omega
  · split at h
    · omega
    · split at h
      · rename_i h1; exact absurd h h1
      · split at h
        · omega
        · omega
theorem textM_len {d : HDoc} (V : DV d) {n : Int} (hn : inD d n) : (textM (nd d n)).length ≤ 400 := by
  unfold textM; split
  · simp
  · exact text_len V hn
theorem flatMap_len {α β γ : Type} {l : List α} {f : α → List β} {g : α → List γ} {c : Nat} (h : ∀ a ∈ l, (f a).length ≤ c * (g a).length) : (l.flatMap f).length ≤ c * (l.flatMap g).length := by
  induction l with
  | nil => simp
  | cons a l ih =>
    rw [List.flatMap_cons, List.flatMap_cons, List.length_append, List.length_append, Nat.mul_add]
    have := h a List.mem_cons_self
    have := ih fun b hb => h b (List.mem_cons_of_mem _ hb)
    omega
theorem range_flat {α : Type} {l : List Int} (f : Int → List α) : (List.range l.length).flatMap (fun i => f (nth l i)) = l.flatMap f := by
  induction l with
  | nil => rfl
  | cons x l ih =>
    rw [List.length_cons, List.range_succ_eq_map, List.flatMap_cons, List.flatMap_cons, List.flatMap_map]
    show f x ++ (List.range l.length).flatMap (fun i => f (nth l i)) = _
    rw [ih]
theorem marks_len {d : HDoc} (V : DV d) : ∀ n, inD d n → (marks d n).length + 1 ≤ 403 * (below d n).length := V.down fun n hn ih => by
  have ht := textM_len V hn
  rw [marks_eq V hn, below_eq V hn]
  have h1 : ((List.range (nd d n).kids.length).flatMap (fun i => marks d (nth (nd d n).kids i) ++ [(⟨n, (i : Int) + 1⟩ : HPoint)])).length ≤ 403 * ((List.range (nd d n).kids.length).flatMap fun i => below d (nth (nd d n).kids i)).length := by
    refine flatMap_len fun i hi => ?_
    have := ih _ (nth_mem' (List.mem_range.1 hi))
    rw [List.length_append]
    simpa using this
  rw [range_flat] at h1
  simp only [List.length_cons, List.length_append, List.length_map, List.length_range]
  omega
def c101 : SFun := ⟨(.seq (.reg [⟨(some 2), (.boxF 24 2 (.t 0)), none⟩, ⟨(some 4), (.mv (.c .emp)), none⟩]) (.seq (.reg [⟨(some 9), (.fldA 0 (.t 2)), none⟩, ⟨(some 10), (.ld 1 false (.t 9)), none⟩, ⟨(some 11), (.mv (.t 1)), none⟩, ⟨(some 12), (.idxA 6 (.t 10) (.t 11)), none⟩, ⟨(some 13), (.ld 6 true (.t 12)), none⟩, ⟨(some 5), (.new 40 6 [(.int .i64 (0)), (.str []), .emp, (.str []), (.int .i64 (0)), .emp]), none⟩, ⟨none, (.st 6 (.t 5) (.t 13)), none⟩]) (.seq (.reg [⟨(some 14), (.mv (.t 1)), none⟩, ⟨(some 15), (.bld [(.int .i64 (0)), (.int .i64 (0))] [(0, (1, (.t 14)))]), none⟩, ⟨(some 16), (.bldR 50 2 [(.t 15)]), none⟩, ⟨(some 6), (.mv (.t 16)), none⟩]) (.seq (.seq (.reg [⟨(some 7), (.mv (.c (.int .i64 (0)))), none⟩]) (.block 0 (.loop (.seq (.seq (.reg [⟨(some 17), (.mv (.t 7)), none⟩, ⟨(some 18), (.fldA 5 (.t 5)), none⟩, ⟨(some 19), (.ld 1 false (.t 18)), none⟩, ⟨(some 20), (.len (.t 19)), none⟩, ⟨(some 21), (.bin .lss (.t 17) (.t 20)), none⟩]) (.cond (.t 21) .skip (.exit 0))) (.seq (.block 1 (.seq (.dreg [(⟨(some 24), (.mv (.t 6)), none⟩, none), (⟨(some 25), (.ld 2 true (.t 2)), none⟩, none), (⟨(some 26), (.fldA 5 (.t 5)), none⟩, none), (⟨(some 27), (.ld 1 false (.t 26)), none⟩, none), (⟨(some 28), (.mv (.t 7)), none⟩, none), (⟨(some 29), (.idxA 1 (.t 27) (.t 28)), none⟩, none), (⟨(some 30), (.ld 1 false (.t 29)), none⟩, none), (⟨(some 31), (.pcall 101 [(.t 25), (.t 30)]), none⟩, none), (⟨(some 32), (.app 50 2 16 (.t 24) (.t 31)), none⟩, (some [25, 30, 27])), (⟨(some 6), (.mv (.t 32)), none⟩, (some [25, 30, 27]))]) (.reg [⟨(some 33), (.mv (.t 6)), none⟩, ⟨(some 34), (.mv (.t 1)), none⟩, ⟨(some 35), (.mv (.t 7)), none⟩, ⟨(some 36), (.bin .add (.t 35) (.c (.int .i64 (1)))), none⟩, ⟨(some 37), (.bld [(.int .i64 (0)), (.int .i64 (0))] [(0, (1, (.t 34))), (1, (1, (.t 36)))]), none⟩, ⟨(some 38), (.bldF 50 2 [(.t 37)]), none⟩, ⟨(some 39), (.app 50 2 16 (.t 33) (.t 38)), none⟩, ⟨(some 6), (.mv (.t 39)), none⟩]))) (.reg [⟨(some 22), (.mv (.t 7)), none⟩, ⟨(some 23), (.bin .add (.t 22) (.c (.int .i64 (1)))), none⟩, ⟨(some 7), (.mv (.t 23)), none⟩])))))) (.seq (.seq (.reg [⟨(some 8), (.mv (.c (.int .i64 (1)))), none⟩]) (.block 2 (.loop (.seq (.seq (.reg [⟨(some 40), (.mv (.t 8)), none⟩, ⟨(some 41), (.fldA 3 (.t 5)), none⟩, ⟨(some 42), (.ld 1 false (.t 41)), none⟩, ⟨(some 43), (.lenS (.t 42)), none⟩, ⟨(some 44), (.bin .leq (.t 40) (.t 43)), none⟩, ⟨(some 45), (.mv (.t 44)), none⟩, ⟨(some 46), (.fldA 0 (.t 5)), (some (45, true))⟩, ⟨(some 47), (.ld 1 false (.t 46)), (some (45, true))⟩, ⟨(some 48), (.bin .neq (.t 47) (.c (.int .i64 (5)))), (some (45, true))⟩, ⟨(some 49), (.pick (.t 45) (.t 48) (.c (.bool false))), none⟩]) (.cond (.t 49) .skip (.exit 2))) (.seq (.block 3 (.reg [⟨(some 52), (.mv (.t 6)), none⟩, ⟨(some 53), (.mv (.t 1)), none⟩, ⟨(some 54), (.mv (.t 8)), none⟩, ⟨(some 55), (.bld [(.int .i64 (0)), (.int .i64 (0))] [(0, (1, (.t 53))), (1, (1, (.t 54)))]), none⟩, ⟨(some 56), (.bldF 50 2 [(.t 55)]), none⟩, ⟨(some 57), (.app 50 2 16 (.t 52) (.t 56)), none⟩, ⟨(some 6), (.mv (.t 57)), none⟩])) (.reg [⟨(some 50), (.mv (.t 8)), none⟩, ⟨(some 51), (.bin .add (.t 50) (.c (.int .i64 (1)))), none⟩, ⟨(some 8), (.mv (.t 51)), none⟩])))))) (.seq (.reg [⟨(some 58), (.mv (.t 6)), none⟩, ⟨(some 4), (.mv (.t 58)), none⟩]) .ret)))))), [(.tmp 4)]⟩
theorem hc101 : toSF Tryz.prog {pure := [101], how := [(16, 2)]} Tryz.f101 = some c101 := by kernel_rfl
theorem hn101 : (Tryz.f101.name == "runtime.NumGoroutine") = false := by kernel_rfl
theorem marks_ok (d : HDoc) (V : DV d) (sm : DocSm d) : ∀ n, inD d n → PCalls (Pg G) 101 [.agg (eDoc d), aInt n] (sl eP (marks d n)) := V.down fun n hn ih => PCalls.acc (ty := 50) (sz := 2) fun h => by
  have hl := V.len
  have n0 := hn.1
  have n1 := hn.2
  have e0 : nth d.nodes n.toNat = nd d n := rfl
  have kl := (sm.nd n).kids
  have tl := text_len V hn
  have ml := marks_len V n hn
  have bl := below_len V hn
  refine dcalls_of_vc Tryz.func101 hn101 hc101 (by rw [Tryz.ntmps101]; simp) (by rw [Tryz.ntmps101]; decide) ?_
  simp -dsimp -implicitDefEqProofs (disch := omega) only [VCA, ↓upd_none, Nat.reduceEqDiff, Nat.reduceAdd, Nat.reduceLT, Nat.reduceLeDiff, ↓reduceIte, okParts, fillA, okFill, setAt, ne_eq, exists_eq_left', lit_eq, c101, eDoc, eNode]
  rw [e0]
  refine ⟨by omega, ?_⟩
  intro r hr r6 h6
  have SH : Sim.Sub h (upd h r (some ⟨.t 40, 6, [eNode (nd d n)]⟩)) := (Sub.refl h).upd hr
  have g6 : (upd h r (some ⟨.t 40, 6, [eNode (nd d n)]⟩)) r6 = none := by simp [upd, h6.1, h6.2]
  have g5 : (upd h r (some ⟨.t 40, 6, [eNode (nd d n)]⟩)) r = some ⟨.t 40, 6, [eNode (nd d n)]⟩ := upd_same _ _ _
  show LoopVC _ _ _ (upd (upd h r (some ⟨.t 40, 6, [eNode (nd d n)]⟩)) r6 (some ⟨.t 50, 2, [⟨n, 0⟩].map eP⟩))
  generalize upd h r (some ⟨.t 40, 6, [eNode (nd d n)]⟩) = h1 at *
  have me := marks_eq V hn
  generalize hF : (fun i : Nat => marks d (nth (nd d n).kids i) ++ [(⟨n, (i : Int) + 1⟩ : HPoint)]) = F at me
  have fl : ∀ k, k ≤ (nd d n).kids.length → ((List.range k).flatMap F).length + 1 ≤ (marks d n).length := fun k hk => by
    have h1 : ∀ (a b : Nat), ((List.range a).flatMap F).length ≤ ((List.range (a + b)).flatMap F).length := fun a b => by
      induction b with
      | zero => exact Nat.le_refl _
      | succ b ih => rw [← Nat.add_assoc, List.range_succ, List.flatMap_append, List.length_append]; omega
    have h2 := h1 k ((nd d n).kids.length - k)
    rw [show k + ((nd d n).kids.length - k) = (nd d n).kids.length by omega] at h2
    rw [me]
    simp only [List.length_cons, List.length_append]
    omega
  refine LoopVC.intro (fun m e h' => ∃ k : Nat, k ≤ (nd d n).kids.length ∧ m = (nd d n).kids.length - k ∧ e 1 = aInt n ∧ e 2 = .pin (eDoc d) ∧ e 5 = .vp r 0 ∧ e 7 = aInt k ∧ Acc h1 50 2 ((⟨n, 0⟩ :: (List.range k).flatMap F).map eP) (e 6) h' ∧ Sim.Sub h1 h') _ ⟨0, by omega, rfl, rfl, rfl, rfl, rfl, Acc.root g6 (upd_same _ _ _), (Sub.refl h1).upd g6⟩ ?_
  rintro m e h' ⟨k, hk, rfl, he1, he2, he5, he7, A, S⟩
  have k5 := S _ _ g5
  unfold eNode at k5
  have fk := fl k hk
  simp -dsimp -implicitDefEqProofs (disch := omega) only [VCA, Nat.reduceEqDiff, Nat.reduceAdd, Nat.reduceLT, ↓reduceIte, exists_eq_left', he5, he7, k5]
  refine Br.dec (fun hlt => ?_) (fun hge => ?_)
  · have hk' : k < (nd d n).kids.length := by omega
    have hM := ih _ (nth_mem' hk')
    unfold eDoc at hM
    have fk2 := fl (k + 1) (by omega)
    rw [List.range_succ, List.flatMap_append, List.flatMap_cons, List.flatMap_nil, List.append_nil, List.length_append] at fk2
    have hFk : F k = marks d (nth (nd d n).kids k) ++ [(⟨n, (k : Int) + 1⟩ : HPoint)] := by rw [← hF]
    rw [hFk, List.length_append, List.length_singleton] at fk2
    simp -dsimp -implicitDefEqProofs (disch := omega) only [VCA, Nat.reduceEqDiff, Nat.reduceAdd, Nat.reduceLT, ↓reduceIte, rsOf, rootsOf, exists_eq_left', rootL, eInt, he2, he5, he7, k5, eDoc]
    refine ⟨by omega, ?_⟩
    refine pcallE.of (hM) ?_; simp -dsimp -implicitDefEqProofs (disch := omega) only [VCA, Nat.reduceEqDiff, ↓reduceIte, rsOf, rootsOf, exists_eq_left, rootL]
    refine A.app S (by simp only [List.length_map, List.length_cons]; omega) (by simp only [List.length_map, List.length_cons]; omega) fun a2 h2 A2 S2 => ?_
    have k52 := S2 _ _ g5
    unfold eNode at k52
    simp -dsimp -implicitDefEqProofs (disch := omega) only [VCA, Nat.reduceEqDiff, Nat.reduceBEq, Nat.reduceAdd, Nat.reduceLeDiff, ↓reduceIte, SOp.rd, SI.rd, SX.rd, okParts, fillA, okFill, implies_true, forall_eq, exists_eq_left, he1, he7, k5, k52]
    refine A2.app S2 (by simp only [List.length_map, List.length_cons, List.length_append, List.length_nil]; omega) (by simp only [List.length_map, List.length_cons, List.length_append, List.length_nil]; omega) fun a3 h3 A3 S3 => ?_
    simp -dsimp -implicitDefEqProofs (disch := omega) only [VCA, Nat.reduceEqDiff, ↓reduceIte, he1, he2, he5, he7]
    have A4 : Acc h1 50 2 ((⟨n, 0⟩ :: (List.range (k + 1)).flatMap F).map eP) a3 h3 := by
      rw [List.range_succ, List.flatMap_append, List.flatMap_cons, List.flatMap_nil, List.append_nil, hFk]
      simpa [eP] using A3
    exact ⟨_, by omega, k + 1, by omega, rfl, rfl, by omega, A4, S3⟩
  · obtain rfl : k = (nd d n).kids.length := by omega
    have hT : (textM (nd d n)).length = if (nd d n).kind = 5 then 0 else (nd d n).text.length := by unfold textM; split <;> rfl
    have mel := congrArg List.length me
    simp only [List.length_cons, List.length_append, List.length_map, List.length_range] at mel
    have A0 : Acc h1 50 2 ((⟨n, 0⟩ :: ((List.range (nd d n).kids.length).flatMap F ++ (List.range 0).map fun i : Nat => (⟨n, (i : Int) + 1⟩ : HPoint))).map eP) (e 6) h' := by simpa using A
    simp -dsimp -implicitDefEqProofs (disch := omega) only [VCA, ↓reduceIte]
    refine LoopVC.intro (fun m e h' => ∃ k : Nat, k ≤ (textM (nd d n)).length ∧ m = (textM (nd d n)).length - k ∧ e 1 = aInt n ∧ e 5 = .vp r 0 ∧ e 8 = aInt ((k : Int) + 1) ∧ Acc h1 50 2 ((⟨n, 0⟩ :: ((List.range (nd d n).kids.length).flatMap F ++ (List.range k).map fun i : Nat => (⟨n, (i : Int) + 1⟩ : HPoint))).map eP) (e 6) h' ∧ Sim.Sub h1 h') _ ⟨0, by omega, rfl, he1, he5, rfl, A0, S⟩ ?_
    clear he1 he5 A0 A S k5
    rintro m e h' ⟨k, hk, rfl, he1, he5, he8, A, S⟩
    have k5 := S _ _ g5
    unfold eNode at k5
    simp -dsimp -implicitDefEqProofs (disch := omega) only [↓vcOps_sp 45, VCA, Nat.reduceEqDiff, Nat.reduceAdd, Nat.reduceLT, Nat.reduceLeDiff, ↓reduceIte, exists_eq_left', he5, he8, k5]
    by_cases hlt : k < (textM (nd d n)).length
    · have h5 : (nd d n).kind ≠ 5 := fun e => by rw [if_pos e] at hT; omega
      rw [if_neg h5] at hT
      repeat' (first | ((with_reducible refine Br.dec (fun _ => ?_) (fun _ => ?_)) <;> try (exfalso; omega)) | ((with_reducible refine Br.eq (fun _ => ?_) (fun _ => ?_)) <;> try (exfalso; omega)) | ((with_reducible refine Br.ne (fun _ => ?_) (fun _ => ?_)) <;> try (exfalso; omega)) | ((with_reducible refine brNdec (fun _ => ?_) (fun _ => ?_)) <;> try (exfalso; omega)) | ((with_reducible refine brNeq (fun _ => ?_) (fun _ => ?_)) <;> try (exfalso; omega)) | with_reducible refine Br.intro (fun _ => ?_) (fun _ => ?_) | (with_reducible refine And.intro ?_ ?_; · omega) | simp -dsimp -implicitDefEqProofs (disch := omega) only [VCA, Nat.reduceEqDiff, Nat.reduceAdd, Nat.reduceLT, Nat.reduceLeDiff, ↓reduceIte, okParts, fillA, okFill, forall_eq, exists_eq_left, exists_eq_left', he1, he5, he8, k5])
      refine A.app S (by simp only [List.length_map, List.length_cons, List.length_append, List.length_nil, List.length_range]; omega) (by simp only [List.length_map, List.length_cons, List.length_append, List.length_nil, List.length_range]; omega) fun a3 h3 A3 S3 => ?_
      simp -dsimp -implicitDefEqProofs (disch := omega) only [VCA, Nat.reduceEqDiff, ↓reduceIte, he1, he5, he8]
      have A4 : Acc h1 50 2 ((⟨n, 0⟩ :: ((List.range (nd d n).kids.length).flatMap F ++ (List.range (k + 1)).map fun i : Nat => (⟨n, (i : Int) + 1⟩ : HPoint))).map eP) a3 h3 := by
        rw [List.range_succ]
        simpa [eP] using A3
      first | exact ⟨_, by omega, k + 1, by omega, rfl, by omega, A4, S3⟩ | exact ⟨_, by omega, k + 1, by omega, rfl, rfl, by omega, A4, S3⟩ | exact ⟨_, by omega, k + 1, by omega, rfl, rfl, rfl, by omega, A4, S3⟩
    · obtain rfl : k = (textM (nd d n)).length := by omega
      rw [← me] at A
      have fin := A.mono SH
      repeat' (first | ((with_reducible refine Br.dec (fun _ => ?_) (fun _ => ?_)) <;> try (exfalso; omega)) | ((with_reducible refine Br.eq (fun _ => ?_) (fun _ => ?_)) <;> try (exfalso; omega)) | ((with_reducible refine Br.ne (fun _ => ?_) (fun _ => ?_)) <;> try (exfalso; omega)) | ((with_reducible refine brNdec (fun _ => ?_) (fun _ => ?_)) <;> try (exfalso; omega)) | ((with_reducible refine brNeq (fun _ => ?_) (fun _ => ?_)) <;> try (exfalso; omega)) | with_reducible refine Br.intro (fun _ => ?_) (fun _ => ?_) | (with_reducible refine And.intro ?_ ?_; · omega) | simp -dsimp -implicitDefEqProofs (disch := omega) only [VCA, Nat.reduceEqDiff, Nat.reduceAdd, Nat.reduceLT, Nat.reduceLeDiff, ↓reduceIte, okParts, fillA, okFill, forall_eq, exists_eq_left, exists_eq_left', he1, he5, he8, k5])
      all_goals first | exact ⟨h', Sub.refl _, fin, fun t o ht => S t o (SH t o ht)⟩ | (exfalso; rw [if_neg (by assumption)] at hT; omega)
theorem eP_beq (x y : HPoint) : (x == y) = (x.node == y.node && x.at' == y.at') := by
  cases x; cases y; rw [Bool.eq_iff_iff]; simp
def c57 : SFun := ⟨(.seq (.reg [⟨(some 2), (.boxF 24 2 (.t 0)), none⟩, ⟨(some 3), (.boxF 50 2 (.t 1)), none⟩, ⟨(some 4), (.mv (.c (.int .i64 (0)))), none⟩]) (.seq (.reg [⟨(some 7), (.ld 2 true (.t 2)), none⟩, ⟨(some 8), (.pcall 101 [(.t 7), (.c (.int .i64 (0)))]), none⟩, ⟨(some 5), (.mv (.t 8)), none⟩]) (.seq (.seq (.reg [⟨(some 6), (.mv (.c (.int .i64 (0)))), none⟩]) (.block 0 (.loop (.seq (.seq (.reg [⟨(some 9), (.mv (.t 6)), none⟩, ⟨(some 10), (.mv (.t 5)), none⟩, ⟨(some 11), (.len (.t 10)), none⟩, ⟨(some 12), (.bin .lss (.t 9) (.t 11)), none⟩]) (.cond (.t 12) .skip (.exit 0))) (.seq (.block 1 (.seq (.dreg [(⟨(some 15), (.mv (.t 5)), none⟩, none), (⟨(some 16), (.mv (.t 6)), none⟩, none), (⟨(some 17), (.idxA 2 (.t 15) (.t 16)), none⟩, none), (⟨(some 18), (.ld 2 true (.t 17)), none⟩, none), (⟨(some 19), (.ld 2 true (.t 3)), none⟩, none), (⟨(some 20), (.eqs false [0, 0] (.t 18) (.t 19)), none⟩, none)]) (.cond (.t 20) (.seq (.reg [⟨(some 21), (.mv (.t 6)), none⟩, ⟨(some 4), (.mv (.t 21)), none⟩]) .ret) .skip))) (.reg [⟨(some 13), (.mv (.t 6)), none⟩, ⟨(some 14), (.bin .add (.t 13) (.c (.int .i64 (1)))), none⟩, ⟨(some 6), (.mv (.t 14)), none⟩])))))) (.seq (.reg [⟨(some 4), (.mv (.c (.int .i64 (-1)))), none⟩]) .ret)))), [(.tmp 4)]⟩
theorem hc57 : toSF Tryz.prog {pure := [101]} Tryz.f57 = some c57 := by kernel_rfl
theorem hn57 : (Tryz.f57.name == "runtime.NumGoroutine") = false := by kernel_rfl
theorem markOf_ok (d : HDoc) (V : DV d) (sm : DocSm d) (p : HPoint) : PCalls (Pg G) 57 [.agg (eDoc d), .agg (eP p)] (aInt (markM d p)) := fun h => by
  have hl := V.len
  have ml := marks_len V 0 V.zero
  have bl := below_len V V.zero
  have hM := marks_ok (G := G) d V sm 0 V.zero
  refine dcalls_of_vc Tryz.func57 hn57 hc57 (by rw [Tryz.ntmps57]; simp) (by rw [Tryz.ntmps57]; decide) ?_
  simp -dsimp -implicitDefEqProofs (disch := omega) only [VCA, Nat.reduceEqDiff, ↓reduceIte, c57, eDoc_len, eDoc_take, eP_len]
  refine pcallE.of (hM) ?_; simp -dsimp -implicitDefEqProofs (disch := omega) only [VCA, ↓reduceIte]
  unfold markM
  generalize marks d 0 = L at *
  refine LoopVC.intro (fun m e h' => ∃ k : Nat, k ≤ L.length ∧ m = L.length - k ∧ e 3 = .pin (eP p) ∧ e 5 = sl eP L ∧ e 6 = aInt k ∧ h' = h ∧ ∀ j, j < k → (nth L j == p) = false) L.length ⟨0, by omega, by omega, rfl, rfl, rfl, rfl, by omega⟩ ?_
  rintro m e h' ⟨k, hk, rfl, he3, he5, he6, rfl, hj⟩
  simp -dsimp -implicitDefEqProofs (disch := omega) only [VCA, Nat.reduceEqDiff, ↓reduceIte, he5, he6]
  refine Br.dec (fun hlt => ?_) (fun hge => ?_)
  · have hk' : k < L.length := by omega
    simp -dsimp -implicitDefEqProofs (disch := omega) only [VCA, Nat.reduceEqDiff, Nat.reduceAdd, ↓reduceIte, rsOf, rootsOf, eqCells, okEqCells, rootL, he3, he5, he6, eP]
    refine ⟨by omega, ?_⟩
    refine Br.intro (fun ht => ?_) (fun hf => ?_)
    · simp -dsimp -implicitDefEqProofs (disch := omega) only [VCA, Nat.reduceEqDiff, ↓reduceIte, exists_eq_right_right, he6]
      rw [idxM_some (k := k) (by omega) hj (by rw [eP_beq]; exact ht)]; exact ⟨Sub.refl _, rfl⟩
    · simp -dsimp -implicitDefEqProofs (disch := omega) only [VCA, Nat.reduceEqDiff, ↓reduceIte, he3, he5, he6]
      refine ⟨_, ?_, k + 1, by omega, rfl, rfl, by omega, fun j hj' => ?_⟩
      · omega
      · by_cases hjk : j = k
        · subst hjk; rw [eP_beq]; exact hf
        · exact hj j (by omega)
  · obtain rfl : k = L.length := by omega
    simp -dsimp -implicitDefEqProofs (disch := omega) only [VCA, ↓reduceIte, exists_eq_right_right]
    exact ⟨Sub.refl _, (idxM_none hj).symm⟩
/-- what is wrong with a range, by the marks -/
theorem spanE_mark {d : HDoc} (s : HSpan) (h : pointsE d [s.a, s.b] = 0) : spanE d s = if markM d s.b < markM d s.a then 9 else 0 := by
  obtain ⟨hd, hp, hq⟩ := pointsE_zero h
  have V := docE_DV hd
  unfold spanE
  rw [if_neg (by simpa using h), order_mark V (point_marks V hp).2.2.2.2 (point_marks V hq).2.2.2.2]
  unfold cmpI
  by_cases h1 : markM d s.b < markM d s.a
  · rw [if_pos h1, if_neg (show ¬ markM d s.a < markM d s.b by omega), if_pos h1]; rfl
  · rw [if_neg h1]
    by_cases h2 : markM d s.a < markM d s.b
    · rw [if_pos h2, if_neg h1]; rfl
    · rw [if_neg h2, if_neg h1]; rfl
def c25 : SFun := ⟨(.seq (.reg [⟨(some 2), (.boxF 24 2 (.t 0)), none⟩, ⟨(some 3), (.boxF 52 4 (.t 1)), none⟩, ⟨(some 4), (.mv (.c (.int .i64 (0)))), none⟩]) (.seq (.reg [⟨(some 6), (.ld 2 true (.t 2)), none⟩, ⟨(some 7), (.pcall 48 [(.t 6)]), none⟩, ⟨(some 5), (.mv (.t 7)), none⟩]) (.seq (.seq (.reg [⟨(some 8), (.mv (.t 5)), none⟩, ⟨(some 9), (.bin .eql (.t 8) (.c (.int .i64 (0)))), none⟩]) (.cond (.t 9) (.reg [⟨(some 10), (.ld 2 true (.t 2)), none⟩, ⟨(some 11), (.fldA 0 (.t 3)), none⟩, ⟨(some 12), (.ld 2 true (.t 11)), none⟩, ⟨(some 13), (.pcall 56 [(.t 10), (.t 12)]), none⟩, ⟨(some 5), (.mv (.t 13)), none⟩]) .skip)) (.seq (.seq (.reg [⟨(some 14), (.mv (.t 5)), none⟩, ⟨(some 15), (.bin .eql (.t 14) (.c (.int .i64 (0)))), none⟩]) (.cond (.t 15) (.reg [⟨(some 16), (.ld 2 true (.t 2)), none⟩, ⟨(some 17), (.fldA 2 (.t 3)), none⟩, ⟨(some 18), (.ld 2 true (.t 17)), none⟩, ⟨(some 19), (.pcall 56 [(.t 16), (.t 18)]), none⟩, ⟨(some 5), (.mv (.t 19)), none⟩]) .skip)) (.seq (.seq (.dreg [(⟨(some 20), (.mv (.t 5)), none⟩, none), (⟨(some 21), (.bin .eql (.t 20) (.c (.int .i64 (0)))), none⟩, none), (⟨(some 22), (.mv (.t 21)), none⟩, none), (⟨(some 23), (.ld 2 true (.t 2)), (some (22, true))⟩, none), (⟨(some 24), (.fldA 2 (.t 3)), (some (22, true))⟩, none), (⟨(some 25), (.ld 2 true (.t 24)), (some (22, true))⟩, none), (⟨(some 26), (.pcall 57 [(.t 23), (.t 25)]), (some (22, true))⟩, none), (⟨(some 27), (.ld 2 true (.t 2)), (some (22, true))⟩, none), (⟨(some 28), (.fldA 0 (.t 3)), (some (22, true))⟩, none), (⟨(some 29), (.ld 2 true (.t 28)), (some (22, true))⟩, none), (⟨(some 30), (.pcall 57 [(.t 27), (.t 29)]), (some (22, true))⟩, none), (⟨(some 31), (.bin .lss (.t 26) (.t 30)), (some (22, true))⟩, none), (⟨(some 32), (.pick (.t 22) (.t 31) (.c (.bool false))), none⟩, none)]) (.cond (.t 32) (.reg [⟨(some 5), (.mv (.c (.int .i64 (9)))), none⟩]) .skip)) (.seq (.reg [⟨(some 33), (.mv (.t 5)), none⟩, ⟨(some 4), (.mv (.t 33)), none⟩]) .ret)))))), [(.tmp 4)]⟩
theorem hc25 : toSF Tryz.prog {pure := [48, 56, 57]} Tryz.f25 = some c25 := by kernel_rfl
theorem hn25 : (Tryz.f25.name == "runtime.NumGoroutine") = false := by kernel_rfl
theorem spanErr_ok (d : HDoc) (sm : DocSm d) (s : HSpan) : PCalls (Pg G) 25 [.agg (eDoc d), .agg (eS s)] (aInt (spanE d s)) := fun h => by
  have hD := docErr_ok (G := G) d sm
  refine dcalls_of_vc Tryz.func25 hn25 hc25 (by rw [Tryz.ntmps25]; simp) (by rw [Tryz.ntmps25]; decide) ?_
  by_cases h0 : docE d = 0
  · have V := docE_DV h0
    have hA := pointErr_ok (G := G) d V sm s.a
    have hB := pointErr_ok (G := G) d V sm s.b
    have mA := markOf_ok (G := G) d V sm s.a
    have mB := markOf_ok (G := G) d V sm s.b
    unfold eP at hA hB mA mB
    rw [h0] at hD
    have hpe : pointsE d [s.a, s.b] = if pointE d s.a ≠ 0 then pointE d s.a else pointE d s.b := by
      unfold pointsE
      rw [if_neg (by simpa using h0)]
      rfl
    by_cases h1 : pointE d s.a = 0
    · by_cases h2 : pointE d s.b = 0
      · have hz : pointsE d [s.a, s.b] = 0 := by rw [hpe, if_neg (by simpa using h1), h2]
        rw [spanE_mark s hz]
        rw [h1] at hA
        rw [h2] at hB
        simp -dsimp -implicitDefEqProofs (disch := omega) only [VCA, Nat.reduceEqDiff, Nat.reduceAdd, ↓reduceIte, c25, eDoc_len, eDoc_take, eS]
        repeat' (first | ((with_reducible refine Br.dec (fun _ => ?_) (fun _ => ?_)) <;> try (exfalso; omega)) | ((with_reducible refine Br.eq (fun _ => ?_) (fun _ => ?_)) <;> try (exfalso; omega)) | ((with_reducible refine Br.ne (fun _ => ?_) (fun _ => ?_)) <;> try (exfalso; omega)) | ((with_reducible refine brNdec (fun _ => ?_) (fun _ => ?_)) <;> try (exfalso; omega)) | ((with_reducible refine brNeq (fun _ => ?_) (fun _ => ?_)) <;> try (exfalso; omega)) | with_reducible refine Br.intro (fun _ => ?_) (fun _ => ?_) | (with_reducible apply pcallE.of; · exact hD) | (with_reducible apply pcallE.of; · exact hA) | (with_reducible apply pcallE.of; · exact hB) | (with_reducible apply pcallE.of; · exact mB) | (with_reducible apply pcallE.of; · exact mA) | (with_reducible refine And.intro ?_ ?_; · omega) | simp -dsimp -implicitDefEqProofs (disch := omega) only [↓vcD_sp 22, VCA, Nat.reduceEqDiff, Nat.reduceAdd, Nat.reduceLeDiff, ↓reduceIte, rsOf, rootsOf, exists_eq_right_right, rootL, eDoc_len, eDoc_take])
        · rename_i q; exact ⟨Sub.refl _, by rw [if_pos q]⟩
        · rename_i q; exact ⟨Sub.refl _, by rw [if_neg q]⟩
      · have hz : pointsE d [s.a, s.b] = pointE d s.b := by rw [hpe, if_neg (by simpa using h1)]
        have hE : spanE d s = pointE d s.b := by unfold spanE; rw [hz, if_pos h2]
        rw [hE]
        rw [h1] at hA
        simp -dsimp -implicitDefEqProofs (disch := omega) only [VCA, Nat.reduceEqDiff, Nat.reduceAdd, ↓reduceIte, c25, eDoc_len, eDoc_take, eS]
        repeat' (first | ((with_reducible refine Br.dec (fun _ => ?_) (fun _ => ?_)) <;> try (exfalso; omega)) | ((with_reducible refine Br.eq (fun _ => ?_) (fun _ => ?_)) <;> try (exfalso; omega)) | ((with_reducible refine Br.ne (fun _ => ?_) (fun _ => ?_)) <;> try (exfalso; omega)) | ((with_reducible refine brNdec (fun _ => ?_) (fun _ => ?_)) <;> try (exfalso; omega)) | ((with_reducible refine brNeq (fun _ => ?_) (fun _ => ?_)) <;> try (exfalso; omega)) | with_reducible refine Br.intro (fun _ => ?_) (fun _ => ?_) | (with_reducible apply pcallE.of; · exact hD) | (with_reducible apply pcallE.of; · exact hA) | (with_reducible apply pcallE.of; · exact hB) | (with_reducible refine And.intro ?_ ?_; · omega) | simp -dsimp -implicitDefEqProofs (disch := omega) only [↓vcD_sp 22, VCA, Nat.reduceEqDiff, Nat.reduceAdd, Nat.reduceLeDiff, ↓reduceIte, rsOf, rootsOf, exists_eq_right, rootL, eDoc_len, eDoc_take])
        all_goals exact Sub.refl _
    · have hz : pointsE d [s.a, s.b] = pointE d s.a := by rw [hpe, if_pos h1]
      have hE : spanE d s = pointE d s.a := by unfold spanE; rw [hz, if_pos h1]
      rw [hE]
      simp -dsimp -implicitDefEqProofs (disch := omega) only [VCA, Nat.reduceEqDiff, Nat.reduceAdd, ↓reduceIte, c25, eDoc_len, eDoc_take, eS]
      repeat' (first | ((with_reducible refine Br.dec (fun _ => ?_) (fun _ => ?_)) <;> try (exfalso; omega)) | ((with_reducible refine Br.eq (fun _ => ?_) (fun _ => ?_)) <;> try (exfalso; omega)) | ((with_reducible refine Br.ne (fun _ => ?_) (fun _ => ?_)) <;> try (exfalso; omega)) | ((with_reducible refine brNdec (fun _ => ?_) (fun _ => ?_)) <;> try (exfalso; omega)) | ((with_reducible refine brNeq (fun _ => ?_) (fun _ => ?_)) <;> try (exfalso; omega)) | with_reducible refine Br.intro (fun _ => ?_) (fun _ => ?_) | (with_reducible apply pcallE.of; · exact hD) | (with_reducible apply pcallE.of; · exact hA) | (with_reducible refine And.intro ?_ ?_; · omega) | simp -dsimp -implicitDefEqProofs (disch := omega) only [↓vcD_sp 22, VCA, Nat.reduceEqDiff, Nat.reduceAdd, Nat.reduceLeDiff, ↓reduceIte, rsOf, rootsOf, exists_eq_right, rootL, eDoc_len, eDoc_take])
      all_goals exact Sub.refl _
  · have hz : pointsE d [s.a, s.b] = docE d := by unfold pointsE; rw [if_pos h0]
    have hE : spanE d s = docE d := by unfold spanE; rw [hz, if_pos h0]
    rw [hE]
    simp -dsimp -implicitDefEqProofs (disch := omega) only [VCA, Nat.reduceEqDiff, Nat.reduceAdd, ↓reduceIte, c25, eDoc_len, eDoc_take, eS]
    repeat' (first | ((with_reducible refine Br.dec (fun _ => ?_) (fun _ => ?_)) <;> try (exfalso; omega)) | ((with_reducible refine Br.eq (fun _ => ?_) (fun _ => ?_)) <;> try (exfalso; omega)) | ((with_reducible refine Br.ne (fun _ => ?_) (fun _ => ?_)) <;> try (exfalso; omega)) | ((with_reducible refine brNdec (fun _ => ?_) (fun _ => ?_)) <;> try (exfalso; omega)) | ((with_reducible refine brNeq (fun _ => ?_) (fun _ => ?_)) <;> try (exfalso; omega)) | with_reducible refine Br.intro (fun _ => ?_) (fun _ => ?_) | (with_reducible apply pcallE.of; · exact hD) | (with_reducible refine And.intro ?_ ?_; · omega) | simp -dsimp -implicitDefEqProofs (disch := omega) only [↓vcD_sp 22, VCA, Nat.reduceEqDiff, ↓reduceIte, rsOf, rootsOf, exists_eq_right, rootL])
    all_goals exact Sub.refl _
end Go.Proofs.K
end
section
/- Ranges: the tree's order, as a list. -/
set_option linter.unusedSimpArgs false
set_option linter.unusedVariables false
namespace Go.Proofs.K
open Go Go.Sim Go.Proofs
variable {G : Glob}
def c121 : SFun := ⟨(.seq (.reg [⟨(some 3), (.boxF 24 2 (.t 0)), none⟩, ⟨(some 6), (.mv (.c .emp)), none⟩]) (.seq (.reg [⟨(some 9), (.mv (.t 2)), none⟩, ⟨(some 10), (.mv (.t 1)), none⟩, ⟨(some 11), (.bldF 3 1 [(.t 10)]), none⟩, ⟨(some 12), (.app 3 1 8 (.t 9) (.t 11)), none⟩, ⟨(some 2), (.mv (.t 12)), none⟩]) (.seq (.seq (.reg [⟨(some 13), (.fldA 0 (.t 3)), none⟩, ⟨(some 14), (.ld 1 false (.t 13)), none⟩, ⟨(some 15), (.mv (.t 1)), none⟩, ⟨(some 16), (.idxA 6 (.t 14) (.t 15)), none⟩, ⟨(some 17), (.fldA 5 (.t 16)), none⟩, ⟨(some 18), (.ld 1 false (.t 17)), none⟩, ⟨(some 19), (.len (.t 18)), none⟩, ⟨(some 20), (.mv (.c (.int .i64 (0)))), none⟩]) (.block 0 (.loop (.seq (.reg [⟨(some 21), (.bin .lss (.t 20) (.t 19)), none⟩]) (.seq (.cond (.t 21) .skip (.exit 0)) (.seq (.block 1 (.seq (.reg [⟨(some 22), (.idxA 1 (.t 18) (.t 20)), none⟩, ⟨(some 23), (.ld 1 false (.t 22)), none⟩, ⟨(some 8), (.mv (.t 23)), none⟩]) (.reg [⟨(some 24), (.ld 2 true (.t 3)), none⟩, ⟨(some 25), (.mv (.t 8)), none⟩, ⟨(some 26), (.mv (.t 2)), none⟩, ⟨(some 27), (.call (.c (.fn 121 [] [])) [(.t 24), (.t 25), (.t 26)]), none⟩, ⟨(some 2), (.mv (.t 27)), none⟩]))) (.reg [⟨(some 28), (.bin .add (.t 20) (.c (.int .i64 (1)))), none⟩, ⟨(some 20), (.mv (.t 28)), none⟩]))))))) (.seq (.reg [⟨(some 29), (.mv (.t 2)), none⟩, ⟨(some 6), (.mv (.t 29)), none⟩]) .ret)))), [(.tmp 6)]⟩
theorem hc121 : toSF Tryz.prog {} Tryz.f121 = some c121 := by kernel_rfl
theorem hn121 : (Tryz.f121.name == "runtime.NumGoroutine") = false := by kernel_rfl
theorem walk_ok (d : HDoc) (V : DV d) (sm : DocSm d) : ∀ n, inD d n → ∀ (h h1 : Heap) (L : List Int) (a : AVal), Acc h 3 1 (L.map eInt) a h1 → Sim.Sub h h1 → L.length + (below d n).length ≤ 1000000 →
    DCalls (Pg G) 121 [.agg (eDoc d), aInt n, a] h1 fun r h2 => Acc h 3 1 ((L ++ below d n).map eInt) r h2 ∧ Sim.Sub h h2 := V.down fun n hn ih h h1 L a A S hL => by
  have hl := V.len
  have n0 := hn.1
  have n1 := hn.2
  have e0 : nth d.nodes n.toNat = nd d n := rfl
  have kl := (sm.nd n).kids
  have bl := below_len V hn
  have be := below_eq V hn
  refine dcalls_of_vc Tryz.func121 hn121 hc121 (by rw [Tryz.ntmps121]; simp) (by rw [Tryz.ntmps121]; decide) ?_
  simp -dsimp -implicitDefEqProofs (disch := omega) only [VCA, Nat.reduceEqDiff, Nat.reduceAdd, ↓reduceIte, okParts, forall_eq, exists_eq_left, c121, eDoc]
  refine A.app S (by simp only [List.length_map, List.length_cons, List.length_nil]; omega) (by simp only [List.length_map, List.length_cons, List.length_nil]; omega) fun a2 h2 A2 S2 => ?_
  simp -dsimp -implicitDefEqProofs (disch := omega) only [VCA, Nat.reduceEqDiff, Nat.reduceAdd, Nat.reduceLeDiff, ↓reduceIte, eNode, e0]
  refine ⟨by omega, ?_⟩
  have A0 : Acc h 3 1 ((L ++ n :: ((nd d n).kids.take 0).flatMap (below d)).map eInt) a2 h2 := by simpa [eInt] using A2
  have bel : (below d n).length = 1 + ((nd d n).kids.flatMap (below d)).length := by rw [be, List.length_cons]; omega
  refine LoopVC.intro (fun m e h' => ∃ k : Nat, k ≤ (nd d n).kids.length ∧ m = (nd d n).kids.length - k ∧ e 3 = .pin (eDoc d) ∧ e 18 = sl eInt (nd d n).kids ∧ e 19 = aInt (nd d n).kids.length ∧ e 20 = aInt k ∧ Acc h 3 1 ((L ++ n :: ((nd d n).kids.take k).flatMap (below d)).map eInt) (e 2) h' ∧ Sim.Sub h h') _ ⟨0, by omega, rfl, rfl, rfl, rfl, rfl, A0, S2⟩ ?_
  clear A0 A2 S2 A S
  rintro m e h' ⟨k, hk, rfl, he3, he18, he19, he20, A, S⟩
  simp -dsimp -implicitDefEqProofs (disch := omega) only [VCA, ↓reduceIte, he19, he20]
  refine Br.dec (fun hlt => ?_) (fun hge => ?_)
  · have hk' : k < (nd d n).kids.length := by omega
    have hfl : (((nd d n).kids.take (k + 1)).flatMap (below d)).length ≤ ((nd d n).kids.flatMap (below d)).length := by
      conv => rhs; rw [← List.take_append_drop (k + 1) (nd d n).kids, List.flatMap_append, List.length_append]
      omega
    rw [take_snoc hk', List.flatMap_append, List.length_append] at hfl
    simp only [List.flatMap_cons, List.flatMap_nil, List.append_nil] at hfl
    have hI := ih _ (nth_mem' hk') h h' (L ++ n :: ((nd d n).kids.take k).flatMap (below d)) (e 2) A S (by rw [List.length_append, List.length_cons]; omega)
    simp -dsimp -implicitDefEqProofs (disch := omega) only [VCA, Nat.reduceEqDiff, ↓reduceIte, eInt, he3, he18, he20, eDoc_len, eDoc_take]
    refine ⟨by omega, ?_⟩
    refine DCalls.of hI ?_
    rintro r h3 ⟨A3, S3⟩
    have A4 : Acc h 3 1 ((L ++ n :: ((nd d n).kids.take (k + 1)).flatMap (below d)).map eInt) r h3 := by
      rw [take_snoc hk', List.flatMap_append]
      simpa using A3
    simp -dsimp -implicitDefEqProofs (disch := omega) only [VCA, Nat.reduceEqDiff, ↓reduceIte, he3, he18, he19, he20]
    exact ⟨_, by omega, k + 1, by omega, rfl, by omega, A4, S3⟩
  · obtain rfl : k = (nd d n).kids.length := by omega
    rw [List.take_length, ← be] at A
    simp -dsimp -implicitDefEqProofs (disch := omega) only [VCA, Nat.reduceEqDiff, ↓reduceIte]
    exact ⟨_, Sub.refl _, A, S⟩
theorem walk0_ok (d : HDoc) (V : DV d) (sm : DocSm d) (n : Int) (hn : inD d n) : PCalls (Pg G) 121 [.agg (eDoc d), aInt n, .emp] (sl eInt (below d n)) := PCalls.acc (ty := 3) (sz := 1) fun h =>
  (walk_ok (G := G) d V sm n hn h h [] .emp .nil (Sub.refl _) (by have := below_len V hn; have := V.len; simp; omega)).mono fun r h' hh => by rw [List.nil_append] at hh; exact hh
def c95 : SFun := ⟨(.seq (.reg [⟨(some 1), (.boxF 24 2 (.t 0)), none⟩, ⟨(some 2), (.mv (.c .emp)), none⟩, ⟨(some 3), (.mv (.c (.int .i64 (0)))), none⟩]) (.seq (.seq (.reg [⟨(some 5), (.ld 2 true (.t 1)), none⟩, ⟨(some 6), (.pcall 47 [(.t 5)]), none⟩, ⟨(some 4), (.mv (.t 6)), none⟩]) (.seq (.reg [⟨(some 7), (.mv (.t 4)), none⟩, ⟨(some 8), (.bin .neq (.t 7) (.c (.int .i64 (0)))), none⟩]) (.cond (.t 8) (.seq (.reg [⟨(some 9), (.mv (.t 4)), none⟩, ⟨(some 2), (.mv (.c .emp)), none⟩, ⟨(some 3), (.mv (.t 9)), none⟩]) .ret) .skip))) (.seq (.reg [⟨(some 10), (.ld 2 true (.t 1)), none⟩, ⟨(some 11), (.pcall 121 [(.t 10), (.c (.int .i64 (0))), (.c .emp)]), none⟩, ⟨(some 2), (.mv (.t 11)), none⟩, ⟨(some 3), (.mv (.c (.int .i64 (0)))), none⟩]) .ret))), [(.tmp 2), (.tmp 3)]⟩
theorem hc95 : toSF Tryz.prog {pure := [47, 121]} Tryz.f95 = some c95 := by kernel_rfl
theorem hn95 : (Tryz.f95.name == "runtime.NumGoroutine") = false := by kernel_rfl
theorem domOrder_ok (d : HDoc) (V : DV d) (h0 : docE d = 0) (sm : DocSm d) : PCalls (Pg G) 95 [.agg (eDoc d)] (.tup [sl eInt (below d 0), aInt 0]) := fun h => by
  have hC := check_ok (G := G) d sm
  have hW := walk0_ok (G := G) d V sm 0 V.zero
  rw [h0] at hC
  refine dcalls_of_vc Tryz.func95 hn95 hc95 (by rw [Tryz.ntmps95]; simp) (by rw [Tryz.ntmps95]; decide) ?_
  simp -dsimp -implicitDefEqProofs (disch := omega) only [VCA, Nat.reduceEqDiff, ↓reduceIte, c95, eDoc_len, eDoc_take]
  repeat' (first | ((with_reducible refine Br.dec (fun _ => ?_) (fun _ => ?_)) <;> try (exfalso; omega)) | ((with_reducible refine Br.eq (fun _ => ?_) (fun _ => ?_)) <;> try (exfalso; omega)) | ((with_reducible refine Br.ne (fun _ => ?_) (fun _ => ?_)) <;> try (exfalso; omega)) | ((with_reducible refine brNdec (fun _ => ?_) (fun _ => ?_)) <;> try (exfalso; omega)) | ((with_reducible refine brNeq (fun _ => ?_) (fun _ => ?_)) <;> try (exfalso; omega)) | with_reducible refine Br.intro (fun _ => ?_) (fun _ => ?_) | (with_reducible apply pcallE.of; · exact hC) | (with_reducible apply pcallE.of; · exact hW) | (with_reducible refine And.intro ?_ ?_; · omega) | simp -dsimp -implicitDefEqProofs (disch := omega) only [VCA, Nat.reduceEqDiff, ↓reduceIte, exists_eq_right, eDoc_len, eDoc_take])
  all_goals exact Sub.refl _
end Go.Proofs.K
end
section
/- Ranges: text: contracts. -/
set_option linter.unusedSimpArgs false
set_option linter.unusedVariables false
namespace Go.Proofs.K
open Go Go.Sim Go.Proofs
variable {G : Glob}
def loM (s : HSpan) (n : Int) : Int := if s.a.node = n then s.a.at' else 0
def hiM (d : HDoc) (s : HSpan) (n : Int) : Int := if s.b.node = n then s.b.at' else (nd d n).text.length
def partM (d : HDoc) (n : Int) (s : HSpan) : List UInt8 :=
  if s.a.node ≠ n ∧ orderM d ⟨n, 0⟩ s.a < 0 then [] else if s.b.node ≠ n ∧ 0 < orderM d ⟨n, 0⟩ s.b then []
  else ((nd d n).text.take (hiM d s n).toNat).drop (loM s n).toNat
def c103 : SFun := ⟨(.seq (.reg [⟨(some 3), (.boxF 89 2 (.t 0)), none⟩, ⟨(some 5), (.boxF 52 4 (.t 2)), none⟩, ⟨(some 6), (.mv (.c (.str []))), none⟩]) (.seq (.reg [⟨(some 10), (.fldA 0 (.t 3)), none⟩, ⟨(some 11), (.fldA 0 (.t 10)), none⟩, ⟨(some 12), (.ld 1 false (.t 11)), none⟩, ⟨(some 13), (.mv (.t 1)), none⟩, ⟨(some 14), (.idxA 6 (.t 12) (.t 13)), none⟩, ⟨(some 15), (.fldA 3 (.t 14)), none⟩, ⟨(some 16), (.ld 1 false (.t 15)), none⟩, ⟨(some 7), (.mv (.t 16)), none⟩]) (.seq (.reg [⟨(some 17), (.mv (.t 7)), none⟩, ⟨(some 18), (.lenS (.t 17)), none⟩, ⟨(some 8), (.mv (.c (.int .i64 (0)))), none⟩, ⟨(some 9), (.mv (.t 18)), none⟩]) (.seq (.block 0 (.seq (.reg [⟨(some 20), (.fldA 0 (.t 5)), none⟩, ⟨(some 21), (.fldA 0 (.t 20)), none⟩, ⟨(some 22), (.ld 1 false (.t 21)), none⟩, ⟨(some 23), (.mv (.t 1)), none⟩, ⟨(some 24), (.bin .eql (.t 22) (.t 23)), none⟩, ⟨(some 19), (.mv (.t 24)), none⟩]) (.cond (.t 19) (.reg [⟨(some 25), (.fldA 0 (.t 5)), none⟩, ⟨(some 26), (.fldA 1 (.t 25)), none⟩, ⟨(some 27), (.ld 1 false (.t 26)), none⟩, ⟨(some 8), (.mv (.t 27)), none⟩]) (.seq (.reg [⟨(some 29), (.ld 2 true (.t 3)), none⟩, ⟨(some 30), (.mv (.t 1)), none⟩, ⟨(some 31), (.bld [(.int .i64 (0)), (.int .i64 (0))] [(0, (1, (.t 30)))]), none⟩, ⟨(some 32), (.fldA 0 (.t 5)), none⟩, ⟨(some 33), (.ld 2 true (.t 32)), none⟩, ⟨(some 34), (.pcall 99 [(.t 29), (.t 31), (.t 33)]), none⟩, ⟨(some 35), (.bin .lss (.t 34) (.c (.int .i64 (0)))), none⟩, ⟨(some 28), (.mv (.t 35)), none⟩]) (.cond (.t 28) (.seq (.reg [⟨(some 6), (.mv (.c (.str []))), none⟩]) .ret) .skip))))) (.seq (.block 1 (.seq (.reg [⟨(some 37), (.fldA 2 (.t 5)), none⟩, ⟨(some 38), (.fldA 0 (.t 37)), none⟩, ⟨(some 39), (.ld 1 false (.t 38)), none⟩, ⟨(some 40), (.mv (.t 1)), none⟩, ⟨(some 41), (.bin .eql (.t 39) (.t 40)), none⟩, ⟨(some 36), (.mv (.t 41)), none⟩]) (.cond (.t 36) (.reg [⟨(some 42), (.fldA 2 (.t 5)), none⟩, ⟨(some 43), (.fldA 1 (.t 42)), none⟩, ⟨(some 44), (.ld 1 false (.t 43)), none⟩, ⟨(some 9), (.mv (.t 44)), none⟩]) (.seq (.reg [⟨(some 46), (.ld 2 true (.t 3)), none⟩, ⟨(some 47), (.mv (.t 1)), none⟩, ⟨(some 48), (.bld [(.int .i64 (0)), (.int .i64 (0))] [(0, (1, (.t 47)))]), none⟩, ⟨(some 49), (.fldA 2 (.t 5)), none⟩, ⟨(some 50), (.ld 2 true (.t 49)), none⟩, ⟨(some 51), (.pcall 99 [(.t 46), (.t 48), (.t 50)]), none⟩, ⟨(some 52), (.bin .gtr (.t 51) (.c (.int .i64 (0)))), none⟩, ⟨(some 45), (.mv (.t 52)), none⟩]) (.cond (.t 45) (.seq (.reg [⟨(some 6), (.mv (.c (.str []))), none⟩]) .ret) .skip))))) (.seq (.reg [⟨(some 53), (.mv (.t 7)), none⟩, ⟨(some 54), (.mv (.t 8)), none⟩, ⟨(some 55), (.mv (.t 9)), none⟩, ⟨(some 56), (.slS (.t 53) (some (.t 54)) (some (.t 55))), none⟩, ⟨(some 6), (.mv (.t 56)), none⟩]) .ret)))))), [(.tmp 6)]⟩
theorem hc103 : toSF Tryz.prog {pure := [99]} Tryz.f103 = some c103 := by kernel_rfl
theorem hn103 : (Tryz.f103.name == "runtime.NumGoroutine") = false := by kernel_rfl
theorem part_ok (d : HDoc) (V : DV d) (sm : DocSm d) (n : Int) (s : HSpan) (hn : inD d n) (hc : 0 ∈ chain d n) (hk : (nd d n).kind = 3) (ha : pointE d s.a = 0) (hb : pointE d s.b = 0) (ho : orderM d s.a s.b ≤ 0) :
    PCalls (Pg G) 103 [.agg (eDoc d), aInt n, .agg (eS s)] (.str (partM d n s)) := fun h => by
  have hl := V.len
  have n0 := hn.1
  have n1 := hn.2
  have e0 : nth d.nodes n.toNat = nd d n := rfl
  have tl := (sm.nd n).text
  have hr : roomM d n = (nd d n).text.length := by unfold roomM; rw [if_pos (.inl hk)]
  obtain ⟨a1, a2, a3, a4, a5⟩ := point_marks V ha
  obtain ⟨b1, b2, b3, b4, b5⟩ := point_marks V hb
  have hp : pointE d ⟨n, 0⟩ = 0 := by unfold pointE; rw [if_neg (by simp [hn]), if_neg (by simpa using hc)]
  have oA := order_ok (G := G) d V sm ⟨n, 0⟩ s.a hp ha
  have oB := order_ok (G := G) d V sm ⟨n, 0⟩ s.b hp hb
  replace oA : PCalls (Pg G) 99 [.agg [sl eNode d.nodes, .bool d.quirks], .agg [aInt n, aInt 0], .agg [aInt s.a.node, aInt s.a.at']] (aInt (orderM d ⟨n, 0⟩ s.a)) := oA
  replace oB : PCalls (Pg G) 99 [.agg [sl eNode d.nodes, .bool d.quirks], .agg [aInt n, aInt 0], .agg [aInt s.b.node, aInt s.b.at']] (aInt (orderM d ⟨n, 0⟩ s.b)) := oB
  have c0 : nth d.nodes n.toNat = nd d n := rfl
  refine dcalls_of_vc Tryz.func103 hn103 hc103 (by rw [Tryz.ntmps103]; simp) (by rw [Tryz.ntmps103]; decide) ?_
  unfold partM loM hiM
  by_cases h1 : s.a.node = n
  · have ea := a3
    rw [h1, hr] at ea
    by_cases h2 : s.b.node = n
    · have eb := b3
      rw [h2, hr] at eb
      have hab : s.a.at' ≤ s.b.at' := by
        unfold orderM at ho
        rw [if_pos (by rw [h1, h2])] at ho
        unfold cmpI at ho
        split at ho <;> first | omega | (split at ho <;> omega)
      simp -dsimp -implicitDefEqProofs (disch := omega) only [VCA, Nat.reduceEqDiff, Nat.reduceAdd, Nat.reduceLeDiff, ↓reduceIte, ne_eq, c103, eDoc, eNode, eS, h1, h2, c0]
      repeat' (first | ((with_reducible refine Br.dec (fun _ => ?_) (fun _ => ?_)) <;> try (exfalso; omega)) | ((with_reducible refine Br.eq (fun _ => ?_) (fun _ => ?_)) <;> try (exfalso; omega)) | ((with_reducible refine Br.ne (fun _ => ?_) (fun _ => ?_)) <;> try (exfalso; omega)) | ((with_reducible refine brNdec (fun _ => ?_) (fun _ => ?_)) <;> try (exfalso; omega)) | ((with_reducible refine brNeq (fun _ => ?_) (fun _ => ?_)) <;> try (exfalso; omega)) | with_reducible refine Br.intro (fun _ => ?_) (fun _ => ?_) | (with_reducible refine And.intro ?_ ?_; · omega) | simp -dsimp -implicitDefEqProofs (disch := omega) only [VCA, Nat.reduceEqDiff, Nat.reduceAdd, Nat.reduceLeDiff, ↓reduceIte, exists_eq_right_right])
      exact ⟨Sub.refl _, by simp⟩
    · generalize orderM d ⟨n, 0⟩ s.b = y at *
      simp -dsimp -implicitDefEqProofs (disch := omega) only [VCA, Nat.reduceEqDiff, Nat.reduceAdd, Nat.reduceLeDiff, ↓reduceIte, ne_eq, c103, eDoc, eNode, eS, h1, h2, c0]
      repeat' (first | ((with_reducible refine Br.dec (fun _ => ?_) (fun _ => ?_)) <;> try (exfalso; omega)) | ((with_reducible refine Br.eq (fun _ => ?_) (fun _ => ?_)) <;> try (exfalso; omega)) | ((with_reducible refine Br.ne (fun _ => ?_) (fun _ => ?_)) <;> try (exfalso; omega)) | ((with_reducible refine brNdec (fun _ => ?_) (fun _ => ?_)) <;> try (exfalso; omega)) | ((with_reducible refine brNeq (fun _ => ?_) (fun _ => ?_)) <;> try (exfalso; omega)) | with_reducible refine Br.intro (fun _ => ?_) (fun _ => ?_) | (with_reducible apply pcallE.of; · exact oB) | (with_reducible refine And.intro ?_ ?_; · omega) | simp -dsimp -implicitDefEqProofs (disch := omega) only [VCA, Nat.reduceEqDiff, Nat.reduceAdd, Nat.reduceLeDiff, ↓reduceIte, fillA, okFill, exists_eq_right_right])
      all_goals refine ⟨Sub.refl _, ?_⟩
      all_goals clear oA oB
      all_goals repeat split
      all_goals first | rfl | (exfalso; simp_all; done) | (exfalso; omega)
  · generalize orderM d ⟨n, 0⟩ s.a = x at *
    by_cases h2 : s.b.node = n
    · have eb := b3
      rw [h2, hr] at eb
      simp -dsimp -implicitDefEqProofs (disch := omega) only [VCA, Nat.reduceEqDiff, Nat.reduceAdd, Nat.reduceLeDiff, ↓reduceIte, ne_eq, c103, eDoc, eNode, eS, h1, h2, c0]
      repeat' (first | ((with_reducible refine Br.dec (fun _ => ?_) (fun _ => ?_)) <;> try (exfalso; omega)) | ((with_reducible refine Br.eq (fun _ => ?_) (fun _ => ?_)) <;> try (exfalso; omega)) | ((with_reducible refine Br.ne (fun _ => ?_) (fun _ => ?_)) <;> try (exfalso; omega)) | ((with_reducible refine brNdec (fun _ => ?_) (fun _ => ?_)) <;> try (exfalso; omega)) | ((with_reducible refine brNeq (fun _ => ?_) (fun _ => ?_)) <;> try (exfalso; omega)) | with_reducible refine Br.intro (fun _ => ?_) (fun _ => ?_) | (with_reducible apply pcallE.of; · exact oA) | (with_reducible refine And.intro ?_ ?_; · omega) | simp -dsimp -implicitDefEqProofs (disch := omega) only [VCA, Nat.reduceEqDiff, Nat.reduceAdd, Nat.reduceLeDiff, ↓reduceIte, fillA, okFill, exists_eq_right_right])
      all_goals refine ⟨Sub.refl _, ?_⟩
      all_goals clear oA oB
      all_goals repeat split
      all_goals first | rfl | (exfalso; simp_all; done) | (exfalso; omega)
    · generalize orderM d ⟨n, 0⟩ s.b = y at *
      simp -dsimp -implicitDefEqProofs (disch := omega) only [VCA, Nat.reduceEqDiff, Nat.reduceAdd, Nat.reduceLeDiff, ↓reduceIte, ne_eq, c103, eDoc, eNode, eS, h1, h2, c0]
      repeat' (first | ((with_reducible refine Br.dec (fun _ => ?_) (fun _ => ?_)) <;> try (exfalso; omega)) | ((with_reducible refine Br.eq (fun _ => ?_) (fun _ => ?_)) <;> try (exfalso; omega)) | ((with_reducible refine Br.ne (fun _ => ?_) (fun _ => ?_)) <;> try (exfalso; omega)) | ((with_reducible refine brNdec (fun _ => ?_) (fun _ => ?_)) <;> try (exfalso; omega)) | ((with_reducible refine brNeq (fun _ => ?_) (fun _ => ?_)) <;> try (exfalso; omega)) | with_reducible refine Br.intro (fun _ => ?_) (fun _ => ?_) | (with_reducible apply pcallE.of; · exact oA) | (with_reducible apply pcallE.of; · exact oB) | (with_reducible refine And.intro ?_ ?_; · omega) | simp -dsimp -implicitDefEqProofs (disch := omega) only [VCA, Nat.reduceEqDiff, Nat.reduceAdd, Nat.reduceLeDiff, ↓reduceIte, fillA, okFill, exists_eq_right_right])
      all_goals refine ⟨Sub.refl _, ?_⟩
      all_goals clear oA oB
      all_goals repeat split
      all_goals first | rfl | (exfalso; simp_all; done) | (exfalso; omega)
def textS (d : HDoc) (s : HSpan) (l : List Int) : List UInt8 := l.flatMap fun n => if (nd d n).kind = 3 then partM d n s else []
theorem partM_len {d : HDoc} (V : DV d) (s : HSpan) {n : Int} (hn : inD d n) : (partM d n s).length ≤ 400 := by
  have := text_len V hn
  unfold partM
  split
  · simp
  · split
    · simp
    · rw [List.length_drop, List.length_take]; omega
theorem textS_len {d : HDoc} (V : DV d) (s : HSpan) : ∀ l : List Int, (∀ n ∈ l, inD d n) → (textS d s l).length ≤ 400 * l.length
  | [], _ => by simp [textS]
  | n :: l, h => by
    have h1 := textS_len V s l (fun m hm => h m (List.mem_cons_of_mem _ hm))
    have h2 : (if (nd d n).kind = 3 then partM d n s else []).length ≤ 400 := by
      split
      · exact partM_len V s (h n List.mem_cons_self)
      · simp
    have e : textS d s (n :: l) = (if (nd d n).kind = 3 then partM d n s else []) ++ textS d s l := rfl
    rw [e, List.length_append, List.length_cons]; omega
theorem spanE_zero {d : HDoc} {s : HSpan} (h : spanE d s = 0) : pointsE d [s.a, s.b] = 0 ∧ orderM d s.a s.b ≤ 0 := by
  unfold spanE at h
  split at h
  · contradiction
  · rename_i h1
    split at h
    · omega
    · exact ⟨by simpa using h1, by omega⟩
def c63 : SFun := ⟨(.seq (.reg [⟨(some 2), (.boxF 24 2 (.t 0)), none⟩, ⟨(some 3), (.boxF 52 4 (.t 1)), none⟩, ⟨(some 4), (.mv (.c (.str []))), none⟩, ⟨(some 5), (.mv (.c (.int .i64 (0)))), none⟩]) (.seq (.reg [⟨(some 14), (.ld 2 true (.t 2)), none⟩, ⟨(some 15), (.ld 4 true (.t 3)), none⟩, ⟨(some 16), (.pcall 54 [(.t 14), (.t 15)]), none⟩, ⟨(some 13), (.mv (.t 16)), none⟩, ⟨(some 17), (.ext (.t 13) 0), none⟩, ⟨(some 18), (.ext (.t 13) 1), none⟩, ⟨(some 6), (.new 89 2 [.emp, (.bool false)]), none⟩, ⟨none, (.st 2 (.t 6) (.t 17)), none⟩, ⟨(some 7), (.mv (.t 18)), none⟩]) (.seq (.seq (.reg [⟨(some 19), (.mv (.t 7)), none⟩, ⟨(some 20), (.bin .neq (.t 19) (.c (.int .i64 (0)))), none⟩]) (.cond (.t 20) (.seq (.reg [⟨(some 21), (.mv (.t 7)), none⟩, ⟨(some 4), (.mv (.c (.str []))), none⟩, ⟨(some 5), (.mv (.t 21)), none⟩]) .ret) .skip)) (.seq (.reg [⟨(some 23), (.ld 2 true (.t 2)), none⟩, ⟨(some 24), (.pcall 95 [(.t 23)]), none⟩, ⟨(some 22), (.mv (.t 24)), none⟩, ⟨(some 25), (.ext (.t 22) 0), none⟩, ⟨(some 26), (.ext (.t 22) 1), none⟩, ⟨(some 8), (.mv (.t 25)), none⟩, ⟨(some 9), (.mv (.t 26)), none⟩]) (.seq (.reg [⟨(some 10), (.mv (.c (.str []))), none⟩]) (.seq (.seq (.reg [⟨(some 27), (.mv (.t 8)), none⟩, ⟨(some 28), (.len (.t 27)), none⟩, ⟨(some 29), (.mv (.c (.int .i64 (0)))), none⟩]) (.block 0 (.loop (.seq (.reg [⟨(some 30), (.bin .lss (.t 29) (.t 28)), none⟩]) (.seq (.cond (.t 30) .skip (.exit 0)) (.seq (.block 1 (.seq (.reg [⟨(some 31), (.idxA 1 (.t 27) (.t 29)), none⟩, ⟨(some 32), (.ld 1 false (.t 31)), none⟩, ⟨(some 12), (.mv (.t 32)), none⟩]) (.seq (.reg [⟨(some 33), (.fldA 0 (.t 2)), none⟩, ⟨(some 34), (.ld 1 false (.t 33)), none⟩, ⟨(some 35), (.mv (.t 12)), none⟩, ⟨(some 36), (.idxA 6 (.t 34) (.t 35)), none⟩, ⟨(some 37), (.fldA 0 (.t 36)), none⟩, ⟨(some 38), (.ld 1 false (.t 37)), none⟩, ⟨(some 39), (.bin .eql (.t 38) (.c (.int .i64 (3)))), none⟩]) (.cond (.t 39) (.reg [⟨(some 40), (.mv (.t 10)), none⟩, ⟨(some 41), (.ld 2 true (.t 6)), none⟩, ⟨(some 42), (.mv (.t 12)), none⟩, ⟨(some 43), (.ld 4 true (.t 3)), none⟩, ⟨(some 44), (.pcall 103 [(.t 41), (.t 42), (.t 43)]), none⟩, ⟨(some 45), (.bin .add (.t 40) (.t 44)), none⟩, ⟨(some 10), (.mv (.t 45)), none⟩]) .skip)))) (.reg [⟨(some 46), (.bin .add (.t 29) (.c (.int .i64 (1)))), none⟩, ⟨(some 29), (.mv (.t 46)), none⟩]))))))) (.seq (.reg [⟨(some 47), (.mv (.t 10)), none⟩, ⟨(some 4), (.mv (.t 47)), none⟩, ⟨(some 5), (.mv (.c (.int .i64 (0)))), none⟩]) .ret))))))), [(.tmp 4), (.tmp 5)]⟩
theorem hc63 : toSF Tryz.prog {pure := [54, 95, 103]} Tryz.f63 = some c63 := by kernel_rfl
theorem hn63 : (Tryz.f63.name == "runtime.NumGoroutine") = false := by kernel_rfl
theorem stext_ok (d : HDoc) (sm : DocSm d) (s : HSpan) : PCalls (Pg G) 63 [.agg (eDoc d), .agg (eS s)] (.tup [.str (if spanE d s = 0 then textS d s (below d 0) else []), aInt (spanE d s)]) := fun h => by
  have hC := span_ok (G := G) d sm s
  refine dcalls_of_vc Tryz.func63 hn63 hc63 (by rw [Tryz.ntmps63]; simp) (by rw [Tryz.ntmps63]; decide) ?_
  simp -dsimp -implicitDefEqProofs (disch := omega) only [VCA, Nat.reduceEqDiff, ↓reduceIte, c63, eDoc_len, eDoc_take, eS_len, eS_take]
  refine pcallE.of (hC) ?_; simp -dsimp -implicitDefEqProofs (disch := omega) only [VCA, Nat.reduceEqDiff, Nat.reduceAdd, Nat.reduceLT, ↓reduceIte, setAt, exists_eq_left', eDoc_len]
  intro r hr
  by_cases h1 : spanE d s = 0
  · obtain ⟨hz, ho⟩ := spanE_zero h1
    obtain ⟨hd, hp, hq⟩ := pointsE_zero hz
    have V := docE_DV hd
    have hl := V.len
    have bl := below_len V V.zero
    have hO := domOrder_ok (G := G) d V hd sm
    have hin := below_in V 0 V.zero
    rw [h1, if_pos rfl]
    have g6 : (upd h r (some ⟨.t 89, 2, [eDoc d]⟩)) r = some ⟨.t 89, 2, [eDoc d]⟩ := upd_same _ _ _
    have S6 : Sim.Sub h (upd h r (some ⟨.t 89, 2, [eDoc d]⟩)) := (Sub.refl h).upd hr
    have hmem := fun n hn => (mem_below V (hin n hn) V.zero).1 hn
    refine Br.ne (fun hh => absurd rfl hh) (fun _ => ?_)
    simp -dsimp -implicitDefEqProofs (disch := omega) only [VCA, Nat.reduceEqDiff, ↓reduceIte, eDoc_len, eDoc_take]
    refine pcallE.of (hO) ?_; simp -dsimp -implicitDefEqProofs (disch := omega) only [VCA, Nat.reduceEqDiff, Nat.reduceAdd, Nat.reduceLT, ↓reduceIte]
    generalize below d 0 = L at *
    refine LoopVC.intro (fun m e h' => ∃ k : Nat, k ≤ L.length ∧ m = L.length - k ∧ e 2 = .pin (eDoc d) ∧ e 3 = .pin (eS s) ∧ e 6 = .vp r 0 ∧ e 10 = .str (textS d s (L.take k)) ∧ e 27 = sl eInt L ∧ e 28 = aInt L.length ∧ e 29 = aInt k ∧ h' = upd h r (some ⟨.t 89, 2, [eDoc d]⟩)) L.length ⟨0, by omega, by omega, rfl, rfl, rfl, rfl, rfl, rfl, rfl, by rfl⟩ ?_
    rintro m e h' ⟨k, hk, rfl, he2, he3, he6, he10, he27, he28, he29, rfl⟩
    simp -dsimp -implicitDefEqProofs (disch := omega) only [VCA, ↓reduceIte, he28, he29]
    refine Br.dec (fun hlt => ?_) (fun hge => ?_)
    · have hk' : k < L.length := by omega
      have hm := nth_mem' hk'
      have hn := hin _ hm
      have n0 := hn.1
      have n1 := hn.2
      have e0 : nth d.nodes (nth L k).toNat = nd d (nth L k) := rfl
      have ht : textS d s (L.take (k + 1)) = textS d s (L.take k) ++ (if (nd d (nth L k)).kind = 3 then partM d (nth L k) s else []) := by
        unfold textS; rw [take_snoc hk', List.flatMap_append]; simp
      have eL := eDoc_len d
      have eT := eDoc_take d
      by_cases h3 : (nd d (nth L k)).kind = 3
      · have hP := part_ok (G := G) d V sm (nth L k) s hn (hmem _ hm) h3 hp hq ho
        rw [if_pos h3] at ht
        unfold eDoc at hP
        simp -dsimp -implicitDefEqProofs (disch := omega) only [VCA, Nat.reduceEqDiff, ↓reduceIte, eInt, he2, he27, he29]
        repeat' (first | ((with_reducible refine Br.dec (fun _ => ?_) (fun _ => ?_)) <;> try (exfalso; omega)) | ((with_reducible refine Br.eq (fun _ => ?_) (fun _ => ?_)) <;> try (exfalso; omega)) | ((with_reducible refine Br.ne (fun _ => ?_) (fun _ => ?_)) <;> try (exfalso; omega)) | ((with_reducible refine brNdec (fun _ => ?_) (fun _ => ?_)) <;> try (exfalso; omega)) | ((with_reducible refine brNeq (fun _ => ?_) (fun _ => ?_)) <;> try (exfalso; omega)) | with_reducible refine Br.intro (fun _ => ?_) (fun _ => ?_) | (with_reducible apply pcallE.of; · exact hP) | (with_reducible refine And.intro ?_ ?_; · omega) | simp -dsimp -implicitDefEqProofs (disch := omega) only [VCA, Nat.reduceEqDiff, Nat.reduceAdd, Nat.reduceLT, Nat.reduceLeDiff, ↓reduceIte, exists_eq_left', he2, he3, he6, he10, he27, he28, he29, eDoc, eNode, e0, h3, eS_len, eS_take])
        have t1 := textS_len V s (L.take k) (fun m hm => hin m (List.mem_of_mem_take hm))
        rw [List.length_take] at t1
        have t2 := partM_len V s hn
        exact ⟨by omega, _, by omega, k + 1, by omega, rfl, ht.symm, by omega⟩
      · rw [if_neg h3, List.append_nil] at ht
        simp -dsimp -implicitDefEqProofs (disch := omega) only [VCA, Nat.reduceEqDiff, ↓reduceIte, eInt, he2, he27, he29]
        repeat' (first | ((with_reducible refine Br.dec (fun _ => ?_) (fun _ => ?_)) <;> try (exfalso; omega)) | ((with_reducible refine Br.eq (fun _ => ?_) (fun _ => ?_)) <;> try (exfalso; omega)) | ((with_reducible refine Br.ne (fun _ => ?_) (fun _ => ?_)) <;> try (exfalso; omega)) | ((with_reducible refine brNdec (fun _ => ?_) (fun _ => ?_)) <;> try (exfalso; omega)) | ((with_reducible refine brNeq (fun _ => ?_) (fun _ => ?_)) <;> try (exfalso; omega)) | with_reducible refine Br.intro (fun _ => ?_) (fun _ => ?_) | (with_reducible refine And.intro ?_ ?_; · omega) | simp -dsimp -implicitDefEqProofs (disch := omega) only [VCA, Nat.reduceEqDiff, Nat.reduceAdd, Nat.reduceLeDiff, ↓reduceIte, he2, he3, he6, he10, he27, he28, he29, eDoc, eNode, e0])
        exact ⟨_, by omega, k + 1, by omega, rfl, ht.symm, by omega⟩
    · obtain rfl : k = L.length := by omega
      rw [List.take_length] at he10
      simp -dsimp -implicitDefEqProofs (disch := omega) only [VCA, Nat.reduceEqDiff, ↓reduceIte, exists_eq_right, he10]
      exact S6
  · repeat' (first | ((with_reducible refine Br.dec (fun _ => ?_) (fun _ => ?_)) <;> try (exfalso; omega)) | ((with_reducible refine Br.eq (fun _ => ?_) (fun _ => ?_)) <;> try (exfalso; omega)) | ((with_reducible refine Br.ne (fun _ => ?_) (fun _ => ?_)) <;> try (exfalso; omega)) | ((with_reducible refine brNdec (fun _ => ?_) (fun _ => ?_)) <;> try (exfalso; omega)) | ((with_reducible refine brNeq (fun _ => ?_) (fun _ => ?_)) <;> try (exfalso; omega)) | with_reducible refine Br.intro (fun _ => ?_) (fun _ => ?_) | (with_reducible refine And.intro ?_ ?_; · omega) | simp -dsimp -implicitDefEqProofs (disch := omega) only [VCA, Nat.reduceEqDiff, ↓reduceIte, exists_eq_right, h1])
    exact (Sub.refl h).upd hr
end Go.Proofs.K
end
section
/- Ranges: text, plain law: node by node, or mark by mark. -/
set_option linter.unusedSimpArgs false
set_option linter.unusedVariables false
namespace Go.Proofs.K
open Go Go.Sim Go.Proofs
section
variable {d : HDoc}
end
end Go.Proofs.K
end
section
/- Ranges: text, mark by mark: plain law. -/
set_option linter.unusedSimpArgs false
set_option linter.unusedVariables false
namespace Go.Proofs.K
open Go Go.Sim Go.Proofs
section
variable {d : HDoc}
end
end Go.Proofs.K
end
section
/- Ranges: the reference's text; short documents. -/
set_option linter.unusedSimpArgs false
set_option linter.unusedVariables false
namespace Go.Proofs.K
open Go Go.Sim Go.Proofs
variable {G : Glob}
end Go.Proofs.K
end
section
/- Ranges: short documents; what is cut. -/
set_option linter.unusedSimpArgs false
set_option linter.unusedVariables false
namespace Go.Proofs.K
open Go Go.Sim Go.Proofs
variable {G : Glob}
def c53 : SFun := ⟨(.seq (.reg [⟨(some 4), (.mv (.c (.str []))), none⟩]) (.seq (.reg [⟨(some 5), (.mv (.t 0)), none⟩, ⟨(some 6), (.mv (.t 0)), none⟩, ⟨(some 7), (.lenS (.t 6)), none⟩, ⟨(some 8), (.mv (.t 1)), none⟩, ⟨(some 9), (.min2 (.t 7) (.t 8)), none⟩, ⟨(some 10), (.slS (.t 5) none (some (.t 9))), none⟩, ⟨(some 4), (.mv (.t 10)), none⟩]) .ret)), [(.tmp 4)]⟩
theorem hc53 : toSF Tryz.prog {} Tryz.f53 = some c53 := by kernel_rfl
theorem hn53 : (Tryz.f53.name == "runtime.NumGoroutine") = false := by kernel_rfl
theorem someS_ok (s : List UInt8) (n : Nat) (hs : s.length ≤ 1073741824) : PCalls (Pg G) 53 [.str s, aInt n] (.str (s.take n)) := fun h => by
  refine dcalls_of_vc Tryz.func53 hn53 hc53 (by rw [Tryz.ntmps53]; simp) (by rw [Tryz.ntmps53]; decide) ?_
  have e1 : (min (s.length : Int) (n : Int)).toNat = min s.length n := by omega
  simp -dsimp -implicitDefEqProofs (disch := omega) only [VCA, Nat.reduceEqDiff, ↓reduceIte, reduceCtorEq, exists_eq_right_right, c53, e1]
  refine ⟨by omega, Sub.refl _, ?_⟩
  rcases Nat.le_total s.length n with h | h
  · rw [Nat.min_eq_left h, List.take_of_length_le (Nat.le_refl _), List.take_of_length_le h]
  · rw [Nat.min_eq_right h]
def briefN (x : HNode) : HNode := { x with text := x.text.take 30 }
def briefM (d : HDoc) : HDoc := ⟨(d.nodes.take 25).map briefN, d.quirks⟩
theorem drop_consN {α : Type} [Inhabited α] {l : List α} {i : Nat} (h : i < l.length) : l.drop i = nth l i :: l.drop (i + 1) := by
  have : nth l i = l[i] := by unfold nth; rw [List.getD_eq_getElem?_getD, List.getElem?_eq_getElem h]; rfl
  rw [this, List.getElem_cons_drop]
def c23 : SFun := ⟨(.seq (.reg [⟨(some 1), (.box 24 2 (.t 0)), none⟩, ⟨(some 2), (.new 24 2 [.emp, (.bool false)]), none⟩]) (.seq (.reg [⟨(some 5), (.ld 2 true (.t 1)), none⟩, ⟨(some 6), (.pcall 10 [(.t 5), (.c (.int .i64 (25)))]), none⟩, ⟨none, (.st 2 (.t 1) (.t 6)), none⟩]) (.seq (.reg [⟨(some 7), (.bldF 40 6 []), none⟩, ⟨(some 8), (.fldA 0 (.t 1)), none⟩, ⟨(some 9), (.ld 1 false (.t 8)), none⟩, ⟨(some 10), (.app 40 6 96 (.t 7) (.t 9)), none⟩, ⟨(some 3), (.mv (.t 10)), none⟩]) (.seq (.seq (.reg [⟨(some 4), (.mv (.c (.int .i64 (0)))), none⟩]) (.block 0 (.loop (.seq (.seq (.reg [⟨(some 11), (.mv (.t 4)), none⟩, ⟨(some 12), (.mv (.t 3)), none⟩, ⟨(some 13), (.len (.t 12)), none⟩, ⟨(some 14), (.bin .lss (.t 11) (.t 13)), none⟩]) (.cond (.t 14) .skip (.exit 0))) (.seq (.block 1 (.reg [⟨(some 17), (.mv (.t 3)), none⟩, ⟨(some 18), (.mv (.t 4)), none⟩, ⟨(some 19), (.mv (.t 3)), none⟩, ⟨(some 20), (.mv (.t 4)), none⟩, ⟨(some 21), (.idxA 6 (.t 19) (.t 20)), none⟩, ⟨(some 22), (.fldA 3 (.t 21)), none⟩, ⟨(some 23), (.ld 1 false (.t 22)), none⟩, ⟨(some 24), (.pcall 53 [(.t 23), (.c (.int .i64 (30)))]), none⟩, ⟨(some 25), (.idxA 6 (.t 17) (.t 18)), none⟩, ⟨(some 26), (.fldA 3 (.t 25)), none⟩, ⟨none, (.st 1 (.t 26) (.t 24)), none⟩])) (.reg [⟨(some 15), (.mv (.t 4)), none⟩, ⟨(some 16), (.bin .add (.t 15) (.c (.int .i64 (1)))), none⟩, ⟨(some 4), (.mv (.t 16)), none⟩])))))) (.seq (.reg [⟨(some 27), (.mv (.t 3)), none⟩, ⟨(some 28), (.fldA 0 (.t 1)), none⟩, ⟨none, (.st 1 (.t 28) (.t 27)), none⟩]) (.seq (.reg [⟨(some 29), (.ld 2 true (.t 1)), none⟩, ⟨none, (.st 2 (.t 2) (.t 29)), none⟩]) .ret)))))), [(.cell 2 2 true)]⟩
theorem hc23 : toSF Tryz.prog {pure := [10, 53], how := [(1, 6)]} Tryz.f23 = some c23 := by kernel_rfl
theorem hn23 : (Tryz.f23.name == "runtime.NumGoroutine") = false := by kernel_rfl
theorem brief_ok (d : HDoc) (sm : DocSm d) : PCalls (Pg G) 23 [.agg (eDoc d)] (.agg (eDoc (briefM d))) := PCalls.outV fun h => by
  have hF : PCalls (Pg G) 10 [.agg (eDoc d), .int .i64 25] (.agg (eDoc ⟨d.nodes.take 25, d.quirks⟩)) := few_ok (G := G) d 25 sm
  refine dcalls_of_vc Tryz.func23 hn23 hc23 (by rw [Tryz.ntmps23]; simp) (by rw [Tryz.ntmps23]; decide) ?_
  simp -dsimp -implicitDefEqProofs (disch := omega) only [VCA, ↓upd_none, Nat.reduceEqDiff, ↓reduceIte, ne_eq, c23, eDoc_len]
  intro r1 h1 r2 h2
  have n12 : ¬ r1 = r2 := fun e => h2.1 e.symm
  have n21 : ¬ r2 = r1 := h2.1
  simp -dsimp -implicitDefEqProofs (disch := omega) only [VCA, Nat.reduceLT, ↓reduceIte, exists_eq_left', eDoc_len, eDoc_take, n12]
  refine pcallE.of (hF) ?_; simp -dsimp -implicitDefEqProofs (disch := omega) only [VCA, ↓upd_none, Nat.reduceEqDiff, Nat.reduceLT, Nat.reduceLeDiff, ↓reduceIte, okParts, setAt, ne_eq, exists_eq_left', eDoc_len, eDoc_take, eDoc_drop, n12]
  simp -dsimp -implicitDefEqProofs (disch := omega) only [VCA, exists_eq_left, eDoc]
  have fl : (d.nodes.take 25).length ≤ 25 := by rw [List.length_take]; omega
  have fsm : ∀ x ∈ d.nodes.take 25, x.text.length ≤ 1073741824 := fun x hx => (sm.each x (List.mem_of_mem_take hx)).text
  have hbm : (briefM d).nodes = (d.nodes.take 25).map briefN := rfl
  have hbq : (briefM d).quirks = d.quirks := rfl
  generalize d.nodes.take 25 = L at *
  refine ⟨by omega, by omega, fun r ⟨_, n2, n1, hr⟩ => ?_⟩
  have m1 : ¬ r1 = r := fun e => n1 e.symm
  have m2 : ¬ r2 = r := fun e => n2 e.symm
  refine LoopVC.intro (fun m e h' => ∃ k : Nat, k ≤ L.length ∧ m = L.length - k ∧ e 1 = .vp r1 0 ∧ e 2 = .vp r2 0 ∧ e 3 = .osl r 6 0 L.length ∧ e 4 = aInt k ∧ h' r1 = some ⟨.t 24, 2, [[sl eNode L, .bool d.quirks]]⟩ ∧ h' r2 = some ⟨.t 24, 2, [[.emp, .bool false]]⟩ ∧ h' r = some ⟨.t 40, 6, ((L.take k).map briefN ++ L.drop k).map eNode⟩ ∧ Sim.Sub h h') L.length ⟨0, by omega, by omega, rfl, rfl, rfl, rfl, ?_, ?_, ?_, ?_⟩ ?_
  · simp [upd, m1]
  · simp [upd, n21, m2]
  · simp [upd]
  · exact (((Sub.refl h).upd h1).upd h2.2).upd h1 |>.upd hr
  rintro m e h' ⟨k, hk, rfl, he1, he2, he3, he4, g1, g2, g, S⟩
  simp -dsimp -implicitDefEqProofs (disch := omega) only [VCA, Nat.reduceEqDiff, ↓reduceIte, he3, he4]
  refine Br.dec (fun hlt => ?_) (fun hge => ?_)
  · have hk' : k < L.length := by omega
    have hM : k < ((L.take k).map briefN ++ L.drop k).length := by simp; omega
    have hN : nth ((L.take k).map briefN ++ L.drop k) k = nth L k := by
      unfold nth
      rw [List.getD_eq_getElem?_getD, List.getElem?_append_right (by simp; omega)]
      simp [Nat.min_eq_left hk, List.getD_eq_getElem?_getD]
    have hS : ((L.take k).map briefN ++ L.drop k).set k (briefN (nth L k)) = (L.take (k + 1)).map briefN ++ L.drop (k + 1) := by
      rw [List.set_append_right _ _ (by simp; omega)]
      have e1 : k - (List.map briefN (List.take k L)).length = 0 := by simp; omega
      rw [e1, drop_consN hk', take_snoc hk']
      simp
    have gk : (((L.take k).map briefN ++ L.drop k).map eNode).getD k [] = eNode (nth L k) := by rw [getD_map_enc hM, hN]
    have hO : PCalls (Pg G) 53 [.str (nth L k).text, .int .i64 30] (.str (briefN (nth L k)).text) := someS_ok (G := G) (nth L k).text 30 (fsm _ (nth_mem' hk'))
    generalize hMM : (L.take k).map briefN ++ L.drop k = M at *
    have g' : h' r = some ⟨.t 40, 6, M.map eNode⟩ := g
    repeat' (first | ((with_reducible refine Br.dec (fun _ => ?_) (fun _ => ?_)) <;> try (exfalso; omega)) | ((with_reducible refine Br.eq (fun _ => ?_) (fun _ => ?_)) <;> try (exfalso; omega)) | ((with_reducible refine Br.ne (fun _ => ?_) (fun _ => ?_)) <;> try (exfalso; omega)) | ((with_reducible refine brNdec (fun _ => ?_) (fun _ => ?_)) <;> try (exfalso; omega)) | ((with_reducible refine brNeq (fun _ => ?_) (fun _ => ?_)) <;> try (exfalso; omega)) | with_reducible refine Br.intro (fun _ => ?_) (fun _ => ?_) | (with_reducible apply pcallE.of; · exact hO) | (with_reducible refine And.intro ?_ ?_; · omega) | simp -dsimp -implicitDefEqProofs (disch := omega) only [VCA, Nat.reduceEqDiff, Nat.reduceAdd, Nat.reduceLeDiff, ↓reduceIte, setAt, exists_eq_left', he1, he2, he3, he4, g, gk, eNode, m1, m2])
    exact ⟨_, by omega, k + 1, by omega, rfl, by omega, g1, g2, by rw [← hS, List.map_set]; rfl, S.upd hr⟩
  · obtain rfl : k = L.length := by omega
    rw [List.take_length, List.drop_length, List.append_nil] at g
    simp -dsimp -implicitDefEqProofs (disch := omega) only [VCA, Nat.reduceEqDiff, Nat.reduceAdd, Nat.reduceLT, Nat.reduceLeDiff, ↓reduceIte, setAt, exists_eq_left', he1, he2, he3, g1, g2, n21]
    refine ⟨_, Sub.refl _, (S.upd h1).upd h2.2, .one _ _ (Vw.agg' (.cons ?_ (.cons (.refl _) .nil)))⟩
    refine Vw.osl0 (o := ⟨40, 6, (L.map briefN).map eNode⟩) (by rw [newH_none hr]; simp [upd, n1, n2, g]) (by simp [hbm]) (by simp) (fun f hf => ?_) ?_
    · obtain ⟨x, _, rfl⟩ := List.mem_map.1 hf; rfl
    · rw [List.take_of_length_le (by simp), hbm]
      exact F2.refl (fun e => F2.refl (fun _ => .refl _) e) _
theorem briefM_sm {d : HDoc} (sm : DocSm d) : DocSm (briefM d) := ⟨by
    have := sm.len
    show ((d.nodes.take 25).map briefN).length ≤ _
    rw [List.length_map, List.length_take]; omega, fun x hx => by
    obtain ⟨y, hy, rfl⟩ := List.mem_map.1 hx
    have h := sm.each y (List.mem_of_mem_take hy)
    exact ⟨h.name, h.attrs, h.each, by show (y.text.take 30).length ≤ _; rw [List.length_take]; have := h.text; omega, h.kids⟩⟩
end Go.Proofs.K
end
section
/- Ranges: what is cut: contracts. -/
set_option linter.unusedSimpArgs false
set_option linter.unusedVariables false
namespace Go.Proofs.K
open Go Go.Sim Go.Proofs
variable {G : Glob}
def c132 : SFun := ⟨(.seq (.reg [⟨(some 3), (.boxF 89 2 (.t 0)), none⟩, ⟨(some 6), (.mv (.c (.bool false))), none⟩]) (.seq (.block 0 (.loop (.seq (.seq (.reg [⟨(some 7), (.mv (.t 1)), none⟩, ⟨(some 8), (.bin .geq (.t 7) (.c (.int .i64 (0)))), none⟩, ⟨(some 9), (.mv (.t 8)), none⟩, ⟨(some 10), (.mv (.t 1)), (some (9, true))⟩, ⟨(some 11), (.mv (.t 2)), (some (9, true))⟩, ⟨(some 12), (.bin .neq (.t 10) (.t 11)), (some (9, true))⟩, ⟨(some 13), (.pick (.t 9) (.t 12) (.c (.bool false))), none⟩]) (.cond (.t 13) .skip (.exit 0))) (.block 1 (.reg [⟨(some 14), (.fldA 0 (.t 3)), none⟩, ⟨(some 15), (.fldA 0 (.t 14)), none⟩, ⟨(some 16), (.ld 1 false (.t 15)), none⟩, ⟨(some 17), (.mv (.t 1)), none⟩, ⟨(some 18), (.idxA 6 (.t 16) (.t 17)), none⟩, ⟨(some 19), (.fldA 4 (.t 18)), none⟩, ⟨(some 20), (.ld 1 false (.t 19)), none⟩, ⟨(some 1), (.mv (.t 20)), none⟩]))))) (.seq (.reg [⟨(some 21), (.mv (.t 1)), none⟩, ⟨(some 22), (.mv (.t 2)), none⟩, ⟨(some 23), (.bin .eql (.t 21) (.t 22)), none⟩, ⟨(some 6), (.mv (.t 23)), none⟩]) .ret))), [(.tmp 6)]⟩
theorem hc132 : toSF Tryz.prog {} Tryz.f132 = some c132 := by kernel_rfl
theorem hn132 : (Tryz.f132.name == "runtime.NumGoroutine") = false := by kernel_rfl
theorem rwithin_ok (d : HDoc) (V : DV d) (n top : Int) (hn : inD d n) (ht : 0 ≤ top) : PCalls (Pg G) 132 [.agg (eDoc d), aInt n, aInt top] (.bool (decide (top ∈ chain d n))) := fun h => by
  have hl := V.len
  refine dcalls_of_vc Tryz.func132 hn132 hc132 (by rw [Tryz.ntmps132]; simp) (by rw [Tryz.ntmps132]; decide) ?_
  simp -dsimp -implicitDefEqProofs (disch := omega) only [VCA, Nat.reduceAdd, c132, eDoc]
  refine LoopVC.intro (fun m e h' => ∃ c : Int, m = (if c = -1 then 0 else up d c + 1) ∧ (c = -1 ∨ inD d c) ∧ e 1 = aInt c ∧ e 2 = aInt top ∧ e 3 = .pin (eDoc d) ∧ h' = h ∧ (c = -1 → top ∉ chain d n) ∧ (inD d c → (top ∈ chain d n ↔ top ∈ chain d c))) _ ⟨n, rfl, .inr hn, rfl, rfl, rfl, rfl, fun e => by have := hn.1; omega, fun _ => Iff.rfl⟩ ?_
  rintro m e h' ⟨c, rfl, hc, he1, he2, he3, rfl, hno, hyes⟩
  by_cases h2 : c = -1
  · subst h2
    have h3 : ((-1 : Int) == top) = false := by simp; omega
    simp -dsimp -implicitDefEqProofs (disch := omega) only [↓vcOps_sp 9, VCA, ↓reduceIte, he1]
    repeat' (first | ((with_reducible refine Br.dec (fun _ => ?_) (fun _ => ?_)) <;> try (exfalso; omega)) | ((with_reducible refine Br.eq (fun _ => ?_) (fun _ => ?_)) <;> try (exfalso; omega)) | ((with_reducible refine Br.ne (fun _ => ?_) (fun _ => ?_)) <;> try (exfalso; omega)) | ((with_reducible refine brNdec (fun _ => ?_) (fun _ => ?_)) <;> try (exfalso; omega)) | ((with_reducible refine brNeq (fun _ => ?_) (fun _ => ?_)) <;> try (exfalso; omega)) | with_reducible refine Br.intro (fun _ => ?_) (fun _ => ?_) | (with_reducible refine And.intro ?_ ?_; · omega) | simp -dsimp -implicitDefEqProofs (disch := omega) only [VCA, Nat.reduceEqDiff, ↓reduceIte, exists_eq_right_right, he1, he2, h3])
    exact ⟨Sub.refl _, by simp [hno rfl]⟩
  · have hc : inD d c := hc.resolve_left h2
    have hc0 := hc.1
    have hc1 := hc.2
    have e0 : nth d.nodes c.toNat = nd d c := rfl
    simp -dsimp -implicitDefEqProofs (disch := omega) only [↓vcOps_sp 9, VCA, ↓reduceIte, he1]
    repeat' (first | ((with_reducible refine Br.dec (fun _ => ?_) (fun _ => ?_)) <;> try (exfalso; omega)) | ((with_reducible refine Br.eq (fun _ => ?_) (fun _ => ?_)) <;> try (exfalso; omega)) | ((with_reducible refine Br.ne (fun _ => ?_) (fun _ => ?_)) <;> try (exfalso; omega)) | ((with_reducible refine brNdec (fun _ => ?_) (fun _ => ?_)) <;> try (exfalso; omega)) | ((with_reducible refine brNeq (fun _ => ?_) (fun _ => ?_)) <;> try (exfalso; omega)) | with_reducible refine Br.intro (fun _ => ?_) (fun _ => ?_) | (with_reducible refine And.intro ?_ ?_; · omega) | simp -dsimp -implicitDefEqProofs (disch := omega) only [VCA, Nat.reduceEqDiff, Nat.reduceAdd, Nat.reduceLeDiff, ↓reduceIte, exists_eq_right_right, he1, he2, he3, eDoc, eNode, e0])
    · rename_i h0 h1
      refine ⟨_, ?_, (nd d c).parent, rfl, ?_, rfl, ?_, ?_⟩
      · rw [if_neg (show ¬ c = -1 by omega)]
        split
        · omega
        · rename_i hp
          have := V.up_par hc (by have := V.par c hc; unfold inD at this; omega)
          omega
      · rcases V.par c hc with h | h
        · exact .inl h
        · exact .inr h.1
      · intro hp
        rw [hyes hc, chain_top V (by omega)]
        simp; exact fun e => h1 e.symm
      · intro hp
        rw [hyes hc, chain_up V hc hp.1]
        simp; exact fun e => absurd e.symm h1
    · rename_i h0 h1
      subst h1
      exact ⟨Sub.refl _, by simp [(hyes hc).2 (chain_self _ _)]⟩
def leftM (t : List UInt8) (n : Int) (s : HSpan) : List UInt8 := t.take (if s.a.node = n then s.a.at' else 0).toNat ++ t.drop (if s.b.node = n then s.b.at' else t.length).toNat
def c133 : SFun := ⟨(.seq (.reg [⟨(some 5), (.boxF 52 4 (.t 2)), none⟩, ⟨(some 6), (.mv (.c (.str []))), none⟩]) (.seq (.reg [⟨(some 9), (.mv (.t 0)), none⟩, ⟨(some 10), (.lenS (.t 9)), none⟩, ⟨(some 7), (.mv (.c (.int .i64 (0)))), none⟩, ⟨(some 8), (.mv (.t 10)), none⟩]) (.seq (.seq (.reg [⟨(some 11), (.fldA 0 (.t 5)), none⟩, ⟨(some 12), (.fldA 0 (.t 11)), none⟩, ⟨(some 13), (.ld 1 false (.t 12)), none⟩, ⟨(some 14), (.mv (.t 1)), none⟩, ⟨(some 15), (.bin .eql (.t 13) (.t 14)), none⟩]) (.cond (.t 15) (.reg [⟨(some 16), (.fldA 0 (.t 5)), none⟩, ⟨(some 17), (.fldA 1 (.t 16)), none⟩, ⟨(some 18), (.ld 1 false (.t 17)), none⟩, ⟨(some 7), (.mv (.t 18)), none⟩]) .skip)) (.seq (.seq (.reg [⟨(some 19), (.fldA 2 (.t 5)), none⟩, ⟨(some 20), (.fldA 0 (.t 19)), none⟩, ⟨(some 21), (.ld 1 false (.t 20)), none⟩, ⟨(some 22), (.mv (.t 1)), none⟩, ⟨(some 23), (.bin .eql (.t 21) (.t 22)), none⟩]) (.cond (.t 23) (.reg [⟨(some 24), (.fldA 2 (.t 5)), none⟩, ⟨(some 25), (.fldA 1 (.t 24)), none⟩, ⟨(some 26), (.ld 1 false (.t 25)), none⟩, ⟨(some 8), (.mv (.t 26)), none⟩]) .skip)) (.seq (.dreg [(⟨(some 27), (.mv (.t 0)), none⟩, none), (⟨(some 28), (.mv (.t 7)), none⟩, none), (⟨(some 29), (.slS (.t 27) none (some (.t 28))), none⟩, none), (⟨(some 30), (.mv (.t 0)), none⟩, none), (⟨(some 31), (.mv (.t 8)), none⟩, none), (⟨(some 32), (.slS (.t 30) (some (.t 31)) none), none⟩, none), (⟨(some 33), (.bin .add (.t 29) (.t 32)), none⟩, none), (⟨(some 6), (.mv (.t 33)), none⟩, none)]) .ret))))), [(.tmp 6)]⟩
theorem hc133 : toSF Tryz.prog {} Tryz.f133 = some c133 := by kernel_rfl
theorem hn133 : (Tryz.f133.name == "runtime.NumGoroutine") = false := by kernel_rfl
theorem left_ok (t : List UInt8) (n : Int) (s : HSpan) (ht : t.length ≤ 1073741824) (ha : s.a.node = n → 0 ≤ s.a.at' ∧ s.a.at' ≤ t.length) (hb : s.b.node = n → 0 ≤ s.b.at' ∧ s.b.at' ≤ t.length) :
    PCalls (Pg G) 133 [.str t, aInt n, .agg (eS s)] (.str (leftM t n s)) := fun h => by
  refine dcalls_of_vc Tryz.func133 hn133 hc133 (by rw [Tryz.ntmps133]; simp) (by rw [Tryz.ntmps133]; decide) ?_
  unfold leftM
  simp -dsimp -implicitDefEqProofs (disch := omega) only [VCA, Nat.reduceEqDiff, Nat.reduceAdd, Nat.reduceLeDiff, ↓reduceIte, reduceCtorEq, c133, eS]
  repeat' (first | ((with_reducible refine Br.dec (fun _ => ?_) (fun _ => ?_)) <;> try (exfalso; omega)) | ((with_reducible refine Br.eq (fun _ => ?_) (fun _ => ?_)) <;> try (exfalso; omega)) | ((with_reducible refine Br.ne (fun _ => ?_) (fun _ => ?_)) <;> try (exfalso; omega)) | ((with_reducible refine brNdec (fun _ => ?_) (fun _ => ?_)) <;> try (exfalso; omega)) | ((with_reducible refine brNeq (fun _ => ?_) (fun _ => ?_)) <;> try (exfalso; omega)) | with_reducible refine Br.intro (fun _ => ?_) (fun _ => ?_) | (with_reducible refine And.intro ?_ ?_; · omega) | simp -dsimp -implicitDefEqProofs (disch := omega) only [VCA, Nat.reduceEqDiff, Nat.reduceAdd, Nat.reduceLeDiff, ↓reduceIte, reduceCtorEq, rsOf, rootsOf, exists_eq_right_right, rootL])
  all_goals refine ⟨?_, Sub.refl _, ?_⟩
  all_goals first | (simp only [List.length_take, List.length_drop]; omega) | (simp [*]; done)
/-! ## the cut -/
def zE (do' at' : Int) (v : List UInt8) : HEdit := ⟨do', at', 0, 0, [], v, ⟨0, [], [], [], 0, []⟩⟩
def cutK (rec : Int → List HEdit) (d : HDoc) (n : Int) (s : HSpan) (i : Nat) : List HEdit :=
  let k := nth (nd d n).kids i
  if k ∈ chain d s.a.node ∨ k ∈ chain d s.b.node then
    (if (nd d k).kind = 3 ∨ (nd d k).kind = 4 then (if leftM (nd d k).text k s = (nd d k).text then [] else [zE 3 k (leftM (nd d k).text k s)]) else rec k)
  else if orderM d s.a ⟨n, (i : Int)⟩ ≤ 0 ∧ orderM d ⟨n, (i : Int) + 1⟩ s.b ≤ 0 then [zE 6 k []] else []
def cutF : Nat → HDoc → HSpan → Int → List HEdit
  | 0, _, _, _ => []
  | f + 1, d, s, n => (List.range (nd d n).kids.length).flatMap (cutK (cutF f d s) d n s)
def cutM (d : HDoc) (s : HSpan) (n : Int) : List HEdit := cutF (41 - up d n) d s n
section
variable {d : HDoc}
theorem cutK_cong {r1 r2 : Int → List HEdit} {n : Int} {s : HSpan} {i : Nat} (h : r1 (nth (nd d n).kids i) = r2 (nth (nd d n).kids i)) : cutK r1 d n s i = cutK r2 d n s i := by
  unfold cutK; simp only [h]
theorem cut_eq (V : DV d) (s : HSpan) {n : Int} (hn : inD d n) : cutM d s n = (List.range (nd d n).kids.length).flatMap (cutK (cutM d s) d n s) := by
  have h40 := V.deep n hn
  obtain ⟨f, hf⟩ : ∃ f, 41 - up d n = f + 1 := ⟨40 - up d n, by omega⟩
  have e : cutM d s n = cutF (f + 1) d s n := by unfold cutM; rw [hf]
  rw [e, cutF]
  refine flatMap_cong fun i hi => cutK_cong ?_
  have hu := V.up_kid hn (nth_mem' (List.mem_range.1 hi))
  unfold cutM
  rw [show 41 - up d (nth (nd d n).kids i) = f by omega]
theorem cut_len (V : DV d) (s : HSpan) : ∀ n, inD d n → (cutM d s n).length + 1 ≤ (below d n).length := V.down fun n hn ih => by
  rw [cut_eq V s hn, below_eq V hn, List.length_cons]
  have : ((List.range (nd d n).kids.length).flatMap (cutK (cutM d s) d n s)).length ≤ 1 * ((List.range (nd d n).kids.length).flatMap fun i => below d (nth (nd d n).kids i)).length := by
    refine flatMap_len fun i hi => ?_
    have hk := nth_mem' (List.mem_range.1 hi)
    have := ih _ hk
    have b1 : 1 ≤ (below d (nth (nd d n).kids i)).length := by omega
    unfold cutK
    simp only
    split
    · split
      · split <;> simp; omega
      · omega
    · split <;> simp; omega
  rw [range_flat] at this
  omega
end
theorem acc_keep {h h' h2 : Heap} {ty : TypeId} {sz : Nat} {cells : List (List AVal)} {a : AVal} (A : Acc h ty sz cells a h') (S : Sim.Sub h' h2) : Acc h ty sz cells a h2 := by
  rcases A with h | ⟨r, h0, h1, h2⟩
  · exact .inl h
  · exact .inr ⟨r, h0, S _ _ h1, h2⟩
def c104 : SFun := ⟨(.seq (.reg [⟨(some 4), (.boxF 89 2 (.t 0)), none⟩, ⟨(some 6), (.boxF 52 4 (.t 2)), none⟩, ⟨(some 8), (.mv (.c .emp)), none⟩]) (.seq (.seq (.reg [⟨(some 14), (.fldA 0 (.t 4)), none⟩, ⟨(some 15), (.fldA 0 (.t 14)), none⟩, ⟨(some 16), (.ld 1 false (.t 15)), none⟩, ⟨(some 17), (.mv (.t 1)), none⟩, ⟨(some 18), (.idxA 6 (.t 16) (.t 17)), none⟩, ⟨(some 19), (.fldA 5 (.t 18)), none⟩, ⟨(some 20), (.ld 1 false (.t 19)), none⟩, ⟨(some 21), (.len (.t 20)), none⟩, ⟨(some 22), (.mv (.c (.int .i64 (0)))), none⟩]) (.block 0 (.loop (.seq (.reg [⟨(some 23), (.bin .lss (.t 22) (.t 21)), none⟩]) (.seq (.cond (.t 23) .skip (.exit 0)) (.seq (.block 1 (.seq (.reg [⟨(some 24), (.mv (.t 22)), none⟩, ⟨(some 25), (.idxA 1 (.t 20) (.t 22)), none⟩, ⟨(some 26), (.ld 1 false (.t 25)), none⟩, ⟨(some 9), (.mv (.t 24)), none⟩, ⟨(some 10), (.mv (.t 26)), none⟩]) (.seq (.reg [⟨(some 27), (.fldA 0 (.t 4)), none⟩, ⟨(some 28), (.fldA 0 (.t 27)), none⟩, ⟨(some 29), (.ld 1 false (.t 28)), none⟩, ⟨(some 30), (.mv (.t 10)), none⟩, ⟨(some 31), (.idxA 6 (.t 29) (.t 30)), none⟩, ⟨(some 32), (.ld 6 true (.t 31)), none⟩, ⟨(some 11), (.new 40 6 [(.int .i64 (0)), (.str []), .emp, (.str []), (.int .i64 (0)), .emp]), none⟩, ⟨none, (.st 6 (.t 11) (.t 32)), none⟩]) (.seq (.reg [⟨(some 33), (.ld 2 true (.t 4)), none⟩, ⟨(some 34), (.fldA 0 (.t 6)), none⟩, ⟨(some 35), (.fldA 0 (.t 34)), none⟩, ⟨(some 36), (.ld 1 false (.t 35)), none⟩, ⟨(some 37), (.mv (.t 10)), none⟩, ⟨(some 38), (.pcall 132 [(.t 33), (.t 36), (.t 37)]), none⟩, ⟨(some 39), (.mv (.t 38)), none⟩, ⟨(some 40), (.ld 2 true (.t 4)), (some (39, false))⟩, ⟨(some 41), (.fldA 2 (.t 6)), (some (39, false))⟩, ⟨(some 42), (.fldA 0 (.t 41)), (some (39, false))⟩, ⟨(some 43), (.ld 1 false (.t 42)), (some (39, false))⟩, ⟨(some 44), (.mv (.t 10)), (some (39, false))⟩, ⟨(some 45), (.pcall 132 [(.t 40), (.t 43), (.t 44)]), (some (39, false))⟩, ⟨(some 46), (.pick (.t 39) (.c (.bool true)) (.t 45)), none⟩, ⟨(some 12), (.mv (.t 46)), none⟩]) (.block 2 (.seq (.reg [⟨(some 48), (.mv (.t 12)), none⟩, ⟨(some 49), (.mv (.t 48)), none⟩, ⟨(some 50), (.fldA 0 (.t 11)), (some (49, true))⟩, ⟨(some 51), (.ld 1 false (.t 50)), (some (49, true))⟩, ⟨(some 52), (.bin .eql (.t 51) (.c (.int .i64 (3)))), (some (49, true))⟩, ⟨(some 53), (.mv (.t 52)), (some (49, true))⟩, ⟨(some 54), (.fldA 0 (.t 11)), (some (53, false))⟩, ⟨(some 55), (.ld 1 false (.t 54)), (some (53, false))⟩, ⟨(some 56), (.bin .eql (.t 55) (.c (.int .i64 (4)))), (some (53, false))⟩, ⟨(some 57), (.pick (.t 53) (.c (.bool true)) (.t 56)), (some (49, true))⟩, ⟨(some 58), (.pick (.t 49) (.t 57) (.c (.bool false))), none⟩, ⟨(some 47), (.mv (.t 58)), none⟩]) (.cond (.t 47) (.seq (.reg [⟨(some 59), (.fldA 3 (.t 11)), none⟩, ⟨(some 60), (.ld 1 false (.t 59)), none⟩, ⟨(some 61), (.mv (.t 10)), none⟩, ⟨(some 62), (.ld 4 true (.t 6)), none⟩, ⟨(some 63), (.pcall 133 [(.t 60), (.t 61), (.t 62)]), none⟩, ⟨(some 13), (.mv (.t 63)), none⟩]) (.seq (.reg [⟨(some 64), (.mv (.t 13)), none⟩, ⟨(some 65), (.fldA 3 (.t 11)), none⟩, ⟨(some 66), (.ld 1 false (.t 65)), none⟩, ⟨(some 67), (.bin .neq (.t 64) (.t 66)), none⟩]) (.cond (.t 67) (.reg [⟨(some 68), (.mv (.t 3)), none⟩, ⟨(some 69), (.mv (.t 10)), none⟩, ⟨(some 70), (.mv (.t 13)), none⟩, ⟨(some 71), (.bld [(.int .i64 (0)), (.int .i64 (0)), (.int .i64 (0)), (.int .i64 (0)), (.str []), (.str []), (.int .i64 (0)), (.str []), .emp, (.str []), (.int .i64 (0)), .emp] [(0, (1, (.c (.int .i64 (3))))), (1, (1, (.t 69))), (5, (1, (.t 70)))]), none⟩, ⟨(some 72), (.bldF 42 12 [(.t 71)]), none⟩, ⟨(some 73), (.app 42 12 160 (.t 68) (.t 72)), none⟩, ⟨(some 3), (.mv (.t 73)), none⟩]) .skip))) (.seq (.reg [⟨(some 75), (.mv (.t 12)), none⟩, ⟨(some 74), (.mv (.t 75)), none⟩]) (.cond (.t 74) (.reg [⟨(some 76), (.ld 2 true (.t 4)), none⟩, ⟨(some 77), (.mv (.t 10)), none⟩, ⟨(some 78), (.ld 4 true (.t 6)), none⟩, ⟨(some 79), (.mv (.t 3)), none⟩, ⟨(some 80), (.call (.c (.fn 104 [] [])) [(.t 76), (.t 77), (.t 78), (.t 79)]), none⟩, ⟨(some 3), (.mv (.t 80)), none⟩]) (.seq (.reg [⟨(some 82), (.ld 2 true (.t 4)), none⟩, ⟨(some 83), (.fldA 0 (.t 6)), none⟩, ⟨(some 84), (.ld 2 true (.t 83)), none⟩, ⟨(some 85), (.mv (.t 1)), none⟩, ⟨(some 86), (.mv (.t 9)), none⟩, ⟨(some 87), (.bld [(.int .i64 (0)), (.int .i64 (0))] [(0, (1, (.t 85))), (1, (1, (.t 86)))]), none⟩, ⟨(some 88), (.pcall 99 [(.t 82), (.t 84), (.t 87)]), none⟩, ⟨(some 89), (.bin .leq (.t 88) (.c (.int .i64 (0)))), none⟩, ⟨(some 90), (.mv (.t 89)), none⟩, ⟨(some 91), (.ld 2 true (.t 4)), (some (90, true))⟩, ⟨(some 92), (.mv (.t 1)), (some (90, true))⟩, ⟨(some 93), (.mv (.t 9)), (some (90, true))⟩, ⟨(some 94), (.bin .add (.t 93) (.c (.int .i64 (1)))), (some (90, true))⟩, ⟨(some 95), (.bld [(.int .i64 (0)), (.int .i64 (0))] [(0, (1, (.t 92))), (1, (1, (.t 94)))]), (some (90, true))⟩, ⟨(some 96), (.fldA 2 (.t 6)), (some (90, true))⟩, ⟨(some 97), (.ld 2 true (.t 96)), (some (90, true))⟩, ⟨(some 98), (.pcall 99 [(.t 91), (.t 95), (.t 97)]), (some (90, true))⟩, ⟨(some 99), (.bin .leq (.t 98) (.c (.int .i64 (0)))), (some (90, true))⟩, ⟨(some 100), (.pick (.t 90) (.t 99) (.c (.bool false))), none⟩, ⟨(some 81), (.mv (.t 100)), none⟩]) (.cond (.t 81) (.reg [⟨(some 101), (.mv (.t 3)), none⟩, ⟨(some 102), (.mv (.t 10)), none⟩, ⟨(some 103), (.bld [(.int .i64 (0)), (.int .i64 (0)), (.int .i64 (0)), (.int .i64 (0)), (.str []), (.str []), (.int .i64 (0)), (.str []), .emp, (.str []), (.int .i64 (0)), .emp] [(0, (1, (.c (.int .i64 (6))))), (1, (1, (.t 102)))]), none⟩, ⟨(some 104), (.bldF 42 12 [(.t 103)]), none⟩, ⟨(some 105), (.app 42 12 160 (.t 101) (.t 104)), none⟩, ⟨(some 3), (.mv (.t 105)), none⟩]) .skip))))))))))) (.reg [⟨(some 106), (.bin .add (.t 22) (.c (.int .i64 (1)))), none⟩, ⟨(some 22), (.mv (.t 106)), none⟩]))))))) (.seq (.reg [⟨(some 107), (.mv (.t 3)), none⟩, ⟨(some 8), (.mv (.t 107)), none⟩]) .ret))), [(.tmp 8)]⟩
theorem hc104 : toSF Tryz.prog {pure := [132, 99, 133]} Tryz.f104 = some c104 := by kernel_rfl
theorem hn104 : (Tryz.f104.name == "runtime.NumGoroutine") = false := by kernel_rfl
set_option maxHeartbeats 2000000 in
theorem rcut_ok (d : HDoc) (V : DV d) (sm : DocSm d) (s : HSpan) (ha : pointE d s.a = 0) (hb : pointE d s.b = 0) : ∀ n, inD d n → 0 ∈ chain d n → ∀ (h h1 : Heap) (L : List HEdit) (a : AVal), Acc h 42 12 (L.map eE0) a h1 → Sim.Sub h h1 → L.length ≤ 1000 * (up d n + 1) →
    DCalls (Pg G) 104 [.agg (eDoc d), aInt n, .agg (eS s), a] h1 fun r h2 => Acc h 42 12 ((L ++ cutM d s n).map eE0) r h2 ∧ Sim.Sub h h2 := V.down fun n hn ih hc0 h h1 L a A S hL => by
  have hl := V.len
  have n0 := hn.1
  have n1 := hn.2
  have e0 : nth d.nodes n.toNat = nd d n := rfl
  have kl := (sm.nd n).kids
  obtain ⟨a1, a2, a3, a4, a5⟩ := point_marks V ha
  obtain ⟨b1, b2, b3, b4, b5⟩ := point_marks V hb
  have be := below_eq V hn
  have bl := below_len V hn
  have cl := cut_len V s
  have u40 := V.deep n hn
  have ce := cut_eq V s hn
  generalize hF : cutK (cutM d s) d n s = F at ce
  refine dcalls_of_vc Tryz.func104 hn104 hc104 (by rw [Tryz.ntmps104]; simp) (by rw [Tryz.ntmps104]; decide) ?_
  simp -dsimp -implicitDefEqProofs (disch := omega) only [VCA, Nat.reduceEqDiff, Nat.reduceAdd, Nat.reduceLeDiff, ↓reduceIte, c104, eDoc, eNode, eS]
  rw [e0]
  refine ⟨by omega, ?_⟩
  have A0 : Acc h 42 12 ((L ++ (List.range 0).flatMap F).map eE0) a h1 := by simpa using A
  refine LoopVC.intro (fun m e h' => ∃ k : Nat, k ≤ (nd d n).kids.length ∧ m = (nd d n).kids.length - k ∧ e 1 = aInt n ∧ e 4 = .pin (eDoc d) ∧ e 6 = .pin (eS s) ∧ e 20 = sl eInt (nd d n).kids ∧ e 21 = aInt (nd d n).kids.length ∧ e 22 = aInt k ∧ Acc h 42 12 ((L ++ (List.range k).flatMap F).map eE0) (e 3) h' ∧ Sim.Sub h h') _ ⟨0, by omega, rfl, rfl, rfl, rfl, rfl, rfl, rfl, A0, S⟩ ?_
  clear A0 A S
  rintro m e h' ⟨k, hk, rfl, he1, he4, he6, he20, he21, he22, A, S⟩
  simp -dsimp -implicitDefEqProofs (disch := omega) only [VCA, ↓reduceIte, he21, he22]
  refine Br.dec (fun hlt => ?_) (fun hge => ?_)
  · have hk' : k < (nd d n).kids.length := by omega
    have hm := nth_mem' hk'
    obtain ⟨ki, kp⟩ := V.kid n hn _ hm
    have k0 := ki.1
    have k1 := ki.2
    have ek : nth d.nodes (nth (nd d n).kids k).toNat = nd d (nth (nd d n).kids k) := rfl
    have hFk : F k = cutK (cutM d s) d n s k := by rw [← hF]
    have fl : (List.range (k + 1)).flatMap F = (List.range k).flatMap F ++ F k := by rw [List.range_succ, List.flatMap_append]; simp
    have W1 := rwithin_ok (G := G) d V s.a.node (nth (nd d n).kids k) a1 k0
    have W2 := rwithin_ok (G := G) d V s.b.node (nth (nd d n).kids k) b1 k0
    unfold eDoc at W1 W2
    have rk : ∀ m, (nd d m).kind = 3 ∨ (nd d m).kind = 4 → roomM d m = (nd d m).text.length := fun m hm => by unfold roomM; rw [if_pos hm]
    have kc0 : 0 ∈ chain d (nth (nd d n).kids k) := by
      rw [chain_up V ki (by rw [kp]; exact n0), kp]; exact List.mem_cons_of_mem _ hc0
    have rn : roomM d n = (nd d n).kids.length := by
      rcases node_split V hn with ⟨h, _⟩ | ⟨_, h, _⟩
      · rw [h] at hk'; simp at hk'
      · exact h
    have p1 : pointE d ⟨n, (k : Int)⟩ = 0 := by unfold pointE; rw [if_neg (by simp only [Classical.not_not]; exact ⟨hn, by show (0 : Int) ≤ k; omega, by show (k : Int) ≤ _; omega⟩), if_neg (by simpa using hc0)]
    have p2 : pointE d ⟨n, (k : Int) + 1⟩ = 0 := by unfold pointE; rw [if_neg (by simp only [Classical.not_not]; exact ⟨hn, by show (0 : Int) ≤ (k : Int) + 1; omega, by show (k : Int) + 1 ≤ _; omega⟩), if_neg (by simpa using hc0)]
    have O1 := order_ok (G := G) d V sm s.a ⟨n, (k : Int)⟩ ha p1
    have O2 := order_ok (G := G) d V sm ⟨n, (k : Int) + 1⟩ s.b p2 hb
    unfold eDoc eP at O1 O2
    have hlF : ((List.range k).flatMap F).length + (F k).length + 1 ≤ (below d n).length := by
      have h1 : ∀ (a b : Nat), ((List.range a).flatMap F).length ≤ ((List.range (a + b)).flatMap F).length := fun a b => by
        induction b with
        | zero => exact Nat.le_refl _
        | succ b ih => rw [← Nat.add_assoc, List.range_succ, List.flatMap_append, List.length_append]; omega
      have h2 := h1 (k + 1) ((nd d n).kids.length - (k + 1))
      rw [show k + 1 + ((nd d n).kids.length - (k + 1)) = (nd d n).kids.length by omega, fl, List.length_append, ← ce] at h2
      have := cl n hn
      omega
    have hI := ih _ hm kc0
    have tx := text_len V ki
    have LO := left_ok (G := G) (nd d (nth (nd d n).kids k)).text (nth (nd d n).kids k) s (by omega)
    generalize hkk : nth (nd d n).kids k = kk at *
    have fin : ∀ (X : List HEdit) (a' : AVal) (h'' : Heap), F k = X → Acc h 42 12 ((L ++ ((List.range k).flatMap F ++ X)).map eE0) a' h'' → Acc h 42 12 ((L ++ (List.range (k + 1)).flatMap F).map eE0) a' h'' := fun X a' h'' hX A => by rw [fl, hX]; exact A
    have Fk : F k = if kk ∈ chain d s.a.node ∨ kk ∈ chain d s.b.node then
      (if (nd d kk).kind = 3 ∨ (nd d kk).kind = 4 then (if leftM (nd d kk).text kk s = (nd d kk).text then [] else [zE 3 kk (leftM (nd d kk).text kk s)]) else cutM d s kk)
      else if orderM d s.a ⟨n, (k : Int)⟩ ≤ 0 ∧ orderM d ⟨n, (k : Int) + 1⟩ s.b ≤ 0 then [zE 6 kk []] else [] := by rw [hFk]; unfold cutK; rw [hkk]
    clear hFk
    simp -dsimp -implicitDefEqProofs (disch := omega) only [VCA, Nat.reduceEqDiff, Nat.reduceAdd, Nat.reduceLT, Nat.reduceLeDiff, ↓reduceIte, setAt, exists_eq_left', eInt, he4, he6, he20, he22, eDoc, eNode, eS, hkk, ek]
    refine ⟨by omega, by omega, fun r hr => ?_⟩
    have S' := S.upd (x := some ⟨.t 40, 6, [eNode (nd d kk)]⟩) (S.none hr)
    have A' := acc_keep A ((Sub.refl h').upd (x := some ⟨.t 40, 6, [eNode (nd d kk)]⟩) hr)
    unfold eNode at S' A'
    by_cases hT : kk ∈ chain d s.a.node ∨ kk ∈ chain d s.b.node
    · rw [if_pos hT] at Fk
      have hT2 : (decide (kk ∈ chain d s.a.node) = true) ∨ (decide (kk ∈ chain d s.a.node) = false ∧ decide (kk ∈ chain d s.b.node) = true) := by
        by_cases h1 : kk ∈ chain d s.a.node
        · exact .inl (decide_eq_true h1)
        · exact .inr ⟨decide_eq_false h1, decide_eq_true (hT.resolve_left h1)⟩
      by_cases h3 : (nd d kk).kind = 3 ∨ (nd d kk).kind = 4
      · have LO' := LO (fun e => ⟨a2, by rw [e, rk kk h3] at a3; exact a3⟩) (fun e => ⟨b2, by rw [e, rk kk h3] at b3; exact b3⟩)
        rw [if_pos h3] at Fk
        unfold eS at LO'
        generalize leftM (nd d kk).text kk s = lt at *
        have L1 : L.length + ((List.range k).flatMap F).length ≤ 42000 := by omega
        repeat' (first | ((with_reducible refine Br.dec (fun _ => ?_) (fun _ => ?_)) <;> try (exfalso; omega)) | ((with_reducible refine Br.eq (fun _ => ?_) (fun _ => ?_)) <;> try (exfalso; omega)) | ((with_reducible refine Br.ne (fun _ => ?_) (fun _ => ?_)) <;> try (exfalso; omega)) | ((with_reducible refine brNdec (fun _ => ?_) (fun _ => ?_)) <;> try (exfalso; omega)) | ((with_reducible refine brNeq (fun _ => ?_) (fun _ => ?_)) <;> try (exfalso; omega)) | with_reducible refine Br.intro (fun _ => ?_) (fun _ => ?_) | (with_reducible apply pcallE.of; · exact W1) | (with_reducible apply pcallE.of; · exact W2) | (with_reducible apply pcallE.of; · exact LO') | (refine A'.app S' (by simp only [List.length_map, List.length_append, List.length_cons, List.length_nil]; omega) (by simp only [List.length_map, List.length_append, List.length_cons, List.length_nil]; omega) fun a2 h2 A2 S2 => ?_) | (with_reducible refine And.intro ?_ ?_; · omega) | simp -dsimp -implicitDefEqProofs (disch := omega) only [↓vcOps_sp 39, ↓vcOps_sp 49, ↓vcOps_sp 53, VCA, Nat.reduceEqDiff, Nat.reduceAdd, Nat.reduceLT, Nat.reduceLeDiff, ↓reduceIte, okParts, fillA, okFill, forall_eq, exists_eq_left, exists_eq_left', he1, he4, he6, he20, he21, he22, eDoc, eS])
        all_goals first
          | (exfalso; simp_all; done)
          | exact ⟨_, by omega, k + 1, by omega, rfl, by omega, fin [] _ _ (by rw [Fk, if_pos (by assumption)]) (by simpa using A'), S'⟩
          | exact ⟨_, by omega, k + 1, by omega, rfl, by omega, fin _ _ _ (by rw [Fk, if_neg (by assumption)]) (by simpa [eE0, zE] using A2), S2⟩
          | trace_state
      · rw [if_neg h3] at Fk
        have h31 : ¬ (nd d kk).kind = 3 := fun e => h3 (.inl e)
        have h32 : ¬ (nd d kk).kind = 4 := fun e => h3 (.inr e)
        have hI' := hI h _ (L ++ (List.range k).flatMap F) (e 3) A' S' (by
          have ku : up d kk = up d n + 1 := by rw [← hkk]; exact V.up_kid hn (nth_mem' hk')
          rw [List.length_append, ku]
          omega)
        unfold eDoc eS at hI'
        repeat' (first | ((with_reducible refine Br.dec (fun _ => ?_) (fun _ => ?_)) <;> try (exfalso; omega)) | ((with_reducible refine Br.eq (fun _ => ?_) (fun _ => ?_)) <;> try (exfalso; omega)) | ((with_reducible refine Br.ne (fun _ => ?_) (fun _ => ?_)) <;> try (exfalso; omega)) | ((with_reducible refine brNdec (fun _ => ?_) (fun _ => ?_)) <;> try (exfalso; omega)) | ((with_reducible refine brNeq (fun _ => ?_) (fun _ => ?_)) <;> try (exfalso; omega)) | with_reducible refine Br.intro (fun _ => ?_) (fun _ => ?_) | (with_reducible apply pcallE.of; · exact W1) | (with_reducible apply pcallE.of; · exact W2) | ((refine DCalls.of hI' ?_; rintro a2 h2 ⟨A2, S2⟩)) | (with_reducible refine And.intro ?_ ?_; · omega) | simp -dsimp -implicitDefEqProofs (disch := omega) only [↓vcOps_sp 39, ↓vcOps_sp 49, ↓vcOps_sp 53, VCA, Nat.reduceEqDiff, Nat.reduceAdd, Nat.reduceLT, Nat.reduceLeDiff, ↓reduceIte, fillA, okFill, exists_eq_left', he1, he4, he6, he20, he21, he22, eDoc, eS])
        all_goals first
          | (exfalso; simp_all; done)
          | exact ⟨_, by omega, k + 1, by omega, rfl, by omega, fin _ _ _ Fk (by simpa using A2), S2⟩
          | trace_state
    · rw [if_neg hT] at Fk
      simp only [not_or] at hT
      have T1 : decide (kk ∈ chain d s.a.node) = false := decide_eq_false hT.1
      have T2 : decide (kk ∈ chain d s.b.node) = false := decide_eq_false hT.2
      rw [T1] at W1
      rw [T2] at W2
      have L1 : L.length + ((List.range k).flatMap F).length ≤ 42000 := by omega
      generalize orderM d s.a ⟨n, (k : Int)⟩ = o1 at *
      generalize orderM d ⟨n, (k : Int) + 1⟩ s.b = o2 at *
      repeat' (first | ((with_reducible refine Br.dec (fun _ => ?_) (fun _ => ?_)) <;> try (exfalso; omega)) | ((with_reducible refine Br.eq (fun _ => ?_) (fun _ => ?_)) <;> try (exfalso; omega)) | ((with_reducible refine Br.ne (fun _ => ?_) (fun _ => ?_)) <;> try (exfalso; omega)) | ((with_reducible refine brNdec (fun _ => ?_) (fun _ => ?_)) <;> try (exfalso; omega)) | ((with_reducible refine brNeq (fun _ => ?_) (fun _ => ?_)) <;> try (exfalso; omega)) | with_reducible refine Br.intro (fun _ => ?_) (fun _ => ?_) | (with_reducible apply pcallE.of; · exact W1) | (with_reducible apply pcallE.of; · exact W2) | (with_reducible apply pcallE.of; · exact O1) | (with_reducible apply pcallE.of; · exact O2) | (refine A'.app S' (by simp only [List.length_map, List.length_append, List.length_cons, List.length_nil]; omega) (by simp only [List.length_map, List.length_append, List.length_cons, List.length_nil]; omega) fun a2 h2 A2 S2 => ?_) | (with_reducible refine And.intro ?_ ?_; · omega) | simp -dsimp -implicitDefEqProofs (disch := omega) only [↓vcOps_sp 39, ↓vcOps_sp 49, ↓vcOps_sp 53, ↓vcOps_sp 90, VCA, Nat.reduceEqDiff, Nat.reduceAdd, Nat.reduceLeDiff, ↓reduceIte, okParts, fillA, okFill, forall_eq, exists_eq_left, he1, he4, he6, he20, he21, he22, eDoc, eS])
      all_goals first
          | (exfalso; simp_all; done)
          | exact ⟨_, by omega, k + 1, by omega, rfl, by omega, fin [] _ _ (by rw [Fk, if_neg (by omega)]) (by simpa using A'), S'⟩
          | exact ⟨_, by omega, k + 1, by omega, rfl, by omega, fin _ _ _ (by rw [Fk, if_pos (by omega)]) (by simpa [eE0, zE] using A2), S2⟩
          | trace_state
  · obtain rfl : k = (nd d n).kids.length := by omega
    simp -dsimp -implicitDefEqProofs (disch := omega) only [VCA, Nat.reduceEqDiff, ↓reduceIte]
    rw [ce]
    exact ⟨_, Sub.refl _, A, S⟩
end Go.Proofs.K
end
section
/- Ranges: Cut; what must be in any case; the law of points. -/
set_option linter.unusedSimpArgs false
set_option linter.unusedVariables false
namespace Go.Proofs.K
open Go Go.Sim Go.Proofs
variable {G : Glob}
def cutErr (d : HDoc) (s : HSpan) : Int := if spanE d s ≠ 0 then spanE d s else if 40 < (cutM d s 0).length then 2 else 0
def cutL (d : HDoc) (s : HSpan) : List HEdit := if cutErr d s = 0 then cutM d s 0 else []
theorem cutM_bare {d : HDoc} (V : DV d) (s : HSpan) : ∀ n, inD d n → ∀ e ∈ cutM d s n, bareE e := V.down fun n hn ih e he => by
  rw [cut_eq V s hn] at he
  obtain ⟨i, hi, he⟩ := List.mem_flatMap.1 he
  have hk := nth_mem' (List.mem_range.1 hi)
  unfold cutK at he
  simp only at he
  split at he
  · split at he
    · split at he
      · cases he
      · simp only [List.mem_singleton] at he; subst he; exact ⟨rfl, rfl⟩
    · exact ih _ hk e he
  · split at he
    · simp only [List.mem_singleton] at he; subst he; exact ⟨rfl, rfl⟩
    · cases he
def c64 : SFun := ⟨(.seq (.reg [⟨(some 2), (.boxF 24 2 (.t 0)), none⟩, ⟨(some 3), (.boxF 52 4 (.t 1)), none⟩, ⟨(some 4), (.mv (.c .emp)), none⟩, ⟨(some 5), (.mv (.c (.int .i64 (0)))), none⟩]) (.seq (.reg [⟨(some 10), (.ld 2 true (.t 2)), none⟩, ⟨(some 11), (.ld 4 true (.t 3)), none⟩, ⟨(some 12), (.pcall 54 [(.t 10), (.t 11)]), none⟩, ⟨(some 9), (.mv (.t 12)), none⟩, ⟨(some 13), (.ext (.t 9) 0), none⟩, ⟨(some 14), (.ext (.t 9) 1), none⟩, ⟨(some 6), (.new 89 2 [.emp, (.bool false)]), none⟩, ⟨none, (.st 2 (.t 6) (.t 13)), none⟩, ⟨(some 7), (.mv (.t 14)), none⟩]) (.seq (.seq (.reg [⟨(some 15), (.mv (.t 7)), none⟩, ⟨(some 16), (.bin .neq (.t 15) (.c (.int .i64 (0)))), none⟩]) (.cond (.t 16) (.seq (.reg [⟨(some 17), (.mv (.t 7)), none⟩, ⟨(some 4), (.mv (.c .emp)), none⟩, ⟨(some 5), (.mv (.t 17)), none⟩]) .ret) .skip)) (.seq (.reg [⟨(some 18), (.ld 2 true (.t 6)), none⟩, ⟨(some 19), (.ld 4 true (.t 3)), none⟩, ⟨(some 20), (.call (.c (.fn 104 [] [])) [(.t 18), (.c (.int .i64 (0))), (.t 19), (.c .emp)]), none⟩, ⟨(some 8), (.mv (.t 20)), none⟩]) (.seq (.seq (.reg [⟨(some 21), (.mv (.t 8)), none⟩, ⟨(some 22), (.len (.t 21)), none⟩, ⟨(some 23), (.bin .gtr (.t 22) (.c (.int .i64 (40)))), none⟩]) (.cond (.t 23) (.seq (.reg [⟨(some 4), (.mv (.c .emp)), none⟩, ⟨(some 5), (.mv (.c (.int .i64 (2)))), none⟩]) .ret) .skip)) (.seq (.reg [⟨(some 24), (.mv (.t 8)), none⟩, ⟨(some 4), (.mv (.t 24)), none⟩, ⟨(some 5), (.mv (.c (.int .i64 (0)))), none⟩]) .ret)))))), [(.tmp 4), (.tmp 5)]⟩
theorem hc64 : toSF Tryz.prog {pure := [54]} Tryz.f64 = some c64 := by kernel_rfl
theorem hn64 : (Tryz.f64.name == "runtime.NumGoroutine") = false := by kernel_rfl
theorem scut0_ok (d : HDoc) (sm : DocSm d) (s : HSpan) : PCalls (Pg G) 64 [.agg (eDoc d), .agg (eS s)] (.tup [.slc ((cutL d s).map eE0), aInt (cutErr d s)]) := PCalls.accT (ty := 42) (sz := 12) fun h => by
  have hC := span_ok (G := G) d sm s
  refine dcalls_of_vc Tryz.func64 hn64 hc64 (by rw [Tryz.ntmps64]; simp) (by rw [Tryz.ntmps64]; decide) ?_
  simp -dsimp -implicitDefEqProofs (disch := omega) only [VCA, Nat.reduceEqDiff, ↓reduceIte, c64, eDoc_len, eDoc_take, eS_len, eS_take]
  refine pcallE.of (hC) ?_; simp -dsimp -implicitDefEqProofs (disch := omega) only [VCA, Nat.reduceEqDiff, Nat.reduceAdd, Nat.reduceLT, ↓reduceIte, setAt, exists_eq_left', eDoc_len]
  intro r hr
  by_cases h1 : spanE d s = 0
  · obtain ⟨hz, ho⟩ := spanE_zero h1
    obtain ⟨hd, hp, hq⟩ := pointsE_zero hz
    have V := docE_DV hd
    have S1 := (Sub.refl h).upd (x := some ⟨.t 89, 2, [eDoc d]⟩) hr
    have hK := rcut_ok (G := G) d V sm s hp hq 0 V.zero (chain_self _ _) h _ [] .emp .nil S1 (by simp)
    rw [h1]
    have hE : cutErr d s = if 40 < (cutM d s 0).length then 2 else 0 := by unfold cutErr; rw [if_neg (by simpa using h1)]
    unfold cutL
    rw [hE]
    repeat' (first | ((with_reducible refine Br.dec (fun _ => ?_) (fun _ => ?_)) <;> try (exfalso; omega)) | ((with_reducible refine Br.eq (fun _ => ?_) (fun _ => ?_)) <;> try (exfalso; omega)) | ((with_reducible refine Br.ne (fun _ => ?_) (fun _ => ?_)) <;> try (exfalso; omega)) | ((with_reducible refine brNdec (fun _ => ?_) (fun _ => ?_)) <;> try (exfalso; omega)) | ((with_reducible refine brNeq (fun _ => ?_) (fun _ => ?_)) <;> try (exfalso; omega)) | with_reducible refine Br.intro (fun _ => ?_) (fun _ => ?_) | ((refine DCalls.of hK ?_; rintro a h2 ⟨A2, S2⟩)) | (with_reducible refine And.intro ?_ ?_; · omega) | simp -dsimp -implicitDefEqProofs (disch := omega) only [VCA, Nat.reduceEqDiff, Nat.reduceLT, ↓reduceIte, exists_eq_left', eDoc_len, eDoc_take, eS_len, eS_take])
    rw [List.nil_append] at A2
    obtain ⟨l1, l2⟩ := A2.len
    rw [List.length_map] at l1
    repeat' (first | ((with_reducible refine Br.dec (fun _ => ?_) (fun _ => ?_)) <;> try (exfalso; omega)) | ((with_reducible refine Br.eq (fun _ => ?_) (fun _ => ?_)) <;> try (exfalso; omega)) | ((with_reducible refine Br.ne (fun _ => ?_) (fun _ => ?_)) <;> try (exfalso; omega)) | ((with_reducible refine brNdec (fun _ => ?_) (fun _ => ?_)) <;> try (exfalso; omega)) | ((with_reducible refine brNeq (fun _ => ?_) (fun _ => ?_)) <;> try (exfalso; omega)) | with_reducible refine Br.intro (fun _ => ?_) (fun _ => ?_) | (with_reducible refine And.intro ?_ ?_; · omega) | simp -dsimp -implicitDefEqProofs (disch := omega) only [VCA, Nat.reduceEqDiff, ↓reduceIte, l1, l2])
    · exact ⟨_, Sub.refl _, .emp, by simp only [if_pos (show 40 < (cutM d s 0).length by omega)], by simp only [if_pos (show 40 < (cutM d s 0).length by omega)]; exact ⟨.nil, S2⟩⟩
    · exact ⟨_, Sub.refl _, a, by simp only [if_neg (show ¬ 40 < (cutM d s 0).length by omega)], by simp only [if_neg (show ¬ 40 < (cutM d s 0).length by omega)]; exact ⟨A2, S2⟩⟩
  · have hE : cutErr d s = spanE d s := by unfold cutErr; rw [if_pos h1]
    have hL : cutL d s = [] := by unfold cutL; rw [hE, if_neg h1]
    rw [hE, hL]
    repeat' (first | ((with_reducible refine Br.dec (fun _ => ?_) (fun _ => ?_)) <;> try (exfalso; omega)) | ((with_reducible refine Br.eq (fun _ => ?_) (fun _ => ?_)) <;> try (exfalso; omega)) | ((with_reducible refine Br.ne (fun _ => ?_) (fun _ => ?_)) <;> try (exfalso; omega)) | ((with_reducible refine brNdec (fun _ => ?_) (fun _ => ?_)) <;> try (exfalso; omega)) | ((with_reducible refine brNeq (fun _ => ?_) (fun _ => ?_)) <;> try (exfalso; omega)) | with_reducible refine Br.intro (fun _ => ?_) (fun _ => ?_) | (with_reducible refine And.intro ?_ ?_; · omega) | simp -dsimp -implicitDefEqProofs (disch := omega) only [VCA, Nat.reduceEqDiff, ↓reduceIte])
    exact ⟨_, Sub.refl _, .emp, rfl, .nil, (Sub.refl h).upd hr⟩
theorem scut_ok (d : HDoc) (sm : DocSm d) (s : HSpan) : PCalls (Pg G) 64 [.agg (eDoc d), .agg (eS s)] (.tup [sl eEdit (cutL d s), aInt (cutErr d s)]) := fun h =>
  DCalls.res (scut0_ok (G := G) d sm s h) fun a h' ⟨ha, hh⟩ => by
    subst ha
    refine ⟨_, .tup' (.cons (.slc' (eE0_wks fun e he => ?_)) (.cons (.refl _) .nil)), rfl, hh⟩
    unfold cutL at he
    split at he
    · rename_i h1
      have hs : spanE d s = 0 := by
        unfold cutErr at h1
        split at h1
        · contradiction
        · rename_i h2; simpa using h2
      exact cutM_bare (docE_DV (pointsE_zero (spanE_zero hs).1).1) s 0 (docE_DV (pointsE_zero (spanE_zero hs).1).1).zero e he
    · cases he
/-! ## what must be in any case -/
def oneS1 : HSpan := ⟨⟨2, 1⟩, ⟨1, 1⟩⟩
def oneS2 : HSpan := ⟨⟨1, 0⟩, ⟨2, 1⟩⟩
theorem one_span : spanE oneD oneS1 = 0 ∧ textS oneD oneS1 (below oneD 0) = [10] ∧ cutErr oneD oneS2 = 0 ∧ cutL oneD oneS2 = [zE 3 2 [10]] := by decide +kernel
def c28 : SFun := ⟨(.seq (.reg [⟨(some 0), (.mv (.c (.bool false))), none⟩]) (.seq (.reg [⟨(some 6), (.pcall 42 []), none⟩, ⟨(some 7), (.bld [(.int .i64 (0)), (.int .i64 (0))] [(0, (1, (.c (.int .i64 (2))))), (1, (1, (.c (.int .i64 (1)))))]), none⟩, ⟨(some 8), (.bld [(.int .i64 (0)), (.int .i64 (0))] [(0, (1, (.c (.int .i64 (1))))), (1, (1, (.c (.int .i64 (1)))))]), none⟩, ⟨(some 9), (.bld [(.int .i64 (0)), (.int .i64 (0)), (.int .i64 (0)), (.int .i64 (0))] [(0, (2, (.t 7))), (2, (2, (.t 8)))]), none⟩, ⟨(some 10), (.pcall 63 [(.t 6), (.t 9)]), none⟩, ⟨(some 5), (.mv (.t 10)), none⟩, ⟨(some 11), (.ext (.t 5) 0), none⟩, ⟨(some 12), (.ext (.t 5) 1), none⟩, ⟨(some 1), (.mv (.t 11)), none⟩, ⟨(some 2), (.mv (.t 12)), none⟩]) (.seq (.reg [⟨(some 14), (.pcall 42 []), none⟩, ⟨(some 15), (.bld [(.int .i64 (0)), (.int .i64 (0))] [(0, (1, (.c (.int .i64 (1)))))]), none⟩, ⟨(some 16), (.bld [(.int .i64 (0)), (.int .i64 (0))] [(0, (1, (.c (.int .i64 (2))))), (1, (1, (.c (.int .i64 (1)))))]), none⟩, ⟨(some 17), (.bld [(.int .i64 (0)), (.int .i64 (0)), (.int .i64 (0)), (.int .i64 (0))] [(0, (2, (.t 15))), (2, (2, (.t 16)))]), none⟩, ⟨(some 18), (.pcall 64 [(.t 14), (.t 17)]), none⟩, ⟨(some 13), (.mv (.t 18)), none⟩, ⟨(some 19), (.ext (.t 13) 0), none⟩, ⟨(some 20), (.ext (.t 13) 1), none⟩, ⟨(some 3), (.mv (.t 19)), none⟩, ⟨(some 4), (.mv (.t 20)), none⟩]) (.seq (.reg [⟨(some 21), (.mv (.t 1)), none⟩, ⟨(some 22), (.bin .eql (.t 21) (.c (.str [10]))), none⟩, ⟨(some 23), (.mv (.t 22)), none⟩, ⟨(some 24), (.mv (.t 2)), (some (23, true))⟩, ⟨(some 25), (.bin .eql (.t 24) (.c (.int .i64 (0)))), (some (23, true))⟩, ⟨(some 26), (.pick (.t 23) (.t 25) (.c (.bool false))), none⟩, ⟨(some 27), (.mv (.t 26)), none⟩, ⟨(some 28), (.mv (.t 4)), (some (27, true))⟩, ⟨(some 29), (.bin .eql (.t 28) (.c (.int .i64 (0)))), (some (27, true))⟩, ⟨(some 30), (.pick (.t 27) (.t 29) (.c (.bool false))), none⟩, ⟨(some 31), (.mv (.t 30)), none⟩, ⟨(some 32), (.mv (.t 3)), (some (31, true))⟩, ⟨(some 33), (.len (.t 32)), (some (31, true))⟩, ⟨(some 34), (.bin .eql (.t 33) (.c (.int .i64 (1)))), (some (31, true))⟩, ⟨(some 35), (.pick (.t 31) (.t 34) (.c (.bool false))), none⟩, ⟨(some 36), (.mv (.t 35)), none⟩, ⟨(some 37), (.mv (.t 3)), (some (36, true))⟩, ⟨(some 38), (.idxA 12 (.t 37) (.c (.int .i64 (0)))), (some (36, true))⟩, ⟨(some 39), (.fldA 5 (.t 38)), (some (36, true))⟩, ⟨(some 40), (.ld 1 false (.t 39)), (some (36, true))⟩, ⟨(some 41), (.bin .eql (.t 40) (.c (.str [10]))), (some (36, true))⟩, ⟨(some 42), (.pick (.t 36) (.t 41) (.c (.bool false))), none⟩, ⟨(some 0), (.mv (.t 42)), none⟩]) .ret)))), [(.tmp 0)]⟩
theorem hc28 : toSF Tryz.prog {pure := [42, 63, 64]} Tryz.f28 = some c28 := by kernel_rfl
theorem hn28 : (Tryz.f28.name == "runtime.NumGoroutine") = false := by kernel_rfl
theorem spanBegun_ok : PCalls (Pg G) 28 [] (.bool true) := fun h => by
  obtain ⟨c1, c2, c3, c4⟩ := one_span
  have h1 : PCalls (Pg G) 63 [.agg (eDoc oneD), .agg [aInt 2, aInt 1, aInt 1, aInt 1]] (.tup [.str [10], aInt 0]) := by
    have h := stext_ok (G := G) oneD oneD_sm oneS1
    rw [c1, if_pos rfl, c2] at h
    exact h
  have h2 : PCalls (Pg G) 64 [.agg (eDoc oneD), .agg [aInt 1, aInt 0, aInt 2, aInt 1]] (.tup [.slc [[aInt 3, aInt 2, aInt 0, aInt 0, .str [], .str [10], aInt 0, .str [], .slc [], .str [], aInt 0, .slc []]], aInt 0]) := by
    have h := scut_ok (G := G) oneD oneD_sm oneS2
    rw [c3, c4] at h
    exact h
  refine dcalls_of_vc Tryz.func28 hn28 hc28 (by rw [Tryz.ntmps28]; simp) (by rw [Tryz.ntmps28]; decide) ?_
  simp -dsimp -implicitDefEqProofs (disch := omega) only [VCA, c28]
  repeat' (first | ((with_reducible refine Br.dec (fun _ => ?_) (fun _ => ?_)) <;> try (exfalso; omega)) | ((with_reducible refine Br.eq (fun _ => ?_) (fun _ => ?_)) <;> try (exfalso; omega)) | ((with_reducible refine Br.ne (fun _ => ?_) (fun _ => ?_)) <;> try (exfalso; omega)) | ((with_reducible refine brNdec (fun _ => ?_) (fun _ => ?_)) <;> try (exfalso; omega)) | ((with_reducible refine brNeq (fun _ => ?_) (fun _ => ?_)) <;> try (exfalso; omega)) | with_reducible refine Br.intro (fun _ => ?_) (fun _ => ?_) | (with_reducible apply pcallE.of; · exact oneP_ok (G := G)) | (with_reducible apply pcallE.of; · exact h1) | (with_reducible apply pcallE.of; · exact h2) | (with_reducible refine And.intro ?_ ?_; · omega) | simp -dsimp -implicitDefEqProofs (disch := omega) only [↓vcOps_sp 23, ↓vcOps_sp 27, ↓vcOps_sp 31, ↓vcOps_sp 36, VCA, Nat.reduceEqDiff, Nat.reduceAdd, Nat.reduceLT, Nat.reduceLeDiff, ↓reduceIte, fillA, okFill, exists_eq_right_right])
  all_goals first | exact ⟨Sub.refl _, rfl⟩ | (rename_i q; exact absurd rfl q)
/-! ## the law of points -/
end Go.Proofs.K
end
section
/- Ranges: what is cut: plain law. -/
set_option linter.unusedSimpArgs false
set_option linter.unusedVariables false
namespace Go.Proofs.K
open Go Go.Sim Go.Proofs
section
variable {d : HDoc}
/-- lies a node between the two points? -/
def liesM (d : HDoc) (s : HSpan) (n : Int) : Prop :=
  0 ≤ (nd d n).parent ∧ n ∉ chain d s.a.node ∧ n ∉ chain d s.b.node ∧ markM d s.a ≤ markM d ⟨(nd d n).parent, idxM (· == n) (nd d (nd d n).parent).kids⟩ ∧ markM d ⟨(nd d n).parent, idxM (· == n) (nd d (nd d n).parent).kids + 1⟩ ≤ markM d s.b
instance (d : HDoc) (s : HSpan) (n : Int) : Decidable (liesM d s n) := by unfold liesM; infer_instance
end
end Go.Proofs.K
end
section
/- Ranges: the reference's cut; the law of cuts. -/
set_option linter.unusedSimpArgs false
set_option linter.unusedVariables false
namespace Go.Proofs.K
open Go Go.Sim Go.Proofs
variable {G : Glob}
end Go.Proofs.K
end
section
/- Lists of edits: are they one? The law of cuts. -/
set_option linter.unusedSimpArgs false
set_option linter.unusedVariables false
namespace Go.Proofs.K
open Go Go.Sim Go.Proofs
variable {G : Glob}
/-- edits without a node -/
def noNode (e : HEdit) : Prop := e.node = ⟨0, [], [], [], 0, []⟩
theorem noNode.sm {e : HEdit} (h : noNode e) : NodeSm e.node := by unfold noNode at h; rw [h]; exact ⟨by simp, by simp, (fun a ha => by cases ha), by simp, by simp⟩
end Go.Proofs.K
end
section
/- Documents of one's own: nodes in a root, lists of each node in roots of their own. -/
set_option linter.unusedSimpArgs false
set_option linter.unusedVariables false
namespace Go.Proofs.K
open Go Go.Sim Go.Proofs
variable {G : Glob}
def rootOf : AVal → Option Nat
  | .osl r _ _ _ => some r
  | _ => none
/-- a list of one's own; or data -/
def OwnS (h : Heap) (ty sz : Nat) (cells : List (List AVal)) (a : AVal) : Prop :=
  (cells = [] ∧ a = .emp) ∨ (a = .slc cells ∧ ∀ e ∈ cells, e.length = sz) ∨ ∃ r es, a = .osl r sz 0 cells.length ∧ h r = some ⟨ty, sz, es⟩ ∧ cells.length ≤ es.length ∧ es.take cells.length = cells
def Mut (a : AVal) : Prop := ∀ es, a ≠ .slc es
theorem OwnS.live {h : Heap} {ty sz : Nat} {cells : List (List AVal)} {a : AVal} (O : OwnS h ty sz cells a) (M : Mut a) : (cells = [] ∧ a = .emp) ∨ ∃ r es, a = .osl r sz 0 cells.length ∧ h r = some ⟨ty, sz, es⟩ ∧ cells.length ≤ es.length ∧ es.take cells.length = cells := by
  rcases O with O | O | O
  · exact .inl O
  · exact absurd O.1 (M _)
  · exact .inr O
theorem OwnS.keep {h h2 : Heap} {ty sz : Nat} {cells : List (List AVal)} {a : AVal} (O : OwnS h ty sz cells a) (hk : ∀ r o, rootOf a = some r → h r = some o → h2 r = some o) : OwnS h2 ty sz cells a := by
  rcases O with O | O | ⟨r, es, ha, hr, h1, h2⟩
  · exact .inl O
  · exact .inr (.inl O)
  · exact .inr (.inr ⟨r, es, ha, hk r _ (by rw [ha]; rfl) hr, h1, h2⟩)
theorem OwnS.of_acc {h h' : Heap} {ty sz : Nat} {cells : List (List AVal)} {a : AVal} (A : Acc h ty sz cells a h') : OwnS h' ty sz cells a ∧ (∀ r, rootOf a = some r → h r = none) ∧ Mut a := by
  rcases A with ⟨h1, h2⟩ | ⟨r, h0, h1, h2⟩
  · exact ⟨.inl ⟨h1, h2⟩, fun r hr => by (rw [h2] at hr; cases hr), fun es e => by rw [h2] at e; cases e⟩
  · exact ⟨.inr (.inr ⟨r, _, h2, h1, Nat.le_refl _, by rw [List.take_length]⟩), fun r' hr => by (rw [h2] at hr; cases hr; exact h0), fun es e => by rw [h2] at e; cases e⟩
theorem OwnS.len {h : Heap} {ty sz : Nat} {cells : List (List AVal)} {a : AVal} (O : OwnS h ty sz cells a) : aLen a = aInt cells.length ∧ okLen a = True := by
  rcases O with ⟨h1, h2⟩ | ⟨h2, _⟩ | ⟨r, es, ha, _⟩
  · subst h1; subst h2; exact ⟨rfl, rfl⟩
  · subst h2; exact ⟨rfl, rfl⟩
  · subst ha; exact ⟨rfl, rfl⟩
theorem OwnS.isV {h : Heap} {ty sz : Nat} {cells : List (List AVal)} {a : AVal} (O : OwnS h ty sz cells a) : isV a = true ∧ cellsOf a = [a] := by
  rcases O with ⟨h1, h2⟩ | ⟨h2, _⟩ | ⟨r, es, ha, _⟩
  · subst h2; exact ⟨rfl, rfl⟩
  · subst h2; exact ⟨rfl, rfl⟩
  · subst ha; exact ⟨rfl, rfl⟩
theorem OwnS.root {h : Heap} {ty sz : Nat} {cells : List (List AVal)} {a : AVal} (O : OwnS h ty sz cells a) {r : Nat} (hr : rootOf a = some r) : ∃ o, h r = some o := by
  rcases O with ⟨h1, h2⟩ | ⟨h2, _⟩ | ⟨r', es, ha, h1, _⟩
  · subst h2; cases hr
  · subst h2; cases hr
  · subst ha; cases hr; exact ⟨_, h1⟩
/-- .. lent to a reader -/
theorem OwnS.vw {α : Type} [Inhabited α] {enc : α → List AVal} {h : Heap} {ty sz : Nat} [LenE enc sz] {l : List α} {a : AVal} (O : OwnS h ty sz (l.map enc) a) : Vw h a (sl enc l) := by
  rcases O with ⟨h1, h2⟩ | ⟨h2, _⟩ | ⟨r, es, ha, hr, h1, h2⟩
  · have : l = [] := by simpa using h1
    subst this; subst h2; exact .emp
  · subst h2; exact .refl _
  · subst ha
    refine .osl r sz 0 _ ⟨ty, sz, es⟩ (l.map enc) hr (by simpa using h1) rfl (fun f hf => by obtain ⟨x, _, rfl⟩ := List.mem_map.1 hf; exact LenE.len x) fun k j e f x y he hf hx hy => ?_
    have hk : k < (l.map enc).length := (List.getElem?_eq_some_iff.1 hf).1
    simp only [Nat.zero_add] at he
    have he' : (es.take (l.map enc).length)[k]? = some e := by rw [List.getElem?_take, if_pos hk]; exact he
    rw [h2] at he'
    rw [he'] at hf
    cases hf
    rw [hx] at hy; cases hy; exact .refl _
def rowA (x : HNode) (a k : AVal) : List AVal := [aInt x.kind, .str x.name, a, .str x.text, aInt x.parent, k]
def rowsA (d : HDoc) (sl : Nat → AVal) : List (List AVal) := (List.range d.nodes.length).map fun i => rowA (nth d.nodes i) (sl (2 * i)) (sl (2 * i + 1))
theorem rowsA_len (d : HDoc) (sl : Nat → AVal) : (rowsA d sl).length = d.nodes.length := by simp [rowsA]
theorem rowsA_get {d : HDoc} {sl : Nat → AVal} {i : Nat} (hi : i < d.nodes.length) : (rowsA d sl).getD i [] = rowA (nth d.nodes i) (sl (2 * i)) (sl (2 * i + 1)) := by
  rw [List.getD_eq_getElem?_getD, rowsA, List.getElem?_map, List.getElem?_range hi]; rfl
structure Dw (X : List Nat) (h0 h : Heap) (rN : Nat) (d : HDoc) (sl : Nat → AVal) : Prop where
  sub : Sim.Sub h0 h
  nodes : h rN = some ⟨.t 40, 6, rowsA d sl⟩
  new : h0 rN = none ∧ rN ∉ X
  own : ∀ i, i < d.nodes.length → OwnS h 96 2 ((nth d.nodes i).attrs.map eAttr) (sl (2 * i)) ∧ OwnS h 3 1 ((nth d.nodes i).kids.map eInt) (sl (2 * i + 1))
  fresh : ∀ k, k < 2 * d.nodes.length → ∀ r, rootOf (sl k) = some r → h0 r = none ∧ r ≠ rN ∧ r ∉ X
  sep : ∀ j k, j < 2 * d.nodes.length → k < 2 * d.nodes.length → j ≠ k → ∀ r, rootOf (sl j) = some r → rootOf (sl k) ≠ some r
  keep : ∀ r ∈ X, ∃ o, h r = some o
theorem Dw.slot {X : List Nat} {h0 h : Heap} {rN : Nat} {d : HDoc} {sl : Nat → AVal} (E : Dw X h0 h rN d sl) {k : Nat} (hk : k < 2 * d.nodes.length) {r : Nat} (hr : rootOf (sl k) = some r) : ∃ o, h r = some o := by
  have hi : k / 2 < d.nodes.length := by omega
  obtain ⟨h1, h2⟩ := E.own _ hi
  rcases (by omega : k = 2 * (k / 2) ∨ k = 2 * (k / 2) + 1) with h | h
  · rw [h] at hr; exact h1.root hr
  · rw [h] at hr; exact h2.root hr
/-- A node is changed: its row, its lists. -/
theorem Dw.put {X : List Nat} {h0 h h2 : Heap} {rN : Nat} {d : HDoc} {sl sl' : Nat → AVal} (E : Dw X h0 h rN d sl) {i : Nat} (hi : i < d.nodes.length) {x' : HNode}
    (hs : ∀ j, j ≠ 2 * i → j ≠ 2 * i + 1 → sl' j = sl j)
    (hN : h2 rN = some ⟨.t 40, 6, (rowsA d sl).set i (rowA x' (sl' (2 * i)) (sl' (2 * i + 1)))⟩)
    (hk : ∀ r o, h r = some o → r ≠ rN → rootOf (sl (2 * i)) ≠ some r → rootOf (sl (2 * i + 1)) ≠ some r → h2 r = some o)
    (hA : OwnS h2 96 2 (x'.attrs.map eAttr) (sl' (2 * i))) (hK : OwnS h2 3 1 (x'.kids.map eInt) (sl' (2 * i + 1)))
    (hf : ∀ r, rootOf (sl' (2 * i)) = some r ∨ rootOf (sl' (2 * i + 1)) = some r → rootOf (sl (2 * i)) = some r ∨ rootOf (sl (2 * i + 1)) = some r ∨ h r = none)
    (hd : ∀ r, rootOf (sl' (2 * i)) = some r → rootOf (sl' (2 * i + 1)) ≠ some r) : Dw X h0 h2 rN ⟨d.nodes.set i x', d.quirks⟩ sl' := by
  have hl : (d.nodes.set i x').length = d.nodes.length := by simp
  have fr : ∀ r, rootOf (sl' (2 * i)) = some r ∨ rootOf (sl' (2 * i + 1)) = some r → h0 r = none ∧ r ≠ rN ∧ r ∉ X := fun r hr => by
    rcases hf r hr with h | h | h
    · exact E.fresh _ (by omega) r h
    · exact E.fresh _ (by omega) r h
    · refine ⟨E.sub.none h, fun e => ?_, fun hx => ?_⟩
      · rw [e, E.nodes] at h; cases h
      · obtain ⟨o, ho⟩ := E.keep r hx; rw [h] at ho; cases ho
  have oth : ∀ j, j < 2 * d.nodes.length → j ≠ 2 * i → j ≠ 2 * i + 1 → ∀ r, rootOf (sl j) = some r → rootOf (sl' (2 * i)) ≠ some r ∧ rootOf (sl' (2 * i + 1)) ≠ some r := fun j hj h1 h2 r hr => by
    have key : ¬ (rootOf (sl (2 * i)) = some r ∨ rootOf (sl (2 * i + 1)) = some r ∨ h r = none) := by
      rintro (h | h | h)
      · exact E.sep j (2 * i) hj (by omega) h1 r hr h
      · exact E.sep j (2 * i + 1) hj (by omega) h2 r hr h
      · obtain ⟨o, ho⟩ := E.slot hj hr; rw [h] at ho; cases ho
    exact ⟨fun h => key (hf r (.inl h)), fun h => key (hf r (.inr h))⟩
  refine ⟨fun t o ht => ?_, ?_, E.new, fun j hj => ?_, fun k hk' r hr => ?_, fun j k hj hk' hne r hr => ?_, fun r hr => ?_⟩
  · have hne : t ≠ rN := fun e => by rw [e, E.new.1] at ht; cases ht
    refine hk t o (E.sub t o ht) hne (fun h => ?_) (fun h => ?_)
    · have := (E.fresh _ (by omega) t h).1; rw [this] at ht; cases ht
    · have := (E.fresh _ (by omega) t h).1; rw [this] at ht; cases ht
  · rw [hN]
    congr 2
    apply List.ext_getElem?
    intro j
    rw [List.getElem?_set]
    show _ = (rowsA ⟨d.nodes.set i x', d.quirks⟩ sl')[j]?
    unfold rowsA
    simp only [hl]
    by_cases hij : i = j
    · subst hij
      rw [if_pos rfl, if_pos (by simpa using hi), List.getElem?_map, List.getElem?_range hi, Option.map_some, nth_set _ _ _ _ hi, if_pos rfl]
    · rw [if_neg hij]
      by_cases hj : j < d.nodes.length
      · rw [List.getElem?_map, List.getElem?_map, List.getElem?_range hj, Option.map_some, Option.map_some, nth_set _ _ _ _ hi, if_neg (fun e => hij e.symm), hs (2 * j) (by omega) (by omega), hs (2 * j + 1) (by omega) (by omega)]
      · rw [List.getElem?_eq_none (by simp; omega), List.getElem?_eq_none (by simp; omega)]
  · simp only [hl] at hj
    show OwnS h2 _ _ ((nth (d.nodes.set i x') j).attrs.map eAttr) _ ∧ OwnS h2 _ _ ((nth (d.nodes.set i x') j).kids.map eInt) _
    rw [nth_set _ _ _ _ hi]
    by_cases hij : j = i
    · subst hij; rw [if_pos rfl]; exact ⟨hA, hK⟩
    · rw [if_neg hij, hs (2 * j) (by omega) (by omega), hs (2 * j + 1) (by omega) (by omega)]
      obtain ⟨g1, g2⟩ := E.own j hj
      exact ⟨g1.keep fun r o hr ho => hk r o ho (E.fresh _ (by omega) r hr).2.1 (fun h => E.sep (2 * j) (2 * i) (by omega) (by omega) (by omega) r hr h) (fun h => E.sep (2 * j) (2 * i + 1) (by omega) (by omega) (by omega) r hr h),
        g2.keep fun r o hr ho => hk r o ho (E.fresh _ (by omega) r hr).2.1 (fun h => E.sep (2 * j + 1) (2 * i) (by omega) (by omega) (by omega) r hr h) (fun h => E.sep (2 * j + 1) (2 * i + 1) (by omega) (by omega) (by omega) r hr h)⟩
  · simp only [hl] at hk'
    by_cases e1 : k = 2 * i
    · subst e1; exact fr r (.inl hr)
    · by_cases e2 : k = 2 * i + 1
      · subst e2; exact fr r (.inr hr)
      · rw [hs k e1 e2] at hr; exact E.fresh k hk' r hr
  · simp only [hl] at hj hk'
    by_cases j1 : j = 2 * i <;> by_cases j2 : j = 2 * i + 1 <;> by_cases k1 : k = 2 * i <;> by_cases k2 : k = 2 * i + 1
    all_goals first
      | (exfalso; omega)
      | (subst j1; subst k2; exact hd r hr)
      | (subst j2; subst k1; exact fun h => hd r h hr)
      | (subst j1; rw [hs k k1 k2]; exact fun h => (oth k hk' k1 k2 r h).1 hr)
      | (subst j2; rw [hs k k1 k2]; exact fun h => (oth k hk' k1 k2 r h).2 hr)
      | (subst k1; rw [hs j j1 j2] at hr; exact (oth j hj j1 j2 r hr).1)
      | (subst k2; rw [hs j j1 j2] at hr; exact (oth j hj j1 j2 r hr).2)
      | (rw [hs j j1 j2] at hr; rw [hs k k1 k2]; exact E.sep j k hj hk' hne r hr)
  · obtain ⟨o, ho⟩ := E.keep r hr
    refine ⟨o, hk r o ho (fun e => E.new.2 (e ▸ hr)) (fun h => ?_) (fun h => ?_)⟩
    · exact (E.fresh _ (by omega) r h).2.2 hr
    · exact (E.fresh _ (by omega) r h).2.2 hr
/-- a document lent to a reader -/
theorem Dw.vw {X : List Nat} {h0 h : Heap} {rN : Nat} {d : HDoc} {sl' : Nat → AVal} (E : Dw X h0 h rN d sl') : Vw h (.osl rN 6 0 d.nodes.length) (sl eNode d.nodes) := by
  refine Vw.osl0 E.nodes (by simp) (by rw [rowsA_len]; exact Nat.le_refl _) (fun f hf => by obtain ⟨x, _, rfl⟩ := List.mem_map.1 hf; rfl) ?_
  show F2 (F2 (Vw h)) ((rowsA d sl').take d.nodes.length) (d.nodes.map eNode)
  rw [List.take_of_length_le (by rw [rowsA_len]; exact Nat.le_refl _)]
  have key : ∀ (i : Nat), i < d.nodes.length → F2 (Vw h) (rowA (nth d.nodes i) (sl' (2 * i)) (sl' (2 * i + 1))) (eNode (nth d.nodes i)) := fun i hi => by
    obtain ⟨g1, g2⟩ := E.own i hi
    exact .cons (.refl _) (.cons (.refl _) (.cons g1.vw (.cons (.refl _) (.cons (.refl _) (.cons g2.vw .nil)))))
  have e : d.nodes.map eNode = (List.range d.nodes.length).map fun i => eNode (nth d.nodes i) := by
    apply List.ext_getElem?
    intro j
    by_cases hj : j < d.nodes.length
    · rw [List.getElem?_map, List.getElem?_map, List.getElem?_range hj, nth_some hj]; rfl
    · rw [List.getElem?_eq_none (by simp; omega), List.getElem?_eq_none (by simp; omega)]
  rw [e]
  unfold rowsA
  have gen : ∀ l : List Nat, (∀ i ∈ l, i < d.nodes.length) → F2 (F2 (Vw h)) (l.map fun i => rowA (nth d.nodes i) (sl' (2 * i)) (sl' (2 * i + 1))) (l.map fun i => eNode (nth d.nodes i)) := fun l => by
    induction l with
    | nil => intro _; exact .nil
    | cons i l ih => intro hl; exact .cons (key i (hl i List.mem_cons_self)) (ih fun j hj => hl j (List.mem_cons_of_mem _ hj))
  exact gen _ fun i hi => List.mem_range.1 hi
/-- another root's contents are changed -/
theorem Dw.other {X : List Nat} {h0 h : Heap} {rN : Nat} {d : HDoc} {sl : Nat → AVal} (E : Dw X h0 h rN d sl) {r : Nat} (hr : r ∈ X) (h0r : h0 r = none) (o : AObj) : Dw X h0 (upd h r (some o)) rN d sl := by
  have hne : rN ≠ r := fun e => E.new.2 (e ▸ hr)
  refine ⟨E.sub.upd h0r, by rw [upd_ne _ _ hne]; exact E.nodes, E.new, fun i hi => ?_, E.fresh, E.sep, fun t ht => ?_⟩
  · obtain ⟨g1, g2⟩ := E.own i hi
    exact ⟨g1.keep fun t ob ht ho => by rw [upd_ne _ _ (fun e => (E.fresh _ (by omega) t ht).2.2 (by rw [e]; exact hr))]; exact ho, g2.keep fun t ob ht ho => by rw [upd_ne _ _ (fun e => (E.fresh _ (by omega) t ht).2.2 (by rw [e]; exact hr))]; exact ho⟩
  · by_cases e : t = r
    · subst e; exact ⟨o, upd_same _ _ _⟩
    · rw [upd_ne _ _ e]; exact E.keep t ht
theorem Dw.less {X X' : List Nat} {h0 h : Heap} {rN : Nat} {d : HDoc} {sl : Nat → AVal} (E : Dw X h0 h rN d sl) (hx : ∀ r ∈ X', r ∈ X) : Dw X' h0 h rN d sl :=
  ⟨E.sub, E.nodes, ⟨E.new.1, fun h => E.new.2 (hx _ h)⟩, E.own, fun k hk r hr => ⟨(E.fresh k hk r hr).1, (E.fresh k hk r hr).2.1, fun h => (E.fresh k hk r hr).2.2 (hx _ h)⟩, E.sep, fun r hr => E.keep r (hx r hr)⟩
/-- .. a root more that is not to be touched -/
theorem Dw.more {X : List Nat} {h0 h : Heap} {rN : Nat} {d : HDoc} {sl : Nat → AVal} (E : Dw X h0 h rN d sl) {r : Nat} (hr : h r = none) (o : AObj) : Dw (r :: X) h0 (upd h r (some o)) rN d sl := by
  have hne : rN ≠ r := fun e => by have := E.nodes; rw [e, hr] at this; cases this
  have sn : ∀ k, k < 2 * d.nodes.length → ∀ t, rootOf (sl k) = some t → t ≠ r := fun k hk t ht e => by
    obtain ⟨o', ho⟩ := E.slot hk ht; rw [e, hr] at ho; cases ho
  refine ⟨E.sub.upd (E.sub.none hr), by rw [upd_ne _ _ hne]; exact E.nodes, ⟨E.new.1, fun h => ?_⟩, fun i hi => ?_, fun k hk t ht => ⟨(E.fresh k hk t ht).1, (E.fresh k hk t ht).2.1, fun h => ?_⟩, E.sep, fun t ht => ?_⟩
  · rcases List.mem_cons.1 h with h | h
    · exact hne h
    · exact E.new.2 h
  · obtain ⟨g1, g2⟩ := E.own i hi
    exact ⟨g1.keep fun t ob ht ho => by rw [upd_ne _ _ (sn _ (by omega) t ht)]; exact ho, g2.keep fun t ob ht ho => by rw [upd_ne _ _ (sn _ (by omega) t ht)]; exact ho⟩
  · rcases List.mem_cons.1 h with h | h
    · exact sn k hk t ht h
    · exact (E.fresh k hk t ht).2.2 h
  · by_cases e : t = r
    · subst e; exact ⟨o, upd_same _ _ _⟩
    · rw [upd_ne _ _ e]; exact E.keep t ((List.mem_cons.1 ht).resolve_left e)
theorem getD_set_same {es : List (List AVal)} {k : Nat} {x : List AVal} (hk : k < es.length) : (es.set k x).getD k [] = x := by
  rw [List.getD_eq_getElem?_getD, List.getElem?_set]; simp [hk]
theorem set_set_same {es : List (List AVal)} {k : Nat} {x y : List AVal} : (es.set k x).set k y = es.set k y := by simp
end Go.Proofs.K
end
section
/- The editor: own, node, element. -/
set_option linter.unusedSimpArgs false
set_option linter.unusedVariables false
namespace Go.Proofs.K
open Go Go.Sim Go.Proofs
variable {G : Glob}
theorem Dw.cong {X : List Nat} {h0 h : Heap} {rN : Nat} {d d' : HDoc} {sl : Nat → AVal} (E : Dw X h0 h rN d sl) (h1 : d = d') : Dw X h0 h rN d' sl := h1 ▸ E
def c111 : SFun := ⟨(.seq (.reg [⟨(some 2), (.mv (.c .emp)), none⟩]) (.seq (.seq (.reg [⟨(some 3), (.mv (.t 0)), none⟩, ⟨(some 4), (.isnil 0 false (.t 3)), none⟩]) (.cond (.t 4) (.seq (.reg [⟨(some 2), (.mv (.c .emp)), none⟩]) .ret) .skip)) (.seq (.reg [⟨(some 5), (.bldF 40 6 []), none⟩, ⟨(some 6), (.mv (.t 0)), none⟩, ⟨(some 7), (.app 40 6 96 (.t 5) (.t 6)), none⟩, ⟨(some 2), (.mv (.t 7)), none⟩]) .ret))), [(.tmp 2)]⟩
theorem hc111 : toSF Tryz.prog {} Tryz.f111 = some c111 := by kernel_rfl
theorem hn111 : (Tryz.f111.name == "runtime.NumGoroutine") = false := by kernel_rfl
theorem cloneN_own {h : Heap} (l : List HNode) (hl : l.length ≤ 1073741824) : DCalls (Pg G) 111 [sl eNode l] h (AccK h 40 6 (l.map eNode)) := by
  refine dcalls_of_vc Tryz.func111 hn111 hc111 (by rw [Tryz.ntmps111]; simp) (by rw [Tryz.ntmps111]; decide) ?_
  simp -dsimp -implicitDefEqProofs (disch := omega) only [VCA, ↓reduceIte, reduceCtorEq, c111]
  intro b hb
  refine Br.intro (fun ht => ?_) (fun hf => ?_)
  · simp -dsimp -implicitDefEqProofs (disch := omega) only [VCA, ↓reduceIte]
    have : l = [] := hb (by simpa using ht)
    subst this
    exact ⟨_, Sub.refl _, Acc.nil, Sub.refl _⟩
  · simp -dsimp -implicitDefEqProofs (disch := omega) only [VCA, Nat.reduceEqDiff, ↓reduceIte, reduceCtorEq, okParts, exists_eq_left]
    refine ⟨by omega, by omega, fun r hr => ?_⟩
    exact ⟨_, Sub.refl _, by simpa using Acc.root (cells := l.map eNode) hr (upd_same _ _ _), (Sub.refl _).upd hr⟩
def c70 : SFun := ⟨(.seq (.reg [⟨(some 2), (.mv (.c .emp)), none⟩]) (.seq (.seq (.reg [⟨(some 3), (.mv (.t 0)), none⟩, ⟨(some 4), (.isnil 0 false (.t 3)), none⟩]) (.cond (.t 4) (.seq (.reg [⟨(some 2), (.mv (.c .emp)), none⟩]) .ret) .skip)) (.seq (.reg [⟨(some 5), (.bldF 3 1 []), none⟩, ⟨(some 6), (.mv (.t 0)), none⟩, ⟨(some 7), (.app 3 1 8 (.t 5) (.t 6)), none⟩, ⟨(some 2), (.mv (.t 7)), none⟩]) .ret))), [(.tmp 2)]⟩
theorem hc70 : toSF Tryz.prog {} Tryz.f70 = some c70 := by kernel_rfl
theorem hn70 : (Tryz.f70.name == "runtime.NumGoroutine") = false := by kernel_rfl
theorem cloneZ_own {h : Heap} (l : List Int) (hl : l.length ≤ 1073741824) : DCalls (Pg G) 70 [sl eInt l] h (AccK h 3 1 (l.map eInt)) := by
  refine dcalls_of_vc Tryz.func70 hn70 hc70 (by rw [Tryz.ntmps70]; simp) (by rw [Tryz.ntmps70]; decide) ?_
  simp -dsimp -implicitDefEqProofs (disch := omega) only [VCA, ↓reduceIte, reduceCtorEq, c70]
  intro b hb
  refine Br.intro (fun ht => ?_) (fun hf => ?_)
  · simp -dsimp -implicitDefEqProofs (disch := omega) only [VCA, ↓reduceIte]
    have : l = [] := hb (by simpa using ht)
    subst this
    exact ⟨_, Sub.refl _, Acc.nil, Sub.refl _⟩
  · simp -dsimp -implicitDefEqProofs (disch := omega) only [VCA, Nat.reduceEqDiff, ↓reduceIte, reduceCtorEq, okParts, exists_eq_left]
    refine ⟨by omega, by omega, fun r hr => ?_⟩
    exact ⟨_, Sub.refl _, by simpa using Acc.root (cells := l.map eInt) hr (upd_same _ _ _), (Sub.refl _).upd hr⟩
def c77 : SFun := ⟨(.seq (.reg [⟨(some 1), (.boxF 24 2 (.t 0)), none⟩, ⟨(some 2), (.new 24 2 [.emp, (.bool false)]), none⟩]) (.seq (.dreg [(⟨(some 6), (.fldA 0 (.t 1)), none⟩, none), (⟨(some 7), (.ld 1 false (.t 6)), none⟩, none), (⟨(some 9), (.fldA 1 (.t 1)), none⟩, none), (⟨(some 10), (.ld 1 false (.t 9)), none⟩, none), (⟨(some 8), (.call (.c (.fn 111 [] [])) [(.t 7)]), none⟩, (some [7])), (⟨(some 11), (.bld [.emp, (.bool false)] [(0, (1, (.t 8))), (1, (1, (.t 10)))]), none⟩, none), (⟨(some 3), (.new 24 2 [.emp, (.bool false)]), none⟩, (some [])), (⟨none, (.st 2 (.t 3) (.t 11)), none⟩, (some [10, 7]))]) (.seq (.seq (.reg [⟨(some 12), (.fldA 0 (.t 3)), none⟩, ⟨(some 13), (.ld 1 false (.t 12)), none⟩, ⟨(some 14), (.len (.t 13)), none⟩, ⟨(some 15), (.mv (.c (.int .i64 (0)))), none⟩]) (.block 0 (.loop (.seq (.reg [⟨(some 16), (.bin .lss (.t 15) (.t 14)), none⟩]) (.seq (.cond (.t 16) .skip (.exit 0)) (.seq (.block 1 (.seq (.reg [⟨(some 17), (.mv (.t 15)), none⟩, ⟨(some 4), (.mv (.t 17)), none⟩]) (.seq (.reg [⟨(some 18), (.fldA 0 (.t 3)), none⟩, ⟨(some 19), (.ld 1 false (.t 18)), none⟩, ⟨(some 20), (.mv (.t 4)), none⟩, ⟨(some 21), (.idxA 6 (.t 19) (.t 20)), none⟩, ⟨(some 5), (.mv (.t 21)), none⟩]) (.dreg [(⟨(some 22), (.mv (.t 5)), none⟩, none), (⟨(some 23), (.mv (.t 5)), none⟩, none), (⟨(some 24), (.mv (.t 5)), none⟩, none), (⟨(some 25), (.fldA 0 (.t 24)), none⟩, none), (⟨(some 26), (.fldA 2 (.t 25)), none⟩, none), (⟨(some 27), (.ld 1 false (.t 26)), none⟩, none), (⟨(some 29), (.mv (.t 5)), none⟩, none), (⟨(some 30), (.fldA 0 (.t 29)), none⟩, none), (⟨(some 31), (.fldA 5 (.t 30)), none⟩, none), (⟨(some 32), (.ld 1 false (.t 31)), none⟩, none), (⟨(some 28), (.call (.c (.fn 69 [] [])) [(.t 27)]), none⟩, (some [27])), (⟨(some 33), (.call (.c (.fn 70 [] [])) [(.t 32)]), none⟩, (some [32, 27])), (⟨(some 34), (.fldA 0 (.t 22)), none⟩, none), (⟨(some 35), (.fldA 2 (.t 34)), none⟩, none), (⟨none, (.st 1 (.t 35) (.t 28)), none⟩, (some [32, 27])), (⟨(some 36), (.fldA 0 (.t 23)), none⟩, none), (⟨(some 37), (.fldA 5 (.t 36)), none⟩, none), (⟨none, (.st 1 (.t 37) (.t 33)), none⟩, (some [32, 27]))])))) (.reg [⟨(some 38), (.bin .add (.t 15) (.c (.int .i64 (1)))), none⟩, ⟨(some 15), (.mv (.t 38)), none⟩]))))))) (.seq (.reg [⟨(some 39), (.ld 2 true (.t 3)), none⟩, ⟨none, (.st 2 (.t 2) (.t 39)), none⟩]) .ret)))), [(.cell 2 2 true)]⟩
theorem hc77 : toSF Tryz.prog {} Tryz.f77 = some c77 := by kernel_rfl
theorem hn77 : (Tryz.f77.name == "runtime.NumGoroutine") = false := by kernel_rfl
theorem own_ok' (d : HDoc) (sm : DocSm d) (hN : 0 < d.nodes.length) (h : Heap) : DCalls (Pg G) 77 [.agg (eDoc d)] h fun a h' => ∃ rN sl, a = .agg [.osl rN 6 0 d.nodes.length, .bool d.quirks] ∧ Dw [] h h' rN d sl ∧ ∀ k, k < 2 * d.nodes.length → Mut (sl k) := by
  have hl := sm.len
  refine dcalls_of_vc Tryz.func77 hn77 hc77 (by rw [Tryz.ntmps77]; simp) (by rw [Tryz.ntmps77]; decide) ?_
  simp -dsimp -implicitDefEqProofs (disch := omega) only [VCA, Nat.reduceEqDiff, Nat.reduceAdd, Nat.reduceLeDiff, ↓reduceIte, rsOf, rootsOf, rootL, c77, eDoc]
  intro r2 hr2
  refine DCalls.of (cloneN_own (G := G) d.nodes hl) ?_
  rintro a h1 ⟨A, S1⟩
  obtain ⟨rN, hn0, hn1, rfl⟩ := A.pos (by simpa using hN)
  rw [List.length_map]
  have n2N : ¬ rN = r2 := fun e => by rw [e] at hn0; simp [upd] at hn0
  have g2 : h1 r2 = some ⟨.t 24, 2, [[.emp, .bool false]]⟩ := S1 _ _ (upd_same _ _ _)
  simp -dsimp -implicitDefEqProofs (disch := omega) only [VCA, Nat.reduceEqDiff, Nat.reduceAdd, Nat.reduceLT, Nat.reduceLeDiff, ↓reduceIte, rsOf, rootsOf, SOp.rd, SI.rd, SX.rd, rdL, fillA, okFill, setAt, exists_eq_left', rootL]
  intro r3 hr3
  have n3N : ¬ rN = r3 := fun e => by rw [e, hr3] at hn1; cases hn1
  have n32 : ¬ r2 = r3 := fun e => by rw [e, hr3] at g2; cases g2
  have h0N : h rN = none := by rw [upd_ne _ _ n2N] at hn0; exact hn0
  have S01 : Sim.Sub h h1 := fun t o ht => S1 t o (by rw [upd_ne _ _ (fun e => by rw [e, hr2] at ht; cases ht)]; exact ht)
  have h03 : h r3 = none := S01.none hr3
  obtain ⟨sl0, hsl0⟩ : ∃ sl0 : Nat → AVal, ∀ i, sl0 (2 * i) = sl eAttr (nth d.nodes i).attrs ∧ sl0 (2 * i + 1) = sl eInt (nth d.nodes i).kids :=
    ⟨fun j => if j % 2 = 0 then sl eAttr (nth d.nodes (j / 2)).attrs else sl eInt (nth d.nodes (j / 2)).kids, fun i => by
      constructor
      · dsimp only; rw [if_pos (by omega), show 2 * i / 2 = i by omega]
      · dsimp only; rw [if_neg (by omega), show (2 * i + 1) / 2 = i by omega]⟩
  have rt : ∀ k r, rootOf (sl0 k) ≠ some r := fun k r => by
    rcases (by omega : k = 2 * (k / 2) ∨ k = 2 * (k / 2) + 1) with h | h
    · rw [h, (hsl0 _).1]; exact fun e => by cases e
    · rw [h, (hsl0 _).2]; exact fun e => by cases e
  have rows0 : rowsA d sl0 = d.nodes.map eNode := by
    apply List.ext_getElem?
    intro j
    unfold rowsA
    by_cases hj : j < d.nodes.length
    · rw [List.getElem?_map, List.getElem?_map, List.getElem?_range hj, nth_some hj, Option.map_some, Option.map_some, (hsl0 j).1, (hsl0 j).2]; rfl
    · rw [List.getElem?_eq_none (by simp; omega), List.getElem?_eq_none (by simp; omega)]
  have E0 : Dw [r2, r3] h (upd h1 r3 (some ⟨.t 24, 2, [[.osl rN 6 0 d.nodes.length, .bool d.quirks]]⟩)) rN d sl0 := by
    refine ⟨S01.upd h03, by rw [upd_ne _ _ n3N, hn1, rows0], ⟨h0N, by simp [n2N, n3N]⟩, fun i hi => ?_, fun k _ r hr => absurd hr (rt k r), fun j k _ _ _ r hr => absurd hr (rt j r), fun r hr => ?_⟩
    · rw [(hsl0 i).1, (hsl0 i).2]
      exact ⟨.inr (.inl ⟨rfl, fun e he => by obtain ⟨x, _, rfl⟩ := List.mem_map.1 he; rfl⟩), .inr (.inl ⟨rfl, fun e he => by obtain ⟨x, _, rfl⟩ := List.mem_map.1 he; rfl⟩)⟩
    · simp only [List.mem_cons, List.mem_nil_iff, or_false] at hr
      rcases hr with rfl | rfl
      · exact ⟨_, by rw [upd_ne _ _ n32]; exact g2⟩
      · exact ⟨_, upd_same _ _ _⟩
  refine LoopVC.intro (fun m e h' => ∃ (k : Nat) (sl' : Nat → AVal), k ≤ d.nodes.length ∧ m = d.nodes.length - k ∧ e 2 = .vp r2 0 ∧ e 3 = .vp r3 0 ∧ e 14 = aInt d.nodes.length ∧ e 15 = aInt k ∧ Dw [r2, r3] h h' rN d sl' ∧
    h' r2 = some ⟨.t 24, 2, [[.emp, .bool false]]⟩ ∧ h' r3 = some ⟨.t 24, 2, [[.osl rN 6 0 d.nodes.length, .bool d.quirks]]⟩ ∧ (∀ j, j < 2 * k → Mut (sl' j)) ∧ ∀ j, 2 * k ≤ j → sl' j = sl0 j) d.nodes.length
    ⟨0, sl0, by omega, by omega, rfl, rfl, rfl, rfl, E0, by rw [upd_ne _ _ n32]; exact g2, upd_same _ _ _, by omega, fun _ _ => rfl⟩ ?_
  clear E0 hn1 A g2 hr3 hn0 rt rows0
  rintro m e h' ⟨k, sl', hk, rfl, he2, he3, he14, he15, E, g2, g3, hm, hs⟩
  simp -dsimp -implicitDefEqProofs (disch := omega) only [VCA, ↓reduceIte, he14, he15]
  refine Br.dec (fun hlt => ?_) (fun hge => ?_)
  · have hk' : k < d.nodes.length := by omega
    have gN := E.nodes
    have gk := rowsA_get (sl := sl') hk'
    have rl := rowsA_len d sl'
    rw [hs (2 * k) (by omega), hs (2 * k + 1) (by omega), (hsl0 k).1, (hsl0 k).2] at gk
    unfold rowA at gk
    have smk := sm.nth k
    simp -dsimp -implicitDefEqProofs (disch := omega) only [VCA, Nat.reduceEqDiff, Nat.reduceAdd, Nat.reduceLT, Nat.reduceLeDiff, ↓reduceIte, rsOf, rootsOf, exists_eq_left', rootL, he3, he15, g3, gN, gk, rl]
    refine ⟨by omega, hk', hk', DCalls.of (cloneA_own (G := G) _ smk.attrs) ?_⟩
    rintro a h2 ⟨A1, T1⟩
    have gN2 := T1 _ _ gN
    simp -dsimp -implicitDefEqProofs (disch := omega) only [VCA, Nat.reduceEqDiff, Nat.reduceBEq, ↓reduceIte, SOp.rd, SI.rd, SX.rd, rdL, implies_true, gN, gN2]
    refine DCalls.of (cloneZ_own (G := G) _ smk.kids) ?_
    rintro a2 h3 ⟨A2, T2⟩
    have gN3 := T2 _ _ gN2
    obtain ⟨O1, f1, M1⟩ := OwnS.of_acc A1
    obtain ⟨O2, f2, M2⟩ := OwnS.of_acc A2
    obtain ⟨v1, c1⟩ := O1.isV
    obtain ⟨v2, c2⟩ := O2.isV
    simp -dsimp -implicitDefEqProofs (disch := omega) only [VCA, Nat.reduceEqDiff, Nat.reduceBEq, Nat.reduceAdd, Nat.reduceLeDiff, ↓reduceIte, rsOf, rootsOf, SOp.rd, SI.rd, SX.rd, rdL, setAt, implies_true, exists_eq_left', rootL, he2, he3, he14, he15, gN2, gN3, gk, rl, v1, c1, v2, c2, List.length_set, getD_set_same, set_set_same]
    have hki : (2 * k : Nat) ≠ 2 * k + 1 := by omega
    refine ⟨by omega, by omega, d.nodes.length - (k + 1), by omega, k + 1, upd (upd sl' (2 * k) a) (2 * k + 1) a2, by omega, rfl, by omega, ?_, ?_, ?_, ?_, ?_⟩
    · have u1 : upd (upd sl' (2 * k) a) (2 * k + 1) a2 (2 * k) = a := by rw [upd_ne _ _ hki, upd_same]
      have u2 : upd (upd sl' (2 * k) a) (2 * k + 1) a2 (2 * k + 1) = a2 := upd_same _ _ _
      have T : Sim.Sub h' h3 := T1.trans T2
      refine (E.put hk' (x' := nth d.nodes k) (fun j h1 h2 => by rw [upd_ne _ _ h2, upd_ne _ _ h1]) ?_ ?_ ?_ ?_ ?_ ?_).cong ?_
      · rw [u1, u2, upd_same]; rfl
      · intro r o ho hne _ _
        rw [upd_ne _ _ hne]
        exact T _ _ ho
      · rw [u1]
        exact O1.keep fun r o hr ho => by
          rw [upd_ne _ _ (fun e => by have := f1 r hr; rw [e, gN] at this; cases this)]
          exact T2 _ _ ho
      · rw [u2]
        exact O2.keep fun r o hr ho => by
          rw [upd_ne _ _ (fun e => by have := f2 r hr; rw [e, gN2] at this; cases this)]
          exact ho
      · rw [u1, u2]
        rintro r (hr | hr)
        · exact .inr (.inr (f1 r hr))
        · exact .inr (.inr (T1.none (f2 r hr)))
      · rw [u1, u2]
        intro r hr hr2
        obtain ⟨o, ho⟩ := O1.root hr
        have := f2 r hr2
        rw [ho] at this; cases this
      · have : d.nodes.set k (nth d.nodes k) = d.nodes := by
          apply List.ext_getElem?
          intro j
          rw [List.getElem?_set]
          split
          · rename_i h; subst h; first | (rw [if_pos hk', nth_some hk']) | (rw [nth_some hk'])
          · rfl
        rw [this]
    · rw [if_neg (fun e => n2N e.symm)]; exact (T1.trans T2) _ _ g2
    · rw [if_neg (fun e => n3N e.symm)]; exact (T1.trans T2) _ _ g3
    · intro j hj
      by_cases j1 : j = 2 * k + 1
      · subst j1; rw [upd_same]; exact M2
      · rw [upd_ne _ _ j1]
        by_cases j2 : j = 2 * k
        · subst j2; rw [upd_same]; exact M1
        · rw [upd_ne _ _ j2]; exact hm j (by omega)
    · intro j hj
      rw [upd_ne _ _ (by omega), upd_ne _ _ (by omega)]
      exact hs j (by omega)
  · simp -dsimp -implicitDefEqProofs (disch := omega) only [VCA, Nat.reduceEqDiff, Nat.reduceAdd, Nat.reduceLT, ↓reduceIte, setAt, exists_eq_left', he2, he3, g2, g3]
    obtain rfl : k = d.nodes.length := by omega
    exact ⟨_, Sub.refl _, rN, sl', rfl, (E.other (r := r2) (by simp) hr2 _).less (by simp), hm⟩
end Go.Proofs.K
end
section
/- The editor: node, element; lists grown. -/
set_option linter.unusedSimpArgs false
set_option linter.unusedVariables false
namespace Go.Proofs.K
open Go Go.Sim Go.Proofs
variable {G : Glob}
/-- a reader is lent what is the call's own -/
theorem DCalls.bor {P : PG} {f : Nat} {args args' : List AVal} {v : AVal} {h : Heap} (hp : PCalls P f args' v) (hs : Scal v) (hv : F2 (Vw h) args args') : DCalls P f args h fun r h' => r = v ∧ h' = h := hp.borrow hs hv.len hv.get
theorem OwnS.app {h : Heap} {ty sz b : Nat} {cells es2 : List (List AVal)} {a : AVal} (O : OwnS h ty sz cells a) (M : Mut a) (h1 : (cells.length + es2.length) * b ≤ 140737488355328) (h2 : cells.length + es2.length ≤ 140737488355328) {K : AVal → Heap → Prop}
    (hk : ∀ r' h'', h'' r' = some ⟨ty, sz, cells ++ es2⟩ → (rootOf a = some r' ∨ h r' = none) → (∀ r o, h r = some o → rootOf a ≠ some r → h'' r = some o) → K (.osl r' sz 0 (cells.length + es2.length)) h'') : Hd (appE ty sz b a es2 h) K .mk := by
  rcases O.live M with ⟨rfl, rfl⟩ | ⟨r, es, rfl, hr, hl, ht⟩
  · refine ⟨by simpa using h1, by simpa using h2, fun r hr => ?_⟩
    have := hk r (upd h r (some ⟨ty, sz, es2⟩)) (by simp) (.inr hr) (fun t o ho _ => by rw [upd_ne _ _ (fun e => by rw [e, hr] at ho; cases ho)]; exact ho)
    simpa using this
  · refine ⟨rfl, _, hr, rfl, by simpa using hl, h1, h2, fun r' hr' => ?_⟩
    have hr2 : r' = r ∨ h r' = none := by
      unfold del at hr'
      split at hr'
      · rename_i e; exact .inl e
      · exact .inr hr'
    refine hk r' _ (by simp [ht]) ?_ fun t o ho hne => ?_
    · rcases hr2 with e | e
      · left; rw [e]; rfl
      · exact .inr e
    · have e1 : t ≠ r := fun e => hne (by rw [e]; rfl)
      have e2 : t ≠ r' := fun e => by
        rcases hr2 with e3 | e3
        · exact e1 (e.trans e3)
        · rw [e, e3] at ho; cases ho
      rw [upd_ne _ _ e2]; unfold del; rw [if_neg e1]; exact ho
structure Ed (h0 h : Heap) (re rN : Nat) (d : HDoc) (sl : Nat → AVal) (made : Int) : Prop where
  dw : Dw [re] h0 h rN d sl
  ed : h re = some ⟨.t 118, 3, [[.osl rN 6 0 d.nodes.length, .bool d.quirks, aInt made]]⟩
  new : h0 re = none
  live : ∀ k, k < 2 * d.nodes.length → Mut (sl k)
def nodeP (rN : Nat) (d : HDoc) (n : Int) : AVal := if inD d n then .ptr rN n.toNat 0 else .prim (.pointer none)
def c180 : SFun := ⟨(.seq (.reg [⟨(some 4), (.mv (.c (.prim (Value.pointer none)))), none⟩]) (.seq (.seq (.reg [⟨(some 5), (.mv (.t 1)), none⟩, ⟨(some 6), (.bin .lss (.t 5) (.c (.int .i64 (0)))), none⟩, ⟨(some 7), (.mv (.t 6)), none⟩, ⟨(some 8), (.mv (.t 1)), (some (7, false))⟩, ⟨(some 9), (.mv (.t 0)), (some (7, false))⟩, ⟨(some 10), (.fldA 0 (.t 9)), (some (7, false))⟩, ⟨(some 11), (.fldA 0 (.t 10)), (some (7, false))⟩, ⟨(some 12), (.fldA 0 (.t 11)), (some (7, false))⟩, ⟨(some 13), (.ld 1 false (.t 12)), (some (7, false))⟩, ⟨(some 14), (.len (.t 13)), (some (7, false))⟩, ⟨(some 15), (.bin .geq (.t 8) (.t 14)), (some (7, false))⟩, ⟨(some 16), (.pick (.t 7) (.c (.bool true)) (.t 15)), none⟩]) (.cond (.t 16) (.seq (.reg [⟨(some 4), (.mv (.c (.prim (Value.pointer none)))), none⟩]) .ret) .skip)) (.seq (.reg [⟨(some 17), (.mv (.t 0)), none⟩, ⟨(some 18), (.fldA 0 (.t 17)), none⟩, ⟨(some 19), (.fldA 0 (.t 18)), none⟩, ⟨(some 20), (.fldA 0 (.t 19)), none⟩, ⟨(some 21), (.ld 1 false (.t 20)), none⟩, ⟨(some 22), (.mv (.t 1)), none⟩, ⟨(some 23), (.idxA 6 (.t 21) (.t 22)), none⟩, ⟨(some 4), (.mv (.t 23)), none⟩]) .ret))), [(.tmp 4)]⟩
theorem hc180 : toSF Tryz.prog {} Tryz.f180 = some c180 := by kernel_rfl
theorem hn180 : (Tryz.f180.name == "runtime.NumGoroutine") = false := by kernel_rfl
theorem enode_ok {h0 h : Heap} {re rN : Nat} {d : HDoc} {sl : Nat → AVal} {made : Int} (E : Ed h0 h re rN d sl made) (n : Int) : DCalls (Pg G) 180 [.vp re 0, aInt n] h fun r h' => r = nodeP rN d n ∧ h' = h := by
  have g := E.ed
  refine dcalls_of_vc Tryz.func180 hn180 hc180 (by rw [Tryz.ntmps180]; simp) (by rw [Tryz.ntmps180]; decide) ?_
  unfold nodeP
  by_cases hn : inD d n
  · have n0 := hn.1
    have n1 := hn.2
    rw [if_pos hn]
    simp -dsimp -implicitDefEqProofs (disch := omega) only [↓vcOps_sp 7, VCA, Nat.reduceEqDiff, ↓reduceIte, c180]
    repeat' (first | ((with_reducible refine Br.dec (fun _ => ?_) (fun _ => ?_)) <;> try (exfalso; omega)) | ((with_reducible refine Br.eq (fun _ => ?_) (fun _ => ?_)) <;> try (exfalso; omega)) | ((with_reducible refine Br.ne (fun _ => ?_) (fun _ => ?_)) <;> try (exfalso; omega)) | ((with_reducible refine brNdec (fun _ => ?_) (fun _ => ?_)) <;> try (exfalso; omega)) | ((with_reducible refine brNeq (fun _ => ?_) (fun _ => ?_)) <;> try (exfalso; omega)) | with_reducible refine Br.intro (fun _ => ?_) (fun _ => ?_) | (with_reducible refine And.intro ?_ ?_; · omega) | simp -dsimp -implicitDefEqProofs (disch := omega) only [VCA, Nat.reduceEqDiff, Nat.reduceAdd, Nat.reduceLT, Nat.reduceLeDiff, ↓reduceIte, reduceCtorEq, exists_eq_right, exists_eq_left', g])
    all_goals first | (exfalso; omega) | exact ⟨Sub.refl _, by simp⟩ | exact Sub.refl _
  · rw [if_neg hn]
    unfold inD at hn
    simp -dsimp -implicitDefEqProofs (disch := omega) only [↓vcOps_sp 7, VCA, Nat.reduceEqDiff, ↓reduceIte, c180]
    repeat' (first | ((with_reducible refine Br.dec (fun _ => ?_) (fun _ => ?_)) <;> try (exfalso; omega)) | ((with_reducible refine Br.eq (fun _ => ?_) (fun _ => ?_)) <;> try (exfalso; omega)) | ((with_reducible refine Br.ne (fun _ => ?_) (fun _ => ?_)) <;> try (exfalso; omega)) | ((with_reducible refine brNdec (fun _ => ?_) (fun _ => ?_)) <;> try (exfalso; omega)) | ((with_reducible refine brNeq (fun _ => ?_) (fun _ => ?_)) <;> try (exfalso; omega)) | with_reducible refine Br.intro (fun _ => ?_) (fun _ => ?_) | (with_reducible refine And.intro ?_ ?_; · omega) | simp -dsimp -implicitDefEqProofs (disch := omega) only [VCA, Nat.reduceEqDiff, Nat.reduceAdd, Nat.reduceLT, Nat.reduceLeDiff, ↓reduceIte, reduceCtorEq, exists_eq_right, exists_eq_left', g])
    all_goals first | (exfalso; omega) | exact Sub.refl _
def elemE (d : HDoc) (n : Int) : Int := if ¬ inD d n then 5 else if (nd d n).kind ≠ 2 then 7 else 0
def c178 : SFun := ⟨(.seq (.reg [⟨(some 4), (.mv (.c (.prim (Value.pointer none)))), none⟩, ⟨(some 5), (.mv (.c (.int .i64 (0)))), none⟩]) (.seq (.reg [⟨(some 7), (.mv (.t 0)), none⟩, ⟨(some 8), (.mv (.t 1)), none⟩, ⟨(some 9), (.call (.c (.fn 180 [] [])) [(.t 7), (.t 8)]), none⟩, ⟨(some 6), (.mv (.t 9)), none⟩]) (.seq (.block 0 (.seq (.reg [⟨(some 11), (.mv (.t 6)), none⟩, ⟨(some 12), (.isnil 1 false (.t 11)), none⟩, ⟨(some 10), (.mv (.t 12)), none⟩]) (.cond (.t 10) (.seq (.reg [⟨(some 4), (.mv (.c (.prim (Value.pointer none)))), none⟩, ⟨(some 5), (.mv (.c (.int .i64 (5)))), none⟩]) .ret) (.seq (.reg [⟨(some 14), (.mv (.t 6)), none⟩, ⟨(some 15), (.fldA 0 (.t 14)), none⟩, ⟨(some 16), (.fldA 0 (.t 15)), none⟩, ⟨(some 17), (.ld 1 false (.t 16)), none⟩, ⟨(some 18), (.bin .neq (.t 17) (.c (.int .i64 (2)))), none⟩, ⟨(some 13), (.mv (.t 18)), none⟩]) (.cond (.t 13) (.seq (.reg [⟨(some 4), (.mv (.c (.prim (Value.pointer none)))), none⟩, ⟨(some 5), (.mv (.c (.int .i64 (7)))), none⟩]) .ret) .skip))))) (.seq (.reg [⟨(some 19), (.mv (.t 6)), none⟩, ⟨(some 4), (.mv (.t 19)), none⟩, ⟨(some 5), (.mv (.c (.int .i64 (0)))), none⟩]) .ret)))), [(.tmp 4), (.tmp 5)]⟩
theorem hc178 : toSF Tryz.prog {} Tryz.f178 = some c178 := by kernel_rfl
theorem hn178 : (Tryz.f178.name == "runtime.NumGoroutine") = false := by kernel_rfl
theorem element_ok {h0 h : Heap} {re rN : Nat} {d : HDoc} {sl : Nat → AVal} {made : Int} (E : Ed h0 h re rN d sl made) (n : Int) : DCalls (Pg G) 178 [.vp re 0, aInt n] h fun r h' => r = .tup [if elemE d n = 0 then .ptr rN n.toNat 0 else .prim (.pointer none), aInt (elemE d n)] ∧ h' = h := by
  have gN := E.dw.nodes
  have hE := enode_ok (G := G) E n
  unfold nodeP at hE
  refine dcalls_of_vc Tryz.func178 hn178 hc178 (by rw [Tryz.ntmps178]; simp) (by rw [Tryz.ntmps178]; decide) ?_
  simp -dsimp -implicitDefEqProofs (disch := omega) only [VCA, Nat.reduceEqDiff, ↓reduceIte, reduceCtorEq, c178]
  by_cases hn : inD d n
  · rw [if_pos hn] at hE
    have hn' := hn.nat.1
    have gk := rowsA_get (sl := sl) hn'
    have rl := rowsA_len d sl
    have e0 : nth d.nodes n.toNat = nd d n := rfl
    unfold rowA at gk
    have eE : elemE d n = if (nd d n).kind ≠ 2 then 7 else 0 := by unfold elemE; rw [if_neg (by simpa using hn)]
    refine DCalls.of hE ?_
    rintro _ _ ⟨rfl, rfl⟩
    rw [eE]
    repeat' (first | ((with_reducible refine Br.dec (fun _ => ?_) (fun _ => ?_)) <;> try (exfalso; omega)) | ((with_reducible refine Br.eq (fun _ => ?_) (fun _ => ?_)) <;> try (exfalso; omega)) | ((with_reducible refine Br.ne (fun _ => ?_) (fun _ => ?_)) <;> try (exfalso; omega)) | ((with_reducible refine brNdec (fun _ => ?_) (fun _ => ?_)) <;> try (exfalso; omega)) | ((with_reducible refine brNeq (fun _ => ?_) (fun _ => ?_)) <;> try (exfalso; omega)) | with_reducible refine Br.intro (fun _ => ?_) (fun _ => ?_) | (with_reducible refine And.intro ?_ ?_; · omega) | simp -dsimp -implicitDefEqProofs (disch := omega) only [VCA, Nat.reduceEqDiff, Nat.reduceAdd, Nat.reduceLeDiff, ↓reduceIte, ne_eq, exists_eq_right_right, exists_eq_left', gN, gk, rl, e0])
    all_goals first | (refine ⟨Sub.refl _, ?_⟩; simp [*]; done) | trace_state
  · rw [if_neg hn] at hE
    have eE : elemE d n = 5 := by unfold elemE; rw [if_pos hn]
    refine DCalls.of hE ?_
    rintro _ _ ⟨rfl, rfl⟩
    rw [eE]
    repeat' (first | ((with_reducible refine Br.dec (fun _ => ?_) (fun _ => ?_)) <;> try (exfalso; omega)) | ((with_reducible refine Br.eq (fun _ => ?_) (fun _ => ?_)) <;> try (exfalso; omega)) | ((with_reducible refine Br.ne (fun _ => ?_) (fun _ => ?_)) <;> try (exfalso; omega)) | ((with_reducible refine brNdec (fun _ => ?_) (fun _ => ?_)) <;> try (exfalso; omega)) | ((with_reducible refine brNeq (fun _ => ?_) (fun _ => ?_)) <;> try (exfalso; omega)) | with_reducible refine Br.intro (fun _ => ?_) (fun _ => ?_) | (with_reducible refine And.intro ?_ ?_; · omega) | simp -dsimp -implicitDefEqProofs (disch := omega) only [VCA, Nat.reduceEqDiff, ↓reduceIte, exists_eq_right_right])
    all_goals first | exact Sub.refl _ | exact ⟨Sub.refl _, rfl⟩ | trace_state
end Go.Proofs.K
end
section
/- The editor: text, drop, attr. -/
set_option linter.unusedSimpArgs false
set_option linter.unusedVariables false
namespace Go.Proofs.K
open Go Go.Sim Go.Proofs
variable {G : Glob}
/-- what an edit leaves behind -/
def EdR (h0 h : Heap) (re : Nat) (d : HDoc) (e : HEdit) (made : Int) (r : AVal) (h' : Heap) : Prop :=
  r = aInt (editE d e) ∧ ((editE d e ≠ 0 ∧ h' = h) ∨ (editE d e = 0 ∧ ∃ rN' sl', Ed h0 h' re rN' (editD d e) sl' (if e.do' = 4 then (d.nodes.length : Int) else made)))
theorem EdR.bad {h0 h : Heap} {re : Nat} {d : HDoc} {e : HEdit} {made v : Int} (h1 : editE d e = v) (h2 : v ≠ 0) : EdR h0 h re d e made (aInt v) h := ⟨by rw [h1], .inl ⟨by rw [h1]; exact h2, rfl⟩⟩
theorem EdR.good {h0 h h' : Heap} {re rN' : Nat} {d : HDoc} {sl' : Nat → AVal} {e : HEdit} {made m : Int} (h1 : editE d e = 0) (hm : m = if e.do' = 4 then (d.nodes.length : Int) else made) (E : Ed h0 h' re rN' (editD d e) sl' m) : EdR h0 h re d e made (aInt 0) h' :=
  ⟨by rw [h1], .inr ⟨h1, rN', sl', hm ▸ E⟩⟩
section
variable {h0 h : Heap} {re rN : Nat} {d : HDoc} {sl : Nat → AVal} {made : Int}
theorem Ed.ne (E : Ed h0 h re rN d sl made) : re ≠ rN := fun e => E.dw.new.2 (by simp [e])
/-- a node's row changed -/
theorem Ed.put (E : Ed h0 h re rN d sl made) {h2 : Heap} {sl' : Nat → AVal} {i : Nat} (hi : i < d.nodes.length) {x' : HNode}
    (hs : ∀ j, j ≠ 2 * i → j ≠ 2 * i + 1 → sl' j = sl j)
    (hN : h2 rN = some ⟨.t 40, 6, (rowsA d sl).set i (rowA x' (sl' (2 * i)) (sl' (2 * i + 1)))⟩)
    (hk : ∀ r o, h r = some o → r ≠ rN → rootOf (sl (2 * i)) ≠ some r → rootOf (sl (2 * i + 1)) ≠ some r → h2 r = some o)
    (hA : OwnS h2 96 2 (x'.attrs.map eAttr) (sl' (2 * i))) (hK : OwnS h2 3 1 (x'.kids.map eInt) (sl' (2 * i + 1)))
    (hf : ∀ r, rootOf (sl' (2 * i)) = some r ∨ rootOf (sl' (2 * i + 1)) = some r → rootOf (sl (2 * i)) = some r ∨ rootOf (sl (2 * i + 1)) = some r ∨ h r = none)
    (hd : ∀ r, rootOf (sl' (2 * i)) = some r → rootOf (sl' (2 * i + 1)) ≠ some r)
    (hm : Mut (sl' (2 * i)) ∧ Mut (sl' (2 * i + 1))) : Ed h0 h2 re rN ⟨d.nodes.set i x', d.quirks⟩ sl' made := by
  have hl : (d.nodes.set i x').length = d.nodes.length := by simp
  refine ⟨E.dw.put hi hs hN hk hA hK hf hd, ?_, E.new, fun k hk' => ?_⟩
  · show h2 re = some ⟨_, 3, [[.osl rN 6 0 (d.nodes.set i x').length, _, _]]⟩
    rw [hl]
    refine hk re _ E.ed E.ne (fun h => (E.dw.fresh _ (by omega) re h).2.2 (by simp)) (fun h => (E.dw.fresh _ (by omega) re h).2.2 (by simp))
  · simp only [hl] at hk'
    by_cases e1 : k = 2 * i
    · rw [e1]; exact hm.1
    · by_cases e2 : k = 2 * i + 1
      · rw [e2]; exact hm.2
      · rw [hs k e1 e2]; exact E.live k hk'
/-- .. but for its lists -/
theorem Ed.cells (E : Ed h0 h re rN d sl made) {i : Nat} (hi : i < d.nodes.length) {x' : HNode} (hA : x'.attrs = (nth d.nodes i).attrs) (hK : x'.kids = (nth d.nodes i).kids) :
    Ed h0 (upd h rN (some ⟨.t 40, 6, (rowsA d sl).set i (rowA x' (sl (2 * i)) (sl (2 * i + 1)))⟩)) re rN ⟨d.nodes.set i x', d.quirks⟩ sl made := by
  obtain ⟨g1, g2⟩ := E.dw.own i hi
  have k1 : ∀ k, k < 2 * d.nodes.length → ∀ r, rootOf (sl k) = some r → r ≠ rN := fun k hk r hr => (E.dw.fresh k hk r hr).2.1
  refine E.put hi (fun _ _ _ => rfl) (upd_same _ _ _) (fun r o ho hne _ _ => by rw [upd_ne _ _ hne]; exact ho) ?_ ?_ (fun r hr => by rcases hr with h | h; exact .inl h; exact .inr (.inl h)) (fun r hr => E.dw.sep _ _ (by omega) (by omega) (by omega) r hr) ⟨E.live _ (by omega), E.live _ (by omega)⟩
  · rw [hA]; exact g1.keep fun r o hr ho => by rw [upd_ne _ _ (k1 _ (by omega) r hr)]; exact ho
  · rw [hK]; exact g2.keep fun r o hr ho => by rw [upd_ne _ _ (k1 _ (by omega) r hr)]; exact ho
end
def c147 : SFun := ⟨(.seq (.reg [⟨(some 3), (.boxF 42 12 (.t 1)), none⟩, ⟨(some 4), (.mv (.c (.int .i64 (0)))), none⟩]) (.seq (.reg [⟨(some 6), (.mv (.t 0)), none⟩, ⟨(some 7), (.fldA 1 (.t 3)), none⟩, ⟨(some 8), (.ld 1 false (.t 7)), none⟩, ⟨(some 9), (.call (.c (.fn 180 [] [])) [(.t 6), (.t 8)]), none⟩, ⟨(some 5), (.mv (.t 9)), none⟩]) (.seq (.block 0 (.seq (.reg [⟨(some 11), (.mv (.t 5)), none⟩, ⟨(some 12), (.isnil 1 false (.t 11)), none⟩, ⟨(some 10), (.mv (.t 12)), none⟩]) (.cond (.t 10) (.seq (.reg [⟨(some 4), (.mv (.c (.int .i64 (5)))), none⟩]) .ret) (.seq (.reg [⟨(some 14), (.mv (.t 5)), none⟩, ⟨(some 15), (.fldA 0 (.t 14)), none⟩, ⟨(some 16), (.fldA 0 (.t 15)), none⟩, ⟨(some 17), (.ld 1 false (.t 16)), none⟩, ⟨(some 18), (.bin .neq (.t 17) (.c (.int .i64 (3)))), none⟩, ⟨(some 19), (.mv (.t 18)), none⟩, ⟨(some 20), (.mv (.t 5)), (some (19, true))⟩, ⟨(some 21), (.fldA 0 (.t 20)), (some (19, true))⟩, ⟨(some 22), (.fldA 0 (.t 21)), (some (19, true))⟩, ⟨(some 23), (.ld 1 false (.t 22)), (some (19, true))⟩, ⟨(some 24), (.bin .neq (.t 23) (.c (.int .i64 (4)))), (some (19, true))⟩, ⟨(some 25), (.pick (.t 19) (.t 24) (.c (.bool false))), none⟩, ⟨(some 13), (.mv (.t 25)), none⟩]) (.cond (.t 13) (.seq (.reg [⟨(some 4), (.mv (.c (.int .i64 (7)))), none⟩]) .ret) (.seq (.reg [⟨(some 27), (.fldA 5 (.t 3)), none⟩, ⟨(some 28), (.ld 1 false (.t 27)), none⟩, ⟨(some 29), (.lenS (.t 28)), none⟩, ⟨(some 30), (.bin .gtr (.t 29) (.c (.int .i64 (400)))), none⟩, ⟨(some 26), (.mv (.t 30)), none⟩]) (.cond (.t 26) (.seq (.reg [⟨(some 4), (.mv (.c (.int .i64 (2)))), none⟩]) .ret) .skip))))))) (.seq (.reg [⟨(some 31), (.mv (.t 5)), none⟩, ⟨(some 32), (.fldA 5 (.t 3)), none⟩, ⟨(some 33), (.ld 1 false (.t 32)), none⟩, ⟨(some 34), (.fldA 0 (.t 31)), none⟩, ⟨(some 35), (.fldA 3 (.t 34)), none⟩, ⟨none, (.st 1 (.t 35) (.t 33)), none⟩]) (.seq (.reg [⟨(some 4), (.mv (.c (.int .i64 (0)))), none⟩]) .ret))))), [(.tmp 4)]⟩
theorem hc147 : toSF Tryz.prog {} Tryz.f147 = some c147 := by kernel_rfl
theorem hn147 : (Tryz.f147.name == "runtime.NumGoroutine") = false := by kernel_rfl
theorem etext_ok {h0 h : Heap} {re rN : Nat} {d : HDoc} {sl : Nat → AVal} {made : Int} (E : Ed h0 h re rN d sl made) (e : HEdit) (he : EditSm e) (hdo : e.do' = 3) : DCalls (Pg G) 147 [.vp re 0, .agg (eEdit e)] h (EdR h0 h re d e made) := by
  have gN := E.dw.nodes
  have hE := enode_ok (G := G) E e.at'
  have vl := he.value
  unfold nodeP at hE
  have eE : editE d e = if ¬ inD d e.at' then 5 else if (nd d e.at').kind ≠ 3 ∧ (nd d e.at').kind ≠ 4 then 7 else if 400 < e.value.length then 2 else 0 := by unfold editE; rw [if_neg (by omega), if_neg (by omega), if_pos hdo]
  have eD : editD d e = setN d e.at' { nd d e.at' with text := e.value } := by unfold editD; rw [if_neg (by omega), if_neg (by omega), if_pos hdo]
  have hm4 : made = if e.do' = 4 then (d.nodes.length : Int) else made := by rw [if_neg (by omega)]
  refine dcalls_of_vc Tryz.func147 hn147 hc147 (by rw [Tryz.ntmps147]; simp) (by rw [Tryz.ntmps147]; decide) ?_
  simp -dsimp -implicitDefEqProofs (disch := omega) only [VCA, Nat.reduceEqDiff, Nat.reduceAdd, Nat.reduceLeDiff, ↓reduceIte, reduceCtorEq, c147, eEdit]
  by_cases hn : inD d e.at'
  · rw [if_pos hn] at hE
    have hn' := hn.nat.1
    have gk := rowsA_get (sl := sl) hn'
    have rl := rowsA_len d sl
    have e0 : nth d.nodes e.at'.toNat = nd d e.at' := rfl
    rw [e0] at gk
    have Ec := E.cells hn' (x' := { nd d e.at' with text := e.value }) rfl rfl
    unfold rowA at gk
    rw [if_neg (by simpa using hn)] at eE
    refine DCalls.of hE ?_
    rintro _ _ ⟨rfl, rfl⟩
    by_cases hk : (nd d e.at').kind ≠ 3 ∧ (nd d e.at').kind ≠ 4
    · rw [if_pos hk] at eE
      repeat' (first | ((with_reducible refine Br.dec (fun _ => ?_) (fun _ => ?_)) <;> try (exfalso; omega)) | ((with_reducible refine Br.eq (fun _ => ?_) (fun _ => ?_)) <;> try (exfalso; omega)) | ((with_reducible refine Br.ne (fun _ => ?_) (fun _ => ?_)) <;> try (exfalso; omega)) | ((with_reducible refine brNdec (fun _ => ?_) (fun _ => ?_)) <;> try (exfalso; omega)) | ((with_reducible refine brNeq (fun _ => ?_) (fun _ => ?_)) <;> try (exfalso; omega)) | with_reducible refine Br.intro (fun _ => ?_) (fun _ => ?_) | (with_reducible refine And.intro ?_ ?_; · omega) | simp -dsimp -implicitDefEqProofs (disch := omega) only [↓vcOps_sp 19, VCA, Nat.reduceEqDiff, Nat.reduceAdd, Nat.reduceLeDiff, ↓reduceIte, exists_eq_left', gN, gk, rl])
      all_goals first | (exfalso; omega) | exact ⟨_, Sub.refl _, EdR.bad eE (by decide)⟩
    · rw [if_neg hk] at eE
      by_cases hv : 400 < e.value.length
      · rw [if_pos hv] at eE
        repeat' (first | ((with_reducible refine Br.dec (fun _ => ?_) (fun _ => ?_)) <;> try (exfalso; omega)) | ((with_reducible refine Br.eq (fun _ => ?_) (fun _ => ?_)) <;> try (exfalso; omega)) | ((with_reducible refine Br.ne (fun _ => ?_) (fun _ => ?_)) <;> try (exfalso; omega)) | ((with_reducible refine brNdec (fun _ => ?_) (fun _ => ?_)) <;> try (exfalso; omega)) | ((with_reducible refine brNeq (fun _ => ?_) (fun _ => ?_)) <;> try (exfalso; omega)) | with_reducible refine Br.intro (fun _ => ?_) (fun _ => ?_) | (with_reducible refine And.intro ?_ ?_; · omega) | simp -dsimp -implicitDefEqProofs (disch := omega) only [↓vcOps_sp 19, VCA, Nat.reduceEqDiff, Nat.reduceAdd, Nat.reduceLeDiff, ↓reduceIte, exists_eq_left', gN, gk, rl])
        all_goals first | (exfalso; omega) | exact ⟨_, Sub.refl _, EdR.bad eE (by decide)⟩
      · rw [if_neg hv] at eE
        repeat' (first | ((with_reducible refine Br.dec (fun _ => ?_) (fun _ => ?_)) <;> try (exfalso; omega)) | ((with_reducible refine Br.eq (fun _ => ?_) (fun _ => ?_)) <;> try (exfalso; omega)) | ((with_reducible refine Br.ne (fun _ => ?_) (fun _ => ?_)) <;> try (exfalso; omega)) | ((with_reducible refine brNdec (fun _ => ?_) (fun _ => ?_)) <;> try (exfalso; omega)) | ((with_reducible refine brNeq (fun _ => ?_) (fun _ => ?_)) <;> try (exfalso; omega)) | with_reducible refine Br.intro (fun _ => ?_) (fun _ => ?_) | (with_reducible refine And.intro ?_ ?_; · omega) | simp -dsimp -implicitDefEqProofs (disch := omega) only [↓vcOps_sp 19, VCA, Nat.reduceEqDiff, Nat.reduceAdd, Nat.reduceLeDiff, ↓reduceIte, setAt, exists_eq_left', gN, gk, rl])
        all_goals first | (exfalso; omega) | exact ⟨_, Sub.refl _, EdR.good eE hm4 (by rw [eD]; exact Ec)⟩
  · rw [if_neg hn] at hE
    rw [if_pos hn] at eE
    refine DCalls.of hE ?_
    rintro _ _ ⟨rfl, rfl⟩
    repeat' (first | ((with_reducible refine Br.dec (fun _ => ?_) (fun _ => ?_)) <;> try (exfalso; omega)) | ((with_reducible refine Br.eq (fun _ => ?_) (fun _ => ?_)) <;> try (exfalso; omega)) | ((with_reducible refine Br.ne (fun _ => ?_) (fun _ => ?_)) <;> try (exfalso; omega)) | ((with_reducible refine brNdec (fun _ => ?_) (fun _ => ?_)) <;> try (exfalso; omega)) | ((with_reducible refine brNeq (fun _ => ?_) (fun _ => ?_)) <;> try (exfalso; omega)) | with_reducible refine Br.intro (fun _ => ?_) (fun _ => ?_) | (with_reducible refine And.intro ?_ ?_; · omega) | simp -dsimp -implicitDefEqProofs (disch := omega) only [VCA, ↓reduceIte])
    all_goals exact ⟨_, Sub.refl _, EdR.bad eE (by decide)⟩
end Go.Proofs.K
end
section
/- The editor: drop, attr. -/
set_option linter.unusedSimpArgs false
set_option linter.unusedVariables false
namespace Go.Proofs.K
open Go Go.Sim Go.Proofs
variable {G : Glob}
def c179 : SFun := ⟨(.seq (.reg [⟨(some 6), (.mv (.c .emp)), none⟩]) (.seq (.reg [⟨(some 8), (.mv (.t 0)), none⟩, ⟨(some 9), (.mv (.t 1)), none⟩, ⟨(some 10), (.mv (.t 2)), none⟩, ⟨(some 11), (.mv (.t 0)), none⟩, ⟨(some 12), (.len (.t 11)), none⟩, ⟨(some 13), (.slM 2 (.t 8) (some (.t 9)) (some (.t 10)) (some (.t 12))), none⟩]) (.seq (.seq (.reg [⟨(some 14), (.mv (.t 1)), none⟩, ⟨(some 15), (.mv (.t 2)), none⟩, ⟨(some 16), (.bin .eql (.t 14) (.t 15)), none⟩]) (.cond (.t 16) (.seq (.reg [⟨(some 17), (.mv (.t 0)), none⟩, ⟨(some 6), (.mv (.t 17)), none⟩]) .ret) .skip)) (.seq (.reg [⟨(some 18), (.mv (.t 0)), none⟩, ⟨(some 19), (.len (.t 18)), none⟩, ⟨(some 7), (.mv (.t 19)), none⟩]) (.seq (.dreg [(⟨(some 20), (.mv (.t 0)), none⟩, none), (⟨(some 21), (.mv (.t 1)), none⟩, none), (⟨(some 22), (.slA 2 (.t 20) none (some (.t 21))), none⟩, none), (⟨(some 23), (.mv (.t 0)), none⟩, none), (⟨(some 24), (.mv (.t 2)), none⟩, none), (⟨(some 25), (.slA 2 (.t 23) (some (.t 24)) none), none⟩, none), (⟨(some 26), (.appIn 96 2 (.t 22) (.t 25)), none⟩, (some [])), (⟨(some 0), (.mv (.t 26)), none⟩, (some []))]) (.seq (.reg [⟨(some 27), (.mv (.t 0)), none⟩, ⟨(some 28), (.mv (.t 0)), none⟩, ⟨(some 29), (.len (.t 28)), none⟩, ⟨(some 30), (.mv (.t 7)), none⟩, ⟨(some 31), (.slX 2 (.t 27) (some (.t 29)) (some (.t 30))), none⟩, ⟨none, (.clear 2 [(.str []), (.str [])] (.t 31)), none⟩]) (.seq (.reg [⟨(some 32), (.mv (.t 0)), none⟩, ⟨(some 6), (.mv (.t 32)), none⟩]) .ret))))))), [(.tmp 6)]⟩
theorem hc179 : toSF Tryz.prog {how := [(26, 3), (31, 4)]} Tryz.f179 = some c179 := by kernel_rfl
theorem hn179 : (Tryz.f179.name == "runtime.NumGoroutine") = false := by kernel_rfl
theorem deleteA_ok {h : Heap} {r n i j : Nat} {es : List (List AVal)} (hr : h r = some ⟨.t 96, 2, es⟩) (hn : n ≤ es.length) (hij : i < j) (hj : j ≤ n) (hl : n ≤ 1073741824) :
    DCalls (Pg G) 179 [.osl r 2 0 n, aInt i, aInt j] h fun a h' => a = .osl r 2 0 (n - (j - i)) ∧ ∃ es', h' = upd h r (some ⟨.t 96, 2, es'⟩) ∧ n - (j - i) ≤ es'.length ∧ es'.take (n - (j - i)) = es.take i ++ (es.take n).drop j := by
  refine dcalls_of_vc Tryz.func179 hn179 hc179 (by rw [Tryz.ntmps179]; simp) (by rw [Tryz.ntmps179]; decide) ?_
  simp -dsimp -implicitDefEqProofs (disch := omega) only [VCA, Nat.reduceEqDiff, ↓reduceIte, reduceCtorEq, c179]
  refine ⟨by omega, Br.eq (fun h1 => by omega) (fun h1 => ?_)⟩
  simp -dsimp -implicitDefEqProofs (disch := omega) only [VCA, Nat.reduceEqDiff, ↓reduceIte, reduceCtorEq, rsOf, rootsOf, SOp.rd, SI.rd, SX.rd, exists_eq_left', rootL, hr]
  have hL : (List.take (n - j) (List.drop j es)).length = n - j := by simp; omega
  have hT : (List.take i es).length = i := by simp; omega
  rw [hL]
  have e1 : i + (n - j) = n - (j - i) := by omega
  refine ⟨by omega, by omega, by omega, by omega, by omega, by omega, by simp; omega, by simp; omega, _, Sub.refl _, by rw [e1], _, rfl, ?_, ?_⟩
  · simp; omega
  · rw [← e1]
    have e2 : (List.take i es ++ List.take (n - j) (List.drop j es)).length = i + (n - j) := by rw [List.length_append, hT, hL]
    rw [List.take_append_of_le_length (by simp; omega), List.take_append_of_le_length (by rw [List.length_take, List.length_append, e2]; omega), List.take_take, Nat.min_eq_left (by omega), List.take_append_of_le_length (by omega), List.take_of_length_le (by omega), List.drop_take]
def c116 : SFun := ⟨(.seq (.reg [⟨(some 6), (.mv (.c .emp)), none⟩]) (.seq (.reg [⟨(some 8), (.mv (.t 0)), none⟩, ⟨(some 9), (.mv (.t 1)), none⟩, ⟨(some 10), (.mv (.t 2)), none⟩, ⟨(some 11), (.mv (.t 0)), none⟩, ⟨(some 12), (.len (.t 11)), none⟩, ⟨(some 13), (.slM 1 (.t 8) (some (.t 9)) (some (.t 10)) (some (.t 12))), none⟩]) (.seq (.seq (.reg [⟨(some 14), (.mv (.t 1)), none⟩, ⟨(some 15), (.mv (.t 2)), none⟩, ⟨(some 16), (.bin .eql (.t 14) (.t 15)), none⟩]) (.cond (.t 16) (.seq (.reg [⟨(some 17), (.mv (.t 0)), none⟩, ⟨(some 6), (.mv (.t 17)), none⟩]) .ret) .skip)) (.seq (.reg [⟨(some 18), (.mv (.t 0)), none⟩, ⟨(some 19), (.len (.t 18)), none⟩, ⟨(some 7), (.mv (.t 19)), none⟩]) (.seq (.dreg [(⟨(some 20), (.mv (.t 0)), none⟩, none), (⟨(some 21), (.mv (.t 1)), none⟩, none), (⟨(some 22), (.slA 1 (.t 20) none (some (.t 21))), none⟩, none), (⟨(some 23), (.mv (.t 0)), none⟩, none), (⟨(some 24), (.mv (.t 2)), none⟩, none), (⟨(some 25), (.slA 1 (.t 23) (some (.t 24)) none), none⟩, none), (⟨(some 26), (.appIn 3 1 (.t 22) (.t 25)), none⟩, (some [])), (⟨(some 0), (.mv (.t 26)), none⟩, (some []))]) (.seq (.reg [⟨(some 27), (.mv (.t 0)), none⟩, ⟨(some 28), (.mv (.t 0)), none⟩, ⟨(some 29), (.len (.t 28)), none⟩, ⟨(some 30), (.mv (.t 7)), none⟩, ⟨(some 31), (.slX 1 (.t 27) (some (.t 29)) (some (.t 30))), none⟩, ⟨none, (.clear 1 [(.int .i64 (0))] (.t 31)), none⟩]) (.seq (.reg [⟨(some 32), (.mv (.t 0)), none⟩, ⟨(some 6), (.mv (.t 32)), none⟩]) .ret))))))), [(.tmp 6)]⟩
theorem hc116 : toSF Tryz.prog {how := [(26, 3), (31, 4)]} Tryz.f116 = some c116 := by kernel_rfl
theorem hn116 : (Tryz.f116.name == "runtime.NumGoroutine") = false := by kernel_rfl
theorem deleteZ_ok {h : Heap} {r n i j : Nat} {es : List (List AVal)} (hr : h r = some ⟨.t 3, 1, es⟩) (hn : n ≤ es.length) (hij : i < j) (hj : j ≤ n) (hl : n ≤ 1073741824) :
    DCalls (Pg G) 116 [.osl r 1 0 n, aInt i, aInt j] h fun a h' => a = .osl r 1 0 (n - (j - i)) ∧ ∃ es', h' = upd h r (some ⟨.t 3, 1, es'⟩) ∧ n - (j - i) ≤ es'.length ∧ es'.take (n - (j - i)) = es.take i ++ (es.take n).drop j := by
  refine dcalls_of_vc Tryz.func116 hn116 hc116 (by rw [Tryz.ntmps116]; simp) (by rw [Tryz.ntmps116]; decide) ?_
  simp -dsimp -implicitDefEqProofs (disch := omega) only [VCA, Nat.reduceEqDiff, ↓reduceIte, reduceCtorEq, c116]
  refine ⟨by omega, Br.eq (fun h1 => by omega) (fun h1 => ?_)⟩
  simp -dsimp -implicitDefEqProofs (disch := omega) only [VCA, Nat.reduceEqDiff, ↓reduceIte, reduceCtorEq, rsOf, rootsOf, SOp.rd, SI.rd, SX.rd, exists_eq_left', rootL, hr]
  have hL : (List.take (n - j) (List.drop j es)).length = n - j := by simp; omega
  have hT : (List.take i es).length = i := by simp; omega
  rw [hL]
  have e1 : i + (n - j) = n - (j - i) := by omega
  refine ⟨by omega, by omega, by omega, by omega, by omega, by omega, by simp; omega, by simp; omega, _, Sub.refl _, by rw [e1], _, rfl, ?_, ?_⟩
  · simp; omega
  · rw [← e1]
    have e2 : (List.take i es ++ List.take (n - j) (List.drop j es)).length = i + (n - j) := by rw [List.length_append, hT, hL]
    rw [List.take_append_of_le_length (by simp; omega), List.take_append_of_le_length (by rw [List.length_take, List.length_append, e2]; omega), List.take_take, Nat.min_eq_left (by omega), List.take_append_of_le_length (by omega), List.take_of_length_le (by omega), List.drop_take]
section
variable {h0 h : Heap} {re rN : Nat} {d : HDoc} {sl : Nat → AVal} {made : Int}
theorem Ed.root_ne (E : Ed h0 h re rN d sl made) {k : Nat} (hk : k < 2 * d.nodes.length) {r : Nat} (hr : rootOf (sl k) = some r) : r ≠ rN ∧ r ≠ re := ⟨(E.dw.fresh k hk r hr).2.1, fun e => (E.dw.fresh k hk r hr).2.2 (by simp [e])⟩
/-- attributes changed -/
theorem Ed.slotA (E : Ed h0 h re rN d sl made) {i : Nat} (hi : i < d.nodes.length) {h1 : Heap} {a' : AVal} {l' : List HAttr} (kp : ∀ r o, h r = some o → rootOf (sl (2 * i)) ≠ some r → h1 r = some o)
    (O : OwnS h1 96 2 (l'.map eAttr) a') (M : Mut a') (fr : ∀ r, rootOf a' = some r → rootOf (sl (2 * i)) = some r ∨ h r = none) :
    Ed h0 (upd h1 rN (some ⟨.t 40, 6, (rowsA d sl).set i (rowA { nth d.nodes i with attrs := l' } a' (sl (2 * i + 1)))⟩)) re rN ⟨d.nodes.set i { nth d.nodes i with attrs := l' }, d.quirks⟩ (upd sl (2 * i) a') made := by
  have e1 : upd sl (2 * i) a' (2 * i) = a' := upd_same _ _ _
  have e2 : upd sl (2 * i) a' (2 * i + 1) = sl (2 * i + 1) := upd_ne _ _ (by omega)
  obtain ⟨g1, g2⟩ := E.dw.own i hi
  have fN : ∀ r, rootOf a' = some r → r ≠ rN := fun r hr e => by
    rcases fr r hr with h | h
    · exact (E.root_ne (by omega) h).1 e
    · rw [e, E.dw.nodes] at h; cases h
  refine E.put hi (fun j h1 _ => upd_ne _ _ h1) (by rw [e1, e2, upd_same]) (fun r o ho hne h2 _ => by rw [upd_ne _ _ hne]; exact kp r o ho h2) ?_ ?_ ?_ ?_ ?_
  · rw [e1]; exact O.keep fun r o hr ho => by rw [upd_ne _ _ (fN r hr)]; exact ho
  · rw [e2]; exact g2.keep fun r o hr ho => by
      rw [upd_ne _ _ (E.root_ne (by omega) hr).1]
      exact kp r o ho fun h => E.dw.sep _ _ (by omega) (by omega) (by omega) r h hr
  · rw [e1, e2]
    rintro r (hr | hr)
    · rcases fr r hr with h | h
      · exact .inl h
      · exact .inr (.inr h)
    · exact .inr (.inl hr)
  · rw [e1, e2]
    intro r hr hr2
    rcases fr r hr with h | h
    · exact E.dw.sep _ _ (by omega) (by omega) (by omega) r h hr2
    · obtain ⟨o, ho⟩ := g2.root hr2; rw [h] at ho; cases ho
  · rw [e1, e2]; exact ⟨M, E.live _ (by omega)⟩
/-- kids changed -/
theorem Ed.slotK (E : Ed h0 h re rN d sl made) {i : Nat} (hi : i < d.nodes.length) {h1 : Heap} {a' : AVal} {l' : List Int} (kp : ∀ r o, h r = some o → rootOf (sl (2 * i + 1)) ≠ some r → h1 r = some o)
    (O : OwnS h1 3 1 (l'.map eInt) a') (M : Mut a') (fr : ∀ r, rootOf a' = some r → rootOf (sl (2 * i + 1)) = some r ∨ h r = none) :
    Ed h0 (upd h1 rN (some ⟨.t 40, 6, (rowsA d sl).set i (rowA { nth d.nodes i with kids := l' } (sl (2 * i)) a')⟩)) re rN ⟨d.nodes.set i { nth d.nodes i with kids := l' }, d.quirks⟩ (upd sl (2 * i + 1) a') made := by
  have e1 : upd sl (2 * i + 1) a' (2 * i + 1) = a' := upd_same _ _ _
  have e2 : upd sl (2 * i + 1) a' (2 * i) = sl (2 * i) := upd_ne _ _ (by omega)
  obtain ⟨g1, g2⟩ := E.dw.own i hi
  have fN : ∀ r, rootOf a' = some r → r ≠ rN := fun r hr e => by
    rcases fr r hr with h | h
    · exact (E.root_ne (by omega) h).1 e
    · rw [e, E.dw.nodes] at h; cases h
  refine E.put hi (fun j _ h2 => upd_ne _ _ h2) (by rw [e1, e2, upd_same]) (fun r o ho hne _ h2 => by rw [upd_ne _ _ hne]; exact kp r o ho h2) ?_ ?_ ?_ ?_ ?_
  · rw [e2]; exact g1.keep fun r o hr ho => by
      rw [upd_ne _ _ (E.root_ne (by omega) hr).1]
      exact kp r o ho fun h => E.dw.sep _ _ (by omega) (by omega) (by omega) r h hr
  · rw [e1]; exact O.keep fun r o hr ho => by rw [upd_ne _ _ (fN r hr)]; exact ho
  · rw [e1, e2]
    rintro r (hr | hr)
    · exact .inl hr
    · rcases fr r hr with h | h
      · exact .inr (.inl h)
      · exact .inr (.inr h)
  · rw [e1, e2]
    intro r hr hr2
    rcases fr r hr2 with h | h
    · exact E.dw.sep _ _ (by omega) (by omega) (by omega) r hr h
    · obtain ⟨o, ho⟩ := g1.root hr; rw [h] at ho; cases ho
  · rw [e1, e2]; exact ⟨E.live _ (by omega), M⟩
/-- attributes changed in place -/
theorem Ed.inA (E : Ed h0 h re rN d sl made) {i : Nat} (hi : i < d.nodes.length) {h1 : Heap} {l' : List HAttr} (kp : ∀ r o, h r = some o → rootOf (sl (2 * i)) ≠ some r → h1 r = some o)
    (O : OwnS h1 96 2 (l'.map eAttr) (sl (2 * i))) : Ed h0 h1 re rN ⟨d.nodes.set i { nth d.nodes i with attrs := l' }, d.quirks⟩ sl made := by
  have g := E.slotA hi kp O (E.live _ (by omega)) (fun r hr => .inl hr)
  have e : upd sl (2 * i) (sl (2 * i)) = sl := by
    funext j; unfold upd; split
    · rename_i h; rw [h]
    · rfl
  have hN : h1 rN = some ⟨.t 40, 6, rowsA d sl⟩ := kp rN _ E.dw.nodes (fun h => (E.root_ne (by omega) h).1 rfl)
  have rs : (rowsA d sl).set i (rowA { nth d.nodes i with attrs := l' } (sl (2 * i)) (sl (2 * i + 1))) = rowsA d sl := by
    apply List.ext_getElem?
    intro j
    rw [List.getElem?_set]
    split
    · rename_i h; subst h
      rw [if_pos (by rw [rowsA_len]; exact hi)]
      unfold rowsA
      rw [List.getElem?_map, List.getElem?_range hi]; rfl
    · rfl
  rw [e, rs, upd_id hN] at g
  exact g
end
/-- reading an attribute's place in a list of one's own -/
theorem find_own {h : Heap} {l : List HAttr} {a : AVal} (O : OwnS h 96 2 (l.map eAttr) a) (name : List UInt8) (hl : l.length ≤ 1073741824) : DCalls (Pg G) 160 [a, .str name] h fun r h' => r = aInt (attrAt l name) ∧ h' = h :=
  DCalls.bor (find_ok (G := G) l name hl) (.int _ _) (.cons O.vw (.cons (.refl _) .nil))
def c146 : SFun := ⟨(.seq (.reg [⟨(some 3), (.boxF 42 12 (.t 1)), none⟩, ⟨(some 4), (.mv (.c (.int .i64 (0)))), none⟩]) (.seq (.reg [⟨(some 9), (.mv (.t 0)), none⟩, ⟨(some 10), (.fldA 1 (.t 3)), none⟩, ⟨(some 11), (.ld 1 false (.t 10)), none⟩, ⟨(some 12), (.call (.c (.fn 178 [] [])) [(.t 9), (.t 11)]), none⟩, ⟨(some 8), (.mv (.t 12)), none⟩, ⟨(some 13), (.ext (.t 8) 0), none⟩, ⟨(some 14), (.ext (.t 8) 1), none⟩, ⟨(some 5), (.mv (.t 13)), none⟩, ⟨(some 6), (.mv (.t 14)), none⟩]) (.seq (.seq (.reg [⟨(some 15), (.mv (.t 6)), none⟩, ⟨(some 16), (.bin .neq (.t 15) (.c (.int .i64 (0)))), none⟩]) (.cond (.t 16) (.seq (.reg [⟨(some 17), (.mv (.t 6)), none⟩, ⟨(some 4), (.mv (.t 17)), none⟩]) .ret) .skip)) (.seq (.dreg [(⟨(some 18), (.mv (.t 5)), none⟩, none), (⟨(some 19), (.fldA 0 (.t 18)), none⟩, none), (⟨(some 20), (.fldA 2 (.t 19)), none⟩, none), (⟨(some 21), (.ld 1 false (.t 20)), none⟩, none), (⟨(some 22), (.fldA 4 (.t 3)), none⟩, none), (⟨(some 23), (.ld 1 false (.t 22)), none⟩, none), (⟨(some 24), (.call (.c (.fn 160 [] [])) [(.t 21), (.t 23)]), none⟩, (some [21, 23])), (⟨(some 7), (.mv (.t 24)), none⟩, none)]) (.seq (.seq (.reg [⟨(some 25), (.mv (.t 7)), none⟩, ⟨(some 26), (.bin .lss (.t 25) (.c (.int .i64 (0)))), none⟩]) (.cond (.t 26) (.seq (.reg [⟨(some 4), (.mv (.c (.int .i64 (5)))), none⟩]) .ret) .skip)) (.seq (.reg [⟨(some 27), (.mv (.t 5)), none⟩, ⟨(some 28), (.mv (.t 5)), none⟩, ⟨(some 29), (.fldA 0 (.t 28)), none⟩, ⟨(some 30), (.fldA 2 (.t 29)), none⟩, ⟨(some 31), (.ld 1 false (.t 30)), none⟩, ⟨(some 32), (.mv (.t 7)), none⟩, ⟨(some 33), (.mv (.t 7)), none⟩, ⟨(some 34), (.bin .add (.t 33) (.c (.int .i64 (1)))), none⟩, ⟨(some 35), (.call (.c (.fn 179 [] [])) [(.t 31), (.t 32), (.t 34)]), none⟩, ⟨(some 36), (.fldA 0 (.t 27)), none⟩, ⟨(some 37), (.fldA 2 (.t 36)), none⟩, ⟨none, (.st 1 (.t 37) (.t 35)), none⟩]) (.seq (.reg [⟨(some 4), (.mv (.c (.int .i64 (0)))), none⟩]) .ret))))))), [(.tmp 4)]⟩
theorem hc146 : toSF Tryz.prog {} Tryz.f146 = some c146 := by kernel_rfl
theorem hn146 : (Tryz.f146.name == "runtime.NumGoroutine") = false := by kernel_rfl
theorem edrop_ok {h0 h : Heap} {re rN : Nat} {d : HDoc} {sl : Nat → AVal} {made : Int} (E : Ed h0 h re rN d sl made) (sm : DocSm d) (e : HEdit) (he : EditSm e) (hdo : e.do' = 2) : DCalls (Pg G) 146 [.vp re 0, .agg (eEdit e)] h (EdR h0 h re d e made) := by
  have gN := E.dw.nodes
  have hE := element_ok (G := G) E e.at'
  have eE : editE d e = if ¬ inD d e.at' then 5 else if (nd d e.at').kind ≠ 2 then 7 else if ¬ 0 ≤ attrAt (nd d e.at').attrs e.name then 5 else 0 := by unfold editE; rw [if_neg (by omega), if_pos hdo]
  have eD : editD d e = setN d e.at' { nd d e.at' with attrs := dropAttr (nd d e.at').attrs e.name } := by unfold editD; rw [if_neg (by omega), if_pos hdo]
  have hm4 : made = if e.do' = 4 then (d.nodes.length : Int) else made := by rw [if_neg (by omega)]
  refine dcalls_of_vc Tryz.func146 hn146 hc146 (by rw [Tryz.ntmps146]; simp) (by rw [Tryz.ntmps146]; decide) ?_
  simp -dsimp -implicitDefEqProofs (disch := omega) only [VCA, Nat.reduceEqDiff, Nat.reduceAdd, Nat.reduceLeDiff, ↓reduceIte, reduceCtorEq, c146, eEdit]
  by_cases hz : elemE d e.at' = 0
  · have hn : inD d e.at' := by
      unfold elemE at hz; split at hz
      · omega
      · rename_i h; exact Classical.not_not.1 h
    have hk : (nd d e.at').kind = 2 := by
      unfold elemE at hz; rw [if_neg (by simpa using hn)] at hz; split at hz
      · omega
      · rename_i h; exact Classical.not_not.1 h
    rw [hz, if_pos rfl] at hE
    rw [if_neg (by simpa using hn), if_neg (by simpa using hk)] at eE
    have hn' := hn.nat.1
    have gk := rowsA_get (sl := sl) hn'
    have rl := rowsA_len d sl
    have e0 : nth d.nodes e.at'.toNat = nd d e.at' := rfl
    rw [e0] at gk
    obtain ⟨oA, oK⟩ := E.dw.own _ hn'
    rw [e0] at oA
    have al := (sm.nd e.at').attrs
    have hF := find_own (G := G) oA e.name al
    have lv := E.live (2 * e.at'.toNat) (by omega)
    unfold rowA at gk
    by_cases hi0 : 0 ≤ attrAt (nd d e.at').attrs e.name
    · obtain ⟨g1, g2, g3⟩ := attrAt_spec _ _ hi0
      rw [if_neg (by simpa using hi0)] at eE
      have hda : dropAttr (nd d e.at').attrs e.name = (nd d e.at').attrs.take (attrAt (nd d e.at').attrs e.name).toNat ++ (nd d e.at').attrs.drop ((attrAt (nd d e.at').attrs e.name).toNat + 1) := rfl
      rw [← g3] at hF
      rcases oA.live lv with ⟨q, _⟩ | ⟨r, es, ha, hr, hl, ht⟩
      · have : (nd d e.at').attrs = [] := by simpa using q
        rw [this] at g1; simp at g1
      · rw [List.length_map] at ha hl ht
        have hD := deleteA_ok (G := G) (i := (attrAt (nd d e.at').attrs e.name).toNat) (j := (attrAt (nd d e.at').attrs e.name).toNat + 1) hr hl (by omega) (by omega) (by omega)
        have SA := fun h1 a' => E.slotA hn' (h1 := h1) (a' := a') (l' := dropAttr (nd d e.at').attrs e.name)
        rw [ha] at gk hF SA
        generalize (attrAt (nd d e.at').attrs e.name).toNat = i at *
        have hnr : ¬ rN = r := fun h => (E.root_ne (k := 2 * e.at'.toNat) (by omega) (by rw [ha]; rfl)).1 h.symm
        refine DCalls.of hE ?_
        rintro _ hh ⟨rfl, rfl⟩
        repeat' (first | ((with_reducible refine Br.dec (fun _ => ?_) (fun _ => ?_)) <;> try (exfalso; omega)) | ((with_reducible refine Br.eq (fun _ => ?_) (fun _ => ?_)) <;> try (exfalso; omega)) | ((with_reducible refine Br.ne (fun _ => ?_) (fun _ => ?_)) <;> try (exfalso; omega)) | ((with_reducible refine brNdec (fun _ => ?_) (fun _ => ?_)) <;> try (exfalso; omega)) | ((with_reducible refine brNeq (fun _ => ?_) (fun _ => ?_)) <;> try (exfalso; omega)) | with_reducible refine Br.intro (fun _ => ?_) (fun _ => ?_) | ((refine DCalls.of hF ?_; rintro _ hh ⟨rfl, rfl⟩)) | (with_reducible refine And.intro ?_ ?_; · omega) | simp -dsimp -implicitDefEqProofs (disch := omega) only [VCA, Nat.reduceEqDiff, Nat.reduceBEq, Nat.reduceAdd, Nat.reduceLT, Nat.reduceLeDiff, ↓reduceIte, rsOf, rootsOf, SOp.rd, SI.rd, SX.rd, rdL, implies_true, exists_eq_left', rootL, gN, gk, rl])
        all_goals try (exfalso; omega)
        refine DCalls.of hD ?_
        rintro _ _ ⟨rfl, es', rfl, hl2, ht2⟩
        repeat' (first | ((with_reducible refine Br.dec (fun _ => ?_) (fun _ => ?_)) <;> try (exfalso; omega)) | ((with_reducible refine Br.eq (fun _ => ?_) (fun _ => ?_)) <;> try (exfalso; omega)) | ((with_reducible refine Br.ne (fun _ => ?_) (fun _ => ?_)) <;> try (exfalso; omega)) | ((with_reducible refine brNdec (fun _ => ?_) (fun _ => ?_)) <;> try (exfalso; omega)) | ((with_reducible refine brNeq (fun _ => ?_) (fun _ => ?_)) <;> try (exfalso; omega)) | with_reducible refine Br.intro (fun _ => ?_) (fun _ => ?_) | (with_reducible refine And.intro ?_ ?_; · omega) | simp -dsimp -implicitDefEqProofs (disch := omega) only [VCA, Nat.reduceEqDiff, Nat.reduceAdd, Nat.reduceLeDiff, ↓reduceIte, setAt, exists_eq_left', gN, gk, rl, hnr])
        have ln : (dropAttr (nd d e.at').attrs e.name).length = (nd d e.at').attrs.length - (i + 1 - i) := by
          rw [hda, List.length_append, List.length_take, List.length_drop]; omega
        have hO : OwnS (upd hh r (some ⟨.t 96, 2, es'⟩)) 96 2 ((dropAttr (nd d e.at').attrs e.name).map eAttr) (.osl r 2 0 ((nd d e.at').attrs.length - (i + 1 - i))) :=
          .inr (.inr ⟨r, es', by rw [List.length_map, ln], upd_same _ _ _, by rw [List.length_map, ln]; exact hl2, by
            rw [List.length_map, ln, ht2, hda, List.map_append, List.map_take, List.map_drop, ← ht, List.take_take, Nat.min_eq_left (by omega)]⟩)
        refine ⟨_, Sub.refl _, EdR.good eE hm4 (by rw [eD]; exact SA _ _ (fun t o ho hne => by rw [upd_ne _ _ (fun e => hne (by rw [e]; rfl))]; exact ho) hO (fun es e => by cases e) (fun t ht => .inl ht))⟩
    · rw [if_pos hi0] at eE
      refine DCalls.of hE ?_
      rintro _ hh ⟨rfl, rfl⟩
      repeat' (first | ((with_reducible refine Br.dec (fun _ => ?_) (fun _ => ?_)) <;> try (exfalso; omega)) | ((with_reducible refine Br.eq (fun _ => ?_) (fun _ => ?_)) <;> try (exfalso; omega)) | ((with_reducible refine Br.ne (fun _ => ?_) (fun _ => ?_)) <;> try (exfalso; omega)) | ((with_reducible refine brNdec (fun _ => ?_) (fun _ => ?_)) <;> try (exfalso; omega)) | ((with_reducible refine brNeq (fun _ => ?_) (fun _ => ?_)) <;> try (exfalso; omega)) | with_reducible refine Br.intro (fun _ => ?_) (fun _ => ?_) | ((refine DCalls.of hF ?_; rintro _ hh ⟨rfl, rfl⟩)) | (with_reducible refine And.intro ?_ ?_; · omega) | simp -dsimp -implicitDefEqProofs (disch := omega) only [VCA, Nat.reduceEqDiff, Nat.reduceBEq, Nat.reduceAdd, Nat.reduceLT, Nat.reduceLeDiff, ↓reduceIte, rsOf, rootsOf, SOp.rd, SI.rd, SX.rd, rdL, implies_true, exists_eq_left', rootL, gN, gk, rl])
      all_goals first | (exfalso; omega) | exact ⟨_, Sub.refl _, EdR.bad eE (by decide)⟩
  · rw [if_neg hz] at hE
    have eE2 : editE d e = elemE d e.at' := by
      unfold elemE at hz ⊢
      rw [eE]
      by_cases hn : inD d e.at'
      · rw [if_neg (by simpa using hn)] at hz ⊢
        by_cases hk : (nd d e.at').kind ≠ 2
        · rw [if_neg (show ¬ ¬ inD d e.at' from fun h => h hn)]; rw [if_pos hk]
          try rw [if_pos hk]
        · rw [if_neg hk] at hz; exact absurd rfl hz
      · rw [if_pos hn, if_pos hn]
    refine DCalls.of hE ?_
    rintro _ hh ⟨rfl, rfl⟩
    repeat' (first | ((with_reducible refine Br.dec (fun _ => ?_) (fun _ => ?_)) <;> try (exfalso; omega)) | ((with_reducible refine Br.eq (fun _ => ?_) (fun _ => ?_)) <;> try (exfalso; omega)) | ((with_reducible refine Br.ne (fun _ => ?_) (fun _ => ?_)) <;> try (exfalso; omega)) | ((with_reducible refine brNdec (fun _ => ?_) (fun _ => ?_)) <;> try (exfalso; omega)) | ((with_reducible refine brNeq (fun _ => ?_) (fun _ => ?_)) <;> try (exfalso; omega)) | with_reducible refine Br.intro (fun _ => ?_) (fun _ => ?_) | (with_reducible refine And.intro ?_ ?_; · omega) | simp -dsimp -implicitDefEqProofs (disch := omega) only [VCA, Nat.reduceEqDiff, Nat.reduceAdd, Nat.reduceLT, ↓reduceIte])
    all_goals exact ⟨_, Sub.refl _, EdR.bad eE2 hz⟩
end Go.Proofs.K
end
