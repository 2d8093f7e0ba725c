/- Texts of this claim, one behind the other. -/
import Derived.Test.YtoolkpnnllfhgaaGreatDoorM4
import Derived.Test.YtoolkpnnllfhgaaGreatDoorM3
import Derived.Shelf.Spec.SlicesInsert
import Derived.Shelf.Spec.SlicesInsertGrow
section
set_option linter.unusedSimpArgs false
set_option linter.unusedVariables false
namespace Go.Proofs.K
open Go Go.Sim Go.Proofs
structure HEdit where
  do' : Int
  at' : Int
  to : Int
  before : Int
  name : List UInt8
  value : List UInt8
  node : HNode
deriving DecidableEq, Inhabited
def eEdit (e : HEdit) : List AVal := [aInt e.do', aInt e.at', aInt e.to, aInt e.before, .str e.name, .str e.value, aInt e.node.kind, .str e.node.name, sl eAttr e.node.attrs, .str e.node.text, aInt e.node.parent, sl eInt e.node.kids]
instance : LenE eEdit 12 := ⟨fun _ => rfl⟩
def bareE (e : HEdit) : Prop := e.node.attrs = [] ∧ e.node.kids = []
structure EditSm (e : HEdit) : Prop where
  name : e.name.length ≤ 1073741824
  value : e.value.length ≤ 1073741824
  node : NodeSm e.node
def setAttr (l : List HAttr) (name value : List UInt8) : List HAttr := if 0 ≤ attrAt l name then l.set (attrAt l name).toNat ⟨name, value⟩ else l ++ [⟨name, value⟩]
def dropAttr (l : List HAttr) (name : List UInt8) : List HAttr := l.take (attrAt l name).toNat ++ l.drop ((attrAt l name).toNat + 1)
theorem attrAt_mem (l : List HAttr) (name : List UInt8) : 0 ≤ attrAt l name ↔ name ∈ l.map (·.name) := by
  have := idxM_any (fun a : HAttr => a.name == name) l
  unfold attrAt
  rw [← decide_eq_true_iff (p := 0 ≤ idxM (fun a : HAttr => a.name == name) l), this, List.any_eq_true, List.mem_map]
  constructor
  · rintro ⟨a, h1, h2⟩; exact ⟨a, h1, by simpa using h2⟩
  · rintro ⟨a, h1, h2⟩; exact ⟨a, h1, by simpa using h2⟩
theorem attrAt_spec (l : List HAttr) (name : List UInt8) (h : 0 ≤ attrAt l name) : (attrAt l name).toNat < l.length ∧ (nth l (attrAt l name).toNat).name = name ∧ ((attrAt l name).toNat : Int) = attrAt l name := by
  unfold attrAt idxM at *
  cases hf : l.findIdx? (fun a : HAttr => a.name == name) with
  | none => rw [hf] at h; simp at h
  | some i =>
    simp only [hf] at h ⊢
    rw [List.findIdx?_eq_some_iff_getElem] at hf
    obtain ⟨h1, h2, _⟩ := hf
    refine ⟨by simpa using h1, ?_, by simp⟩
    have : nth l i = l[i] := by unfold nth; rw [List.getD_eq_getElem?_getD, List.getElem?_eq_getElem h1]; rfl
    show (nth l ((i : Int)).toNat).name = name
    rw [show ((i : Int)).toNat = i by simp, this]
    simpa using h2
theorem attrsE_iff (l : List HAttr) : attrsE l = 0 ↔ l.length ≤ 12 ∧ (∀ a ∈ l, nameOK false a.name = true ∧ a.value.length ≤ 400) ∧ (l.map (·.name)).Nodup := by
  have key : ∀ i, i < l.length → (attrE l i = 0 ↔ nameOK false (nth l i).name = true ∧ (nth l i).value.length ≤ 400 ∧ nth (l.map (·.name)) i ∉ (l.map (·.name)).take i) := fun i hi => by
    have hn : nth (l.map (·.name)) i = (nth l i).name := by
      unfold nth; rw [List.getD_eq_getElem?_getD, List.getD_eq_getElem?_getD, List.getElem?_map, List.getElem?_eq_getElem hi]; rfl
    have hm := attrAt_mem (l.take i) (nth l i).name
    rw [List.map_take] at hm
    rw [hn, ← hm]
    unfold attrE
    constructor
    · intro h
      split at h
      · omega
      · rename_i h1
        split at h
        · omega
        · rename_i h2
          split at h
          · omega
          · rename_i h3
            exact ⟨by simpa using h1, by omega, h3⟩
    · rintro ⟨h1, h2, h3⟩
      rw [if_neg (by simp [h1]), if_neg (by omega), if_neg h3]
  unfold attrsE
  constructor
  · intro h
    split at h
    · omega
    · rename_i hl
      have h := fe_zero h
      refine ⟨by omega, fun a ha => ?_, nodup_of_take fun k hk => ?_⟩
      · obtain ⟨k, hk, rfl⟩ := mem_nth ha
        have := (key k hk).1 (h k hk)
        exact ⟨this.1, this.2.1⟩
      · rw [List.length_map] at hk
        exact ((key k hk).1 (h k hk)).2.2
  · rintro ⟨h1, h2, h3⟩
    rw [if_neg (by omega)]
    refine fe_none fun k hk => (key k hk).2 ⟨(h2 _ (nth_mem' hk)).1, (h2 _ (nth_mem' hk)).2, take_of_nodup h3 (by rw [List.length_map]; exact hk)⟩
theorem nodeE_iff (x : HNode) : nodeE x = 0 ↔ (1 ≤ x.kind ∧ x.kind ≤ 5) ∧ bareM x = true ∧ (x.kind = 2 → nameOK true x.name = true) ∧ attrsE x.attrs = 0 ∧ x.text.length ≤ 400 ∧ x.name.length ≤ 400 := by
  unfold nodeE
  constructor
  · intro h
    split at h
    · omega
    · rename_i h1
      simp only [not_or] at h1
      split at h
      · omega
      · rename_i h2
        split at h
        · rename_i h3; exact absurd h h3
        · rename_i h3
          split at h
          · omega
          · rename_i h4
            refine ⟨by omega, by simpa using h1.2.2, fun h5 => ?_, by simpa using h3, by omega, by omega⟩
            cases hn : nameOK true x.name with
            | true => rfl
            | false => exact absurd ⟨h5, hn⟩ h2
  · rintro ⟨h1, h2, h3, h4, h5, h6⟩
    rw [if_neg (by rw [h2]; simp; omega), if_neg (by rintro ⟨h7, h8⟩; rw [h3 h7] at h8; cases h8), if_neg (by simpa using h4), if_neg (by omega)]
theorem map_set_name {l : List HAttr} {i : Nat} {a : HAttr} (hi : i < l.length) (hn : (nth l i).name = a.name) : (l.set i a).map (·.name) = l.map (·.name) := by
  apply List.ext_getElem?
  intro j
  rw [List.getElem?_map, List.getElem?_map, List.getElem?_set]
  by_cases h : i = j
  · subst h
    have : nth l i = l[i] := by unfold nth; rw [List.getD_eq_getElem?_getD, List.getElem?_eq_getElem hi]; rfl
    rw [if_pos rfl, if_pos hi, List.getElem?_eq_getElem hi, Option.map_some, Option.map_some, ← this, hn]
  · rw [if_neg h]
theorem setAttr_ok {l : List HAttr} {name value : List UInt8} (hl : attrsE l = 0) (hn : nameOK false name = true) : attrsE (setAttr l name value) = 0 ↔ value.length ≤ 400 ∧ (¬ 0 ≤ attrAt l name → l.length < 12) := by
  rw [attrsE_iff] at hl
  obtain ⟨h1, h2, h3⟩ := hl
  rw [attrsE_iff]
  unfold setAttr
  by_cases h0 : 0 ≤ attrAt l name
  · rw [if_pos h0]
    obtain ⟨g1, g2, g3⟩ := attrAt_spec l name h0
    rw [List.length_set, map_set_name g1 (by rw [g2])]
    constructor
    · rintro ⟨_, q, _⟩
      have hm : (⟨name, value⟩ : HAttr) ∈ l.set (attrAt l name).toNat ⟨name, value⟩ := List.mem_of_getElem? (i := (attrAt l name).toNat) (by rw [List.getElem?_set]; simp [g1])
      exact ⟨(q _ hm).2, fun h => absurd h0 h⟩
    · rintro ⟨q, _⟩
      refine ⟨h1, fun a ha => ?_, h3⟩
      rcases List.mem_or_eq_of_mem_set ha with ha | rfl
      · exact h2 a ha
      · exact ⟨hn, q⟩
  · rw [if_neg h0, List.length_append, List.map_append]
    have hnm : name ∉ l.map (·.name) := fun h => h0 ((attrAt_mem l name).2 h)
    constructor
    · rintro ⟨q1, q2, _⟩
      have := (q2 ⟨name, value⟩ (by simp)).2
      simp only [List.length_singleton] at q1
      exact ⟨this, fun _ => by omega⟩
    · rintro ⟨q1, q2⟩
      have := q2 h0
      refine ⟨by simp; omega, fun a ha => ?_, ?_⟩
      · rcases List.mem_append.1 ha with ha | ha
        · exact h2 a ha
        · simp only [List.mem_singleton] at ha; subst ha; exact ⟨hn, q1⟩
      · rw [List.nodup_append]
        refine ⟨h3, by simp, fun x hx y hy hxy => ?_⟩
        simp only [List.map_cons, List.map_nil, List.mem_singleton] at hy
        subst hy; subst hxy
        exact hnm hx
theorem dropAttr_ok {l : List HAttr} {name : List UInt8} (hl : attrsE l = 0) (h0 : 0 ≤ attrAt l name) : attrsE (dropAttr l name) = 0 := by
  rw [attrsE_iff] at hl ⊢
  obtain ⟨h1, h2, h3⟩ := hl
  have hs : ∀ i, (l.take i ++ l.drop (i + 1)).Sublist l := fun i => by
    conv => rhs; rw [← List.take_append_drop i l]
    refine List.Sublist.append (List.Sublist.refl _) ?_
    rw [show l.drop (i + 1) = (l.drop i).drop 1 by rw [List.drop_drop]]
    exact List.drop_sublist _ _
  unfold dropAttr
  have h := hs (attrAt l name).toNat
  exact ⟨Nat.le_trans h.length_le h1, fun a ha => h2 a (h.subset ha), (h3.sublist (h.map _))⟩
theorem setAttr_map {l : List HAttr} {name value : List UInt8} (h3 : (l.map (·.name)).Nodup) : setAttr l name value = (l.map fun a => if a.name = name then ⟨a.name, value⟩ else a) ++ (if 0 ≤ attrAt l name then [] else [⟨name, value⟩]) := by
  unfold setAttr
  by_cases h0 : 0 ≤ attrAt l name
  · rw [if_pos h0, if_pos h0, List.append_nil]
    obtain ⟨g1, g2, g3⟩ := attrAt_spec l name h0
    generalize (attrAt l name).toNat = i at *
    apply List.ext_getElem?
    intro j
    rw [List.getElem?_set, List.getElem?_map]
    by_cases h : i = j
    · subst h
      have e : nth l i = l[i] := by unfold nth; rw [List.getD_eq_getElem?_getD, List.getElem?_eq_getElem g1]; rfl
      rw [if_pos rfl, if_pos g1, List.getElem?_eq_getElem g1, Option.map_some, ← e, if_pos g2, g2]
    · rw [if_neg h]
      by_cases hj : j < l.length
      · rw [List.getElem?_eq_getElem hj, Option.map_some, if_neg]
        intro e
        refine h ?_
        have e1 : nth l i = l[i] := by unfold nth; rw [List.getD_eq_getElem?_getD, List.getElem?_eq_getElem g1]; rfl
        rw [List.Nodup, List.pairwise_iff_getElem] at h3
        rcases Nat.lt_trichotomy i j with hij | hij | hij
        · exact absurd (by rw [List.getElem_map, List.getElem_map, e, ← e1, g2]) (h3 i j (by simpa using g1) (by simpa using hj) hij)
        · exact hij
        · exact absurd (by rw [List.getElem_map, List.getElem_map, e, ← e1, g2]) (h3 j i (by simpa using hj) (by simpa using g1) hij)
      · rw [List.getElem?_eq_none (by omega)]; rfl
  · rw [if_neg h0, if_neg h0]
    congr 1
    have : ∀ a ∈ l, a.name ≠ name := fun a ha e => h0 ((attrAt_mem l name).2 (List.mem_map.2 ⟨a, ha, e⟩))
    conv => lhs; rw [← List.map_id l]
    refine List.map_congr_left fun a ha => ?_
    rw [if_neg (this a ha)]; rfl
theorem dropAttr_filter {l : List HAttr} {name : List UInt8} (h3 : (l.map (·.name)).Nodup) (h0 : 0 ≤ attrAt l name) : dropAttr l name = l.filter fun a => decide (a.name ≠ name) := by
  obtain ⟨g1, g2, g3⟩ := attrAt_spec l name h0
  unfold dropAttr
  generalize (attrAt l name).toNat = i at *
  have e : l = l.take i ++ nth l i :: l.drop (i + 1) := by
    have : nth l i = l[i] := by unfold nth; rw [List.getD_eq_getElem?_getD, List.getElem?_eq_getElem g1]; rfl
    rw [this, List.getElem_cons_drop, List.take_append_drop]
  generalize nth l i = y at *
  generalize l.take i = A at *
  generalize l.drop (i + 1) = B at *
  subst e
  rw [List.map_append, List.map_cons, List.nodup_append, List.nodup_cons] at h3
  obtain ⟨_, ⟨k2, _⟩, k4⟩ := h3
  rw [List.filter_append, List.filter_cons_of_neg (by simpa using g2)]
  rw [List.filter_eq_self.2 fun a ha => ?_, List.filter_eq_self.2 fun a ha => ?_]
  · simp only [ne_eq, decide_eq_true_eq]
    intro e
    exact k2 (List.mem_map.2 ⟨a, ha, by rw [e, g2]⟩)
  · simp only [ne_eq, decide_eq_true_eq]
    intro e
    exact k4 a.name (List.mem_map.2 ⟨a, ha, rfl⟩) y.name List.mem_cons_self (by rw [e, g2])
def lowF : Nat → HDoc → Int → Nat
  | 0, _, _ => 0
  | f + 1, d, n => ((nd d n).kids.map fun k => lowF f d k + 1).foldl max 0
def low (d : HDoc) (n : Int) : Nat := lowF (41 - up d n) d n
theorem foldl_max (l : List Nat) (c : Nat) : ∀ a, l.foldl max a ≤ c ↔ a ≤ c ∧ ∀ x ∈ l, x ≤ c := by
  induction l with
  | nil => intro a; simp
  | cons y l ih =>
    intro a
    rw [List.foldl_cons, ih]
    constructor
    · rintro ⟨h1, h2⟩
      refine ⟨by omega, fun x hx => ?_⟩
      rcases List.mem_cons.1 hx with rfl | hx
      · omega
      · exact h2 x hx
    · rintro ⟨h1, h2⟩
      have := h2 y List.mem_cons_self
      exact ⟨by omega, fun x hx => h2 x (List.mem_cons_of_mem _ hx)⟩
section
variable {d : HDoc}
theorem low_eq (V : DV d) {n : Int} (hn : inD d n) : low d n = ((nd d n).kids.map fun k => low d k + 1).foldl max 0 := by
  have h40 := V.deep n hn
  obtain ⟨f, hf⟩ : ∃ f, 41 - up d n = f + 1 := ⟨40 - up d n, by omega⟩
  have e : low d n = lowF (f + 1) d n := by unfold low; rw [hf]
  rw [e, lowF]
  congr 1
  refine List.map_congr_left fun k hk => ?_
  have hu := V.up_kid hn hk
  show _ = lowF (41 - up d k) d k + 1
  rw [show 41 - up d k = f by omega]
theorem low_le (V : DV d) : ∀ n, inD d n → ∀ c, low d n ≤ c ↔ ∀ m ∈ below d n, up d m ≤ up d n + c := V.down fun n hn ih c => by
  rw [low_eq V hn, foldl_max, below_eq V hn]
  constructor
  · rintro ⟨_, h⟩ m hm
    rcases List.mem_cons.1 hm with rfl | hm
    · omega
    · obtain ⟨k, hk, hm⟩ := List.mem_flatMap.1 hm
      have h1 := h _ (List.mem_map.2 ⟨k, hk, rfl⟩)
      have h2 := (ih k hk (c - 1)).1 (by omega) m hm
      have := V.up_kid hn hk
      omega
  · intro h
    refine ⟨by omega, fun x hx => ?_⟩
    obtain ⟨k, hk, rfl⟩ := List.mem_map.1 hx
    have hki := (V.kid n hn k hk).1
    have hu := V.up_kid hn hk
    have h0 := h k (List.mem_cons_of_mem _ (List.mem_flatMap.2 ⟨k, hk, below_self V hki⟩))
    have := (ih k hk (c - 1)).2 fun m hm => by
      have := h m (List.mem_cons_of_mem _ (List.mem_flatMap.2 ⟨k, hk, hm⟩))
      omega
    omega
theorem low_40 (V : DV d) {n : Int} (hn : inD d n) : low d n ≤ 40 := (low_le V n hn 40).2 fun m hm => by have := V.deep m (below_in V n hn m hm); omega
end
def insAt (d : HDoc) (e : HEdit) : Nat := if e.before = -1 then (nd d e.at').kids.length else (idxM (· == e.before) (nd d e.at').kids).toNat
def editE (d : HDoc) (e : HEdit) : Int :=
  if e.do' = 1 then (if ¬ inD d e.at' then 5 else if (nd d e.at').kind ≠ 2 then 7 else if nameOK false e.name = false then 3
    else if 400 < e.value.length ∨ (¬ 0 ≤ attrAt (nd d e.at').attrs e.name ∧ (nd d e.at').attrs.length = 12) then 2 else 0)
  else if e.do' = 2 then (if ¬ inD d e.at' then 5 else if (nd d e.at').kind ≠ 2 then 7 else if ¬ 0 ≤ attrAt (nd d e.at').attrs e.name then 5 else 0)
  else if e.do' = 3 then (if ¬ inD d e.at' then 5 else if (nd d e.at').kind ≠ 3 ∧ (nd d e.at').kind ≠ 4 then 7 else if 400 < e.value.length then 2 else 0)
  else if e.do' = 4 then (if e.node.kids ≠ [] then 3 else if e.node.kind = 1 then 7 else if nodeE e.node ≠ 0 then nodeE e.node else if d.nodes.length = 200 then 2 else 0)
  else if e.do' = 5 then (if ¬ inD d e.at' ∨ ¬ inD d e.to then 5
    else if ¬ ((nd d e.at').kind = 1 ∨ (nd d e.at').kind = 2) ∨ (nd d e.to).kind = 1 ∨ ((nd d e.at').kind = 1 ∧ (nd d e.to).kind = 3) then 7
    else if 0 ≤ (nd d e.to).parent then 9 else if e.before ≠ -1 ∧ e.before ∉ (nd d e.at').kids then 5 else if e.to ∈ chain d e.at' then 8
    else if 40 < up d e.at' + 1 + low d e.to then 2 else 0)
  else if e.do' = 6 then (if ¬ inD d e.at' then 5 else if (nd d e.at').kind = 1 then 7 else if ¬ 0 ≤ (nd d e.at').parent then 5 else 0)
  else 1
def madeM (x : HNode) : HNode := ⟨x.kind, x.name, x.attrs, x.text, -1, []⟩
def editD (d : HDoc) (e : HEdit) : HDoc :=
  if e.do' = 1 then setN d e.at' { nd d e.at' with attrs := setAttr (nd d e.at').attrs e.name e.value }
  else if e.do' = 2 then setN d e.at' { nd d e.at' with attrs := dropAttr (nd d e.at').attrs e.name }
  else if e.do' = 3 then setN d e.at' { nd d e.at' with text := e.value }
  else if e.do' = 4 then addN d (madeM e.node)
  else if e.do' = 5 then hung d e.at' e.to (insAt d e)
  else cutN d e.at' (idxM (· == e.at') (nd d (nd d e.at').parent).kids).toNat
def editN (d : HDoc) (e : HEdit) : Int := if e.do' = 4 then d.nodes.length else 0
def errR (d : HDoc) (e : HEdit) : Int :=
  if ¬ (1 ≤ e.do' ∧ e.do' ≤ 6) then 1
  else if e.do' = 4 then (if e.node.kids ≠ [] then 3 else if e.node.kind = 1 then 7 else nodeE e.node)
  else if ¬ inD d e.at' ∨ (e.do' = 5 ∧ ¬ inD d e.to) then 5
  else if e.do' = 1 then (if (nd d e.at').kind ≠ 2 then 7 else if nameOK false e.name = false then 3 else 0)
  else if e.do' = 2 then (if (nd d e.at').kind ≠ 2 then 7 else if ¬ 0 ≤ attrAt (nd d e.at').attrs e.name then 5 else 0)
  else if e.do' = 3 then (if (nd d e.at').kind ≠ 3 ∧ (nd d e.at').kind ≠ 4 then 7 else 0)
  else if e.do' = 6 then (if e.at' = 0 then 7 else if (nd d e.at').parent < 0 then 5 else 0)
  else (if 2 < (nd d e.at').kind ∨ e.to = 0 ∨ (e.at' = 0 ∧ (nd d e.to).kind = 3) then 7 else if 0 ≤ (nd d e.to).parent then 9
    else if e.before ≠ -1 ∧ e.before ∉ (nd d e.at').kids then 5 else if e.to ∈ chain d e.at' then 8 else 0)
section
variable {d : HDoc}
theorem editE_errR (V : DV d) (e : HEdit) : (errR d e ≠ 0 → editE d e = errR d e) ∧ (errR d e = 0 → editE d e = 0 ∨ editE d e = 2) := by
  unfold errR editE
  by_cases h1 : e.do' = 1
  · rw [if_neg (by omega), if_neg (by omega), if_pos h1, if_pos h1]
    by_cases ha : inD d e.at'
    · rw [if_neg (show ¬ (¬ inD d e.at' ∨ (e.do' = 5 ∧ ¬ inD d e.to)) by simp [ha]; omega), if_neg (show ¬ ¬ inD d e.at' from fun h => h ha)]
      by_cases hk : (nd d e.at').kind ≠ 2
      · first | (rw [if_pos hk, if_pos hk]; simp; done) | (rw [if_pos hk]; simp)
      · rw [if_neg hk, if_neg hk]
        by_cases hn : nameOK false e.name = false
        · first | (rw [if_pos hn, if_pos hn]; simp; done) | (rw [if_pos hn]; simp)
        · first | (rw [if_neg hn, if_neg hn]; split <;> simp; done) | (rw [if_neg hn]; split <;> simp)
    · rw [if_pos (.inl ha), if_pos ha]; simp
  rw [if_neg (show ¬ e.do' = 1 from h1), if_neg (show ¬ e.do' = 1 from h1)]
  by_cases h2 : e.do' = 2
  · rw [if_neg (by omega), if_neg (by omega), if_pos h2, if_pos h2]
    by_cases ha : inD d e.at'
    · rw [if_neg (show ¬ (¬ inD d e.at' ∨ (e.do' = 5 ∧ ¬ inD d e.to)) by simp [ha]; omega), if_neg (show ¬ ¬ inD d e.at' from fun h => h ha)]
      by_cases hk : (nd d e.at').kind ≠ 2
      · first | (rw [if_pos hk, if_pos hk]; simp; done) | (rw [if_pos hk]; simp)
      · first | (rw [if_neg hk, if_neg hk]; split <;> simp; done) | (rw [if_neg hk]; split <;> simp)
    · rw [if_pos (.inl ha), if_pos ha]; simp
  rw [if_neg (show ¬ e.do' = 2 from h2), if_neg (show ¬ e.do' = 2 from h2)]
  by_cases h3 : e.do' = 3
  · rw [if_neg (by omega), if_neg (by omega), if_pos h3, if_pos h3]
    by_cases ha : inD d e.at'
    · rw [if_neg (show ¬ (¬ inD d e.at' ∨ (e.do' = 5 ∧ ¬ inD d e.to)) by simp [ha]; omega), if_neg (show ¬ ¬ inD d e.at' from fun h => h ha)]
      by_cases hk : (nd d e.at').kind ≠ 3 ∧ (nd d e.at').kind ≠ 4
      · first | (rw [if_pos hk, if_pos hk]; simp; done) | (rw [if_pos hk]; simp)
      · first | (rw [if_neg hk, if_neg hk]; split <;> simp; done) | (rw [if_neg hk]; split <;> simp)
    · rw [if_pos (.inl ha), if_pos ha]; simp
  rw [if_neg (show ¬ e.do' = 3 from h3), if_neg (show ¬ e.do' = 3 from h3)]
  by_cases h4 : e.do' = 4
  · rw [if_neg (by omega), if_pos h4, if_pos h4]
    by_cases hk : e.node.kids ≠ []
    · first | (rw [if_pos hk, if_pos hk]; simp; done) | (rw [if_pos hk]; simp)
    · rw [if_neg hk, if_neg hk]
      by_cases hk1 : e.node.kind = 1
      · first | (rw [if_pos hk1, if_pos hk1]; simp; done) | (rw [if_pos hk1]; simp)
      · rw [if_neg hk1, if_neg hk1]
        by_cases hz : nodeE e.node ≠ 0
        · rw [if_pos hz]; exact ⟨fun _ => rfl, fun h => absurd h hz⟩
        · rw [if_neg hz]
          refine ⟨fun h => absurd h hz, fun _ => ?_⟩
          split <;> simp
  rw [if_neg (show ¬ e.do' = 4 from h4), if_neg (show ¬ e.do' = 4 from h4)]
  by_cases h5 : e.do' = 5
  · rw [if_neg (by omega), if_pos h5]
    by_cases ha : inD d e.at'
    · by_cases ht : inD d e.to
      · rw [if_neg (show ¬ (¬ inD d e.at' ∨ (e.do' = 5 ∧ ¬ inD d e.to)) by simp [ha, ht]), if_neg (show ¬ e.do' = 6 by omega), if_neg (show ¬ (¬ inD d e.at' ∨ ¬ inD d e.to) by simp [ha, ht])]
        have ka := V.kind _ ha
        have kt := V.kind _ ht
        have na := ((nodeE_iff _).1 (V.node _ ha)).1
        have eq7 : (¬ ((nd d e.at').kind = 1 ∨ (nd d e.at').kind = 2) ∨ (nd d e.to).kind = 1 ∨ ((nd d e.at').kind = 1 ∧ (nd d e.to).kind = 3)) ↔ (2 < (nd d e.at').kind ∨ e.to = 0 ∨ (e.at' = 0 ∧ (nd d e.to).kind = 3)) := by
          rw [kt, ka]
          refine or_congr ?_ Iff.rfl
          omega
        by_cases h7 : 2 < (nd d e.at').kind ∨ e.to = 0 ∨ (e.at' = 0 ∧ (nd d e.to).kind = 3)
        · rw [if_pos h7, if_pos (eq7.2 h7)]; simp
        · rw [if_neg h7, if_neg (fun h => h7 (eq7.1 h))]
          by_cases h9 : 0 ≤ (nd d e.to).parent
          · first | (rw [if_pos h9, if_pos h9]; simp; done) | (rw [if_pos h9]; simp)
          · rw [if_neg h9, if_neg h9]
            by_cases hb : e.before ≠ -1 ∧ e.before ∉ (nd d e.at').kids
            · first | (rw [if_pos hb, if_pos hb]; simp; done) | (rw [if_pos hb]; simp)
            · rw [if_neg hb, if_neg hb]
              by_cases hc : e.to ∈ chain d e.at'
              · first | (rw [if_pos hc, if_pos hc]; simp; done) | (rw [if_pos hc]; simp)
              · first | (rw [if_neg hc, if_neg hc]; split <;> simp; done) | (rw [if_neg hc]; split <;> simp)
      · rw [if_pos (.inr ⟨h5, ht⟩), if_pos (.inr ht)]; simp
    · rw [if_pos (.inl ha), if_pos (.inl ha)]; simp
  rw [if_neg (show ¬ e.do' = 5 from h5)]
  by_cases h6 : e.do' = 6
  · rw [if_neg (by omega), if_pos h6, if_pos h6]
    by_cases ha : inD d e.at'
    · rw [if_neg (show ¬ (¬ inD d e.at' ∨ (e.do' = 5 ∧ ¬ inD d e.to)) by simp [ha]; omega), if_neg (show ¬ ¬ inD d e.at' from fun h => h ha)]
      have ka := V.kind _ ha
      by_cases hk : e.at' = 0
      · rw [if_pos hk, if_pos (ka.2 hk)]; simp
      · rw [if_neg hk, if_neg (fun h => hk (ka.1 h))]
        by_cases hp : 0 ≤ (nd d e.at').parent
        · rw [if_neg (by omega), if_neg (by simpa using hp)]; simp
        · rw [if_pos (by omega), if_pos hp]; simp
    · rw [if_pos (.inl ha), if_pos ha]; simp
  rw [if_neg (show ¬ e.do' = 6 from h6), if_pos (by omega)]
  simp [h6]
theorem made_nodeE {x : HNode} (h : x.kids = []) : nodeE (madeM x) = nodeE x := by
  have : bareM (madeM x) = bareM x := by unfold bareM madeM; rw [h]
  unfold nodeE; rw [this]; rfl
theorem idxM_leK (l : List Int) (x : Int) : -1 ≤ idxM (· == x) l ∧ idxM (· == x) l < l.length ∧ (0 ≤ idxM (· == x) l → nth l (idxM (· == x) l).toNat = x) := by
  unfold idxM
  split
  · rename_i i hi
    rw [List.findIdx?_eq_some_iff_getElem] at hi
    obtain ⟨h1, h2, _⟩ := hi
    refine ⟨by omega, by omega, fun _ => ?_⟩
    have : nth l i = l[i] := by unfold nth; rw [List.getD_eq_getElem?_getD, List.getElem?_eq_getElem h1]; rfl
    rw [Int.toNat_natCast, this]; simpa using h2
  · refine ⟨by omega, by omega, fun h => by omega⟩
theorem idx_at {l : List Int} {x : Int} (h : x ∈ l) : (idxM (· == x) l).toNat < l.length ∧ nth l (idxM (· == x) l).toNat = x := by
  have h0 := (idx_mem l x).2 h
  have := idxM_leK l x
  exact ⟨by omega, this.2.2 h0⟩
theorem edit_DV (V : DV d) (e : HEdit) (h0 : errR d e = 0) : DV (editD d e) ↔ editE d e = 0 := by
  unfold errR at h0
  unfold editE editD
  by_cases h1 : e.do' = 1
  · rw [if_neg (by omega), if_neg (by omega)] at h0
    split at h0
    · omega
    rename_i ha
    simp only [not_or, Classical.not_not] at ha
    try rw [if_pos h1] at h0
    split at h0
    · omega
    rename_i hk
    split at h0
    · omega
    rename_i hn
    have hk : (nd d e.at').kind = 2 := by simpa using hk
    rw [if_pos h1, if_pos h1, if_neg (by simpa using ha.1), if_neg (by simpa using hk), if_neg hn]
    rw [V.same ha.1 (x := { nd d e.at' with attrs := setAttr (nd d e.at').attrs e.name e.value }) rfl rfl rfl]
    have hx := (nodeE_iff _).1 (V.node _ ha.1)
    have hs := setAttr_ok (value := e.value) hx.2.2.2.1 (by simpa using hn : nameOK false e.name = true)
    rw [nodeE_iff]
    constructor
    · rintro ⟨_, _, _, h4, _⟩
      have := hs.1 h4
      have hl := ((attrsE_iff _).1 hx.2.2.2.1).1
      rw [if_neg]
      rintro (h | ⟨h, h'⟩)
      · omega
      · have := this.2 h; omega
    · intro h
      split at h
      · omega
      rename_i hb
      simp only [not_or, not_and] at hb
      have hl := ((attrsE_iff _).1 hx.2.2.2.1).1
      refine ⟨hx.1, ?_, hx.2.2.1, hs.2 ⟨by omega, fun hh => by have := hb.2 hh; omega⟩, hx.2.2.2.2⟩
      have hbm := hx.2.1
      unfold bareM at hbm ⊢
      simp only [hk] at hbm ⊢
      simpa using hbm
  rw [if_neg h1, if_neg h1]
  by_cases h2 : e.do' = 2
  · rw [if_neg (by omega), if_neg (by omega)] at h0
    split at h0
    · omega
    rename_i ha
    simp only [not_or, Classical.not_not] at ha
    try rw [if_neg h1] at h0
    try rw [if_pos h2] at h0
    split at h0
    · omega
    rename_i hk
    split at h0
    · omega
    rename_i hn
    have hk : (nd d e.at').kind = 2 := by simpa using hk
    have hn : 0 ≤ attrAt (nd d e.at').attrs e.name := Classical.not_not.1 hn
    rw [if_pos h2, if_pos h2, if_neg (by simpa using ha.1), if_neg (by simpa using hk), if_neg (by simpa using hn)]
    rw [V.same ha.1 (x := { nd d e.at' with attrs := dropAttr (nd d e.at').attrs e.name }) rfl rfl rfl]
    have hx := (nodeE_iff _).1 (V.node _ ha.1)
    rw [nodeE_iff]
    refine ⟨fun _ => rfl, fun _ => ⟨hx.1, ?_, hx.2.2.1, dropAttr_ok hx.2.2.2.1 hn, hx.2.2.2.2⟩⟩
    have hbm := hx.2.1
    unfold bareM at hbm ⊢
    simp only [hk] at hbm ⊢
    simpa using hbm
  rw [if_neg h2, if_neg h2]
  by_cases h3 : e.do' = 3
  · rw [if_neg (by omega), if_neg (by omega)] at h0
    split at h0
    · omega
    rename_i ha
    simp only [not_or, Classical.not_not] at ha
    try rw [if_neg h1] at h0
    try rw [if_neg h2] at h0
    try rw [if_pos h3] at h0
    split at h0
    · omega
    rename_i hk
    rw [if_pos h3, if_pos h3, if_neg (by simpa using ha.1), if_neg hk]
    rw [V.same ha.1 (x := { nd d e.at' with text := e.value }) rfl rfl rfl]
    have hx := (nodeE_iff _).1 (V.node _ ha.1)
    rw [nodeE_iff]
    constructor
    · rintro ⟨_, _, _, _, h5, _⟩
      rw [if_neg (by simpa using h5)]
    · intro h
      split at h
      · omega
      rename_i hb
      refine ⟨hx.1, ?_, hx.2.2.1, hx.2.2.2.1, by show e.value.length ≤ 400; omega, hx.2.2.2.2.2⟩
      have hbm := hx.2.1
      unfold bareM at hbm ⊢
      have : (nd d e.at').kind = 3 ∨ (nd d e.at').kind = 4 := by omega
      rcases this with hk | hk <;> simp only [hk] at hbm ⊢ <;> simpa using hbm
  rw [if_neg h3, if_neg h3]
  by_cases h4 : e.do' = 4
  · rw [if_neg (by omega), if_pos h4] at h0
    split at h0
    · omega
    rename_i hk
    split at h0
    · omega
    rename_i hk1
    have hk : e.node.kids = [] := by simpa using hk
    rw [if_pos h4, if_pos h4, if_neg (by simpa using hk), if_neg hk1, if_neg (by simpa using h0)]
    rw [V.add (x := madeM e.node) rfl rfl hk1, made_nodeE hk]
    have := V.len
    constructor
    · rintro ⟨_, h⟩; rw [if_neg (by omega)]
    · intro h
      split at h
      · omega
      exact ⟨h0, by omega⟩
  rw [if_neg h4, if_neg h4]
  by_cases h5 : e.do' = 5
  · rw [if_neg (by omega), if_neg h4] at h0
    split at h0
    · omega
    rename_i ha
    simp only [not_or, Classical.not_not, not_and] at ha
    have hat := ha.1
    have hto := ha.2 h5
    try rw [if_neg h1] at h0
    try rw [if_neg h2] at h0
    try rw [if_neg h3] at h0
    try rw [if_neg (show ¬ e.do' = 6 by omega)] at h0
    split at h0
    · omega
    rename_i h7
    split at h0
    · omega
    rename_i h9
    split at h0
    · omega
    rename_i hb
    split at h0
    · omega
    rename_i hc
    simp only [not_or, not_and] at h7
    have ka := V.kind _ hat
    have kt := V.kind _ hto
    have na := ((nodeE_iff _).1 (V.node _ hat)).1
    have c1 : (nd d e.at').kind = 1 ∨ (nd d e.at').kind = 2 := by omega
    have c2 : (nd d e.to).kind ≠ 1 := fun h => h7.2.1 (kt.1 h)
    have c3 : ¬ ((nd d e.at').kind = 1 ∧ (nd d e.to).kind = 3) := fun ⟨h, h'⟩ => h7.2.2 (ka.1 h) h'
    rw [if_pos h5, if_pos h5, if_neg (by simp [hat, hto]), if_neg (fun hh => hh.elim (fun h => h c1) (fun h => h.elim c2 c3)), if_neg h9, if_neg hb, if_neg hc]
    rw [V.hang hat hto c1 c2 c3 h9 hc]
    have hl := low_le V e.to hto
    have ut := V.up_top (n := e.to) h9
    rw [ut] at hl
    constructor
    · intro h
      rw [if_neg]
      have := (hl (39 - up d e.at')).2 fun m hm => by have := h m hm; omega
      have := h e.to (below_self V hto)
      omega
    · intro h m hm
      split at h
      · omega
      have := (hl (39 - up d e.at')).1 (by omega) m hm
      omega
  rw [if_neg h5, if_neg h5]
  by_cases h6 : e.do' = 6
  · rw [if_neg (by omega), if_neg h4] at h0
    split at h0
    · omega
    rename_i ha
    simp only [not_or, Classical.not_not] at ha
    try rw [if_neg h1] at h0
    try rw [if_neg h2] at h0
    try rw [if_neg h3] at h0
    try rw [if_pos h6] at h0
    split at h0
    · omega
    rename_i hz
    split at h0
    · omega
    rename_i hp
    have hp : 0 ≤ (nd d e.at').parent := by omega
    have ka := V.kind _ ha.1
    rw [if_pos h6, if_neg (by simpa using ha.1), if_neg (fun h => hz (ka.1 h)), if_neg (by simpa using hp)]
    obtain ⟨i1, i2⟩ := idx_at (V.par_in ha.1 hp).2
    exact ⟨fun _ => rfl, fun _ => V.cut ha.1 hp i1 i2⟩
  rw [if_pos (by omega)] at h0
  omega
end
end Go.Proofs.K
end
section
set_option linter.unusedSimpArgs false
set_option linter.unusedVariables false
namespace Go.Proofs.YtoolkpnnllfhgaaGreatDoor
open Go Go.Sim Go.Proofs Go.Proofs.K Go.ChangeShapes Go.WideShapes Go.ChangeAt Go.RowKit
variable {H : Type} {enc : TypeId × Value → H} {w : World}
def goodE (k : Nat) (x : HEdit) : Prop := x.name.length ≤ k ∧ x.value.length ≤ k ∧ goodN k x.node
theorem mE : Mono goodE := fun _ _ _ h1 h2 => ⟨Nat.le_trans h2.1 h1, Nat.le_trans h2.2.1 h1, mN _ _ _ h1 h2.2.2⟩
theorem rEdit : Rdr enc Tryz.prog w Rows.uptoBulk 42 eEdit goodE := by
  have hB := bulk H
  have r := Rdr.struct (eh := enc) (w := w) hB Tryz.underlying42 (by kernel_rfl) (.cons (sz := 1) rfl (by kernel_rfl) mInt rInt (.cons (sz := 1) rfl (by kernel_rfl) mInt rInt (.cons (sz := 1) rfl (by kernel_rfl) mInt rInt (.cons (sz := 1) rfl (by kernel_rfl) mInt rInt
    (.cons (sz := 1) rfl (by kernel_rfl) mStr rStr (.cons (sz := 1) rfl (by kernel_rfl) mStr rStr (.cons (sz := 6) rfl (by kernel_rfl) mN rNode (.nil _))))))))
  exact r.map (fun p => (⟨p.1, p.2.1, p.2.2.1, p.2.2.2.1, p.2.2.2.2.1, p.2.2.2.2.2.1, p.2.2.2.2.2.2.1⟩ : HEdit)) (fun _ => rfl) (fun _ _ h => ⟨h.2.2.2.2.1, h.2.2.2.2.2.1, h.2.2.2.2.2.2.1⟩)
theorem editSm_of {k : Nat} {e : HEdit} (hk : k ≤ 1073741824) (g : goodE k e) : EditSm e := by
  obtain ⟨g1, g2, h1, ⟨h2, h3⟩, h4, h5⟩ := g
  exact ⟨Nat.le_trans g1 hk, Nat.le_trans g2 hk, ⟨Nat.le_trans h1 hk, Nat.le_trans h2 hk, fun a ha => ⟨Nat.le_trans (h3 a ha).1 hk, Nat.le_trans (h3 a ha).2 hk⟩, Nat.le_trans h4 hk, Nat.le_trans h5 hk⟩⟩
def goodEs (k : Nat) (l : List HEdit) : Prop := l.length ≤ k ∧ ∀ e ∈ l, goodE k e
theorem rEdits : Rdr enc Tryz.prog w Rows.uptoBulk 25 (fun l => [sl eEdit l]) goodEs :=
  Rdr.slice (eh := enc) (w := w) (bulk H) mE (sz := 12) (enc := eEdit) Tryz.underlying25 (by kernel_rfl) (by decide) (fun _ => rfl) (rEdit (H := H))
end Go.Proofs.YtoolkpnnllfhgaaGreatDoor
end
section
set_option linter.unusedSimpArgs false
set_option linter.unusedVariables false
namespace Go.Proofs.K
open Go Go.Sim Go.Proofs
variable {G : Glob}
def rootOf : AVal → Option Nat
  | .osl r _ _ _ => some r
  | _ => none
def OwnS (h : Heap) (ty sz : Nat) (cells : List (List AVal)) (a : AVal) : Prop :=
  (cells = [] ∧ a = .emp) ∨ (a = .slc cells ∧ ∀ e ∈ cells, e.length = sz) ∨ ∃ r es, a = .osl r sz 0 cells.length ∧ h r = some ⟨ty, sz, es⟩ ∧ cells.length ≤ es.length ∧ es.take cells.length = cells
def Mut (a : AVal) : Prop := ∀ es, a ≠ .slc es
theorem OwnS.live {h : Heap} {ty sz : Nat} {cells : List (List AVal)} {a : AVal} (O : OwnS h ty sz cells a) (M : Mut a) : (cells = [] ∧ a = .emp) ∨ ∃ r es, a = .osl r sz 0 cells.length ∧ h r = some ⟨ty, sz, es⟩ ∧ cells.length ≤ es.length ∧ es.take cells.length = cells := by
  rcases O with O | O | O
  · exact .inl O
  · exact absurd O.1 (M _)
  · exact .inr O
theorem OwnS.keep {h h2 : Heap} {ty sz : Nat} {cells : List (List AVal)} {a : AVal} (O : OwnS h ty sz cells a) (hk : ∀ r o, rootOf a = some r → h r = some o → h2 r = some o) : OwnS h2 ty sz cells a := by
  rcases O with O | O | ⟨r, es, ha, hr, h1, h2⟩
  · exact .inl O
  · exact .inr (.inl O)
  · exact .inr (.inr ⟨r, es, ha, hk r _ (by rw [ha]; rfl) hr, h1, h2⟩)
theorem OwnS.of_acc {h h' : Heap} {ty sz : Nat} {cells : List (List AVal)} {a : AVal} (A : Acc h ty sz cells a h') : OwnS h' ty sz cells a ∧ (∀ r, rootOf a = some r → h r = none) ∧ Mut a := by
  rcases A with ⟨h1, h2⟩ | ⟨r, h0, h1, h2⟩
  · exact ⟨.inl ⟨h1, h2⟩, fun r hr => by (rw [h2] at hr; cases hr), fun es e => by rw [h2] at e; cases e⟩
  · exact ⟨.inr (.inr ⟨r, _, h2, h1, Nat.le_refl _, by rw [List.take_length]⟩), fun r' hr => by (rw [h2] at hr; cases hr; exact h0), fun es e => by rw [h2] at e; cases e⟩
theorem OwnS.len {h : Heap} {ty sz : Nat} {cells : List (List AVal)} {a : AVal} (O : OwnS h ty sz cells a) : aLen a = aInt cells.length ∧ okLen a = True := by
  rcases O with ⟨h1, h2⟩ | ⟨h2, _⟩ | ⟨r, es, ha, _⟩
  · subst h1; subst h2; exact ⟨rfl, rfl⟩
  · subst h2; exact ⟨rfl, rfl⟩
  · subst ha; exact ⟨rfl, rfl⟩
theorem OwnS.isV {h : Heap} {ty sz : Nat} {cells : List (List AVal)} {a : AVal} (O : OwnS h ty sz cells a) : isV a = true ∧ cellsOf a = [a] := by
  rcases O with ⟨h1, h2⟩ | ⟨h2, _⟩ | ⟨r, es, ha, _⟩
  · subst h2; exact ⟨rfl, rfl⟩
  · subst h2; exact ⟨rfl, rfl⟩
  · subst ha; exact ⟨rfl, rfl⟩
theorem OwnS.root {h : Heap} {ty sz : Nat} {cells : List (List AVal)} {a : AVal} (O : OwnS h ty sz cells a) {r : Nat} (hr : rootOf a = some r) : ∃ o, h r = some o := by
  rcases O with ⟨h1, h2⟩ | ⟨h2, _⟩ | ⟨r', es, ha, h1, _⟩
  · subst h2; cases hr
  · subst h2; cases hr
  · subst ha; cases hr; exact ⟨_, h1⟩
theorem OwnS.vw {α : Type} [Inhabited α] {enc : α → List AVal} {h : Heap} {ty sz : Nat} [LenE enc sz] {l : List α} {a : AVal} (O : OwnS h ty sz (l.map enc) a) : Vw h a (sl enc l) := by
  rcases O with ⟨h1, h2⟩ | ⟨h2, _⟩ | ⟨r, es, ha, hr, h1, h2⟩
  · have : l = [] := by simpa using h1
    subst this; subst h2; exact .emp
  · subst h2; exact .refl _
  · subst ha
    refine .osl r sz 0 _ ⟨ty, sz, es⟩ (l.map enc) hr (by simpa using h1) rfl (fun f hf => by obtain ⟨x, _, rfl⟩ := List.mem_map.1 hf; exact LenE.len x) fun k j e f x y he hf hx hy => ?_
    have hk : k < (l.map enc).length := (List.getElem?_eq_some_iff.1 hf).1
    simp only [Nat.zero_add] at he
    have he' : (es.take (l.map enc).length)[k]? = some e := by rw [List.getElem?_take, if_pos hk]; exact he
    rw [h2] at he'
    rw [he'] at hf
    cases hf
    rw [hx] at hy; cases hy; exact .refl _
def rowA (x : HNode) (a k : AVal) : List AVal := [aInt x.kind, .str x.name, a, .str x.text, aInt x.parent, k]
def rowsA (d : HDoc) (sl : Nat → AVal) : List (List AVal) := (List.range d.nodes.length).map fun i => rowA (nth d.nodes i) (sl (2 * i)) (sl (2 * i + 1))
theorem rowsA_len (d : HDoc) (sl : Nat → AVal) : (rowsA d sl).length = d.nodes.length := by simp [rowsA]
theorem rowsA_get {d : HDoc} {sl : Nat → AVal} {i : Nat} (hi : i < d.nodes.length) : (rowsA d sl).getD i [] = rowA (nth d.nodes i) (sl (2 * i)) (sl (2 * i + 1)) := by
  rw [List.getD_eq_getElem?_getD, rowsA, List.getElem?_map, List.getElem?_range hi]; rfl
structure Dw (X : List Nat) (h0 h : Heap) (rN : Nat) (d : HDoc) (sl : Nat → AVal) : Prop where
  sub : Sim.Sub h0 h
  nodes : h rN = some ⟨.t 40, 6, rowsA d sl⟩
  new : h0 rN = none ∧ rN ∉ X
  own : ∀ i, i < d.nodes.length → OwnS h 96 2 ((nth d.nodes i).attrs.map eAttr) (sl (2 * i)) ∧ OwnS h 3 1 ((nth d.nodes i).kids.map eInt) (sl (2 * i + 1))
  fresh : ∀ k, k < 2 * d.nodes.length → ∀ r, rootOf (sl k) = some r → h0 r = none ∧ r ≠ rN ∧ r ∉ X
  sep : ∀ j k, j < 2 * d.nodes.length → k < 2 * d.nodes.length → j ≠ k → ∀ r, rootOf (sl j) = some r → rootOf (sl k) ≠ some r
  keep : ∀ r ∈ X, ∃ o, h r = some o
theorem Dw.slot {X : List Nat} {h0 h : Heap} {rN : Nat} {d : HDoc} {sl : Nat → AVal} (E : Dw X h0 h rN d sl) {k : Nat} (hk : k < 2 * d.nodes.length) {r : Nat} (hr : rootOf (sl k) = some r) : ∃ o, h r = some o := by
  have hi : k / 2 < d.nodes.length := by omega
  obtain ⟨h1, h2⟩ := E.own _ hi
  rcases (by omega : k = 2 * (k / 2) ∨ k = 2 * (k / 2) + 1) with h | h
  · rw [h] at hr; exact h1.root hr
  · rw [h] at hr; exact h2.root hr
theorem Dw.put {X : List Nat} {h0 h h2 : Heap} {rN : Nat} {d : HDoc} {sl sl' : Nat → AVal} (E : Dw X h0 h rN d sl) {i : Nat} (hi : i < d.nodes.length) {x' : HNode}
    (hs : ∀ j, j ≠ 2 * i → j ≠ 2 * i + 1 → sl' j = sl j)
    (hN : h2 rN = some ⟨.t 40, 6, (rowsA d sl).set i (rowA x' (sl' (2 * i)) (sl' (2 * i + 1)))⟩)
    (hk : ∀ r o, h r = some o → r ≠ rN → rootOf (sl (2 * i)) ≠ some r → rootOf (sl (2 * i + 1)) ≠ some r → h2 r = some o)
    (hA : OwnS h2 96 2 (x'.attrs.map eAttr) (sl' (2 * i))) (hK : OwnS h2 3 1 (x'.kids.map eInt) (sl' (2 * i + 1)))
    (hf : ∀ r, rootOf (sl' (2 * i)) = some r ∨ rootOf (sl' (2 * i + 1)) = some r → rootOf (sl (2 * i)) = some r ∨ rootOf (sl (2 * i + 1)) = some r ∨ h r = none)
    (hd : ∀ r, rootOf (sl' (2 * i)) = some r → rootOf (sl' (2 * i + 1)) ≠ some r) : Dw X h0 h2 rN ⟨d.nodes.set i x', d.quirks⟩ sl' := by
  have hl : (d.nodes.set i x').length = d.nodes.length := by simp
  have fr : ∀ r, rootOf (sl' (2 * i)) = some r ∨ rootOf (sl' (2 * i + 1)) = some r → h0 r = none ∧ r ≠ rN ∧ r ∉ X := fun r hr => by
    rcases hf r hr with h | h | h
    · exact E.fresh _ (by omega) r h
    · exact E.fresh _ (by omega) r h
    · refine ⟨E.sub.none h, fun e => ?_, fun hx => ?_⟩
      · rw [e, E.nodes] at h; cases h
      · obtain ⟨o, ho⟩ := E.keep r hx; rw [h] at ho; cases ho
  have oth : ∀ j, j < 2 * d.nodes.length → j ≠ 2 * i → j ≠ 2 * i + 1 → ∀ r, rootOf (sl j) = some r → rootOf (sl' (2 * i)) ≠ some r ∧ rootOf (sl' (2 * i + 1)) ≠ some r := fun j hj h1 h2 r hr => by
    have key : ¬ (rootOf (sl (2 * i)) = some r ∨ rootOf (sl (2 * i + 1)) = some r ∨ h r = none) := by
      rintro (h | h | h)
      · exact E.sep j (2 * i) hj (by omega) h1 r hr h
      · exact E.sep j (2 * i + 1) hj (by omega) h2 r hr h
      · obtain ⟨o, ho⟩ := E.slot hj hr; rw [h] at ho; cases ho
    exact ⟨fun h => key (hf r (.inl h)), fun h => key (hf r (.inr h))⟩
  refine ⟨fun t o ht => ?_, ?_, E.new, fun j hj => ?_, fun k hk' r hr => ?_, fun j k hj hk' hne r hr => ?_, fun r hr => ?_⟩
  · have hne : t ≠ rN := fun e => by rw [e, E.new.1] at ht; cases ht
    refine hk t o (E.sub t o ht) hne (fun h => ?_) (fun h => ?_)
    · have := (E.fresh _ (by omega) t h).1; rw [this] at ht; cases ht
    · have := (E.fresh _ (by omega) t h).1; rw [this] at ht; cases ht
  · rw [hN]
    congr 2
    apply List.ext_getElem?
    intro j
    rw [List.getElem?_set]
    show _ = (rowsA ⟨d.nodes.set i x', d.quirks⟩ sl')[j]?
    unfold rowsA
    simp only [hl]
    by_cases hij : i = j
    · subst hij
      rw [if_pos rfl, if_pos (by simpa using hi), List.getElem?_map, List.getElem?_range hi, Option.map_some, nth_set _ _ _ _ hi, if_pos rfl]
    · rw [if_neg hij]
      by_cases hj : j < d.nodes.length
      · rw [List.getElem?_map, List.getElem?_map, List.getElem?_range hj, Option.map_some, Option.map_some, nth_set _ _ _ _ hi, if_neg (fun e => hij e.symm), hs (2 * j) (by omega) (by omega), hs (2 * j + 1) (by omega) (by omega)]
      · rw [List.getElem?_eq_none (by simp; omega), List.getElem?_eq_none (by simp; omega)]
  · simp only [hl] at hj
    show OwnS h2 _ _ ((nth (d.nodes.set i x') j).attrs.map eAttr) _ ∧ OwnS h2 _ _ ((nth (d.nodes.set i x') j).kids.map eInt) _
    rw [nth_set _ _ _ _ hi]
    by_cases hij : j = i
    · subst hij; rw [if_pos rfl]; exact ⟨hA, hK⟩
    · rw [if_neg hij, hs (2 * j) (by omega) (by omega), hs (2 * j + 1) (by omega) (by omega)]
      obtain ⟨g1, g2⟩ := E.own j hj
      exact ⟨g1.keep fun r o hr ho => hk r o ho (E.fresh _ (by omega) r hr).2.1 (fun h => E.sep (2 * j) (2 * i) (by omega) (by omega) (by omega) r hr h) (fun h => E.sep (2 * j) (2 * i + 1) (by omega) (by omega) (by omega) r hr h),
        g2.keep fun r o hr ho => hk r o ho (E.fresh _ (by omega) r hr).2.1 (fun h => E.sep (2 * j + 1) (2 * i) (by omega) (by omega) (by omega) r hr h) (fun h => E.sep (2 * j + 1) (2 * i + 1) (by omega) (by omega) (by omega) r hr h)⟩
  · simp only [hl] at hk'
    by_cases e1 : k = 2 * i
    · subst e1; exact fr r (.inl hr)
    · by_cases e2 : k = 2 * i + 1
      · subst e2; exact fr r (.inr hr)
      · rw [hs k e1 e2] at hr; exact E.fresh k hk' r hr
  · simp only [hl] at hj hk'
    by_cases j1 : j = 2 * i <;> by_cases j2 : j = 2 * i + 1 <;> by_cases k1 : k = 2 * i <;> by_cases k2 : k = 2 * i + 1
    all_goals first
      | (exfalso; omega)
      | (subst j1; subst k2; exact hd r hr)
      | (subst j2; subst k1; exact fun h => hd r h hr)
      | (subst j1; rw [hs k k1 k2]; exact fun h => (oth k hk' k1 k2 r h).1 hr)
      | (subst j2; rw [hs k k1 k2]; exact fun h => (oth k hk' k1 k2 r h).2 hr)
      | (subst k1; rw [hs j j1 j2] at hr; exact (oth j hj j1 j2 r hr).1)
      | (subst k2; rw [hs j j1 j2] at hr; exact (oth j hj j1 j2 r hr).2)
      | (rw [hs j j1 j2] at hr; rw [hs k k1 k2]; exact E.sep j k hj hk' hne r hr)
  · obtain ⟨o, ho⟩ := E.keep r hr
    refine ⟨o, hk r o ho (fun e => E.new.2 (e ▸ hr)) (fun h => ?_) (fun h => ?_)⟩
    · exact (E.fresh _ (by omega) r h).2.2 hr
    · exact (E.fresh _ (by omega) r h).2.2 hr
theorem Dw.vw {X : List Nat} {h0 h : Heap} {rN : Nat} {d : HDoc} {sl' : Nat → AVal} (E : Dw X h0 h rN d sl') : Vw h (.osl rN 6 0 d.nodes.length) (sl eNode d.nodes) := by
  refine Vw.osl0 E.nodes (by simp) (by rw [rowsA_len]; exact Nat.le_refl _) (fun f hf => by obtain ⟨x, _, rfl⟩ := List.mem_map.1 hf; rfl) ?_
  show F2 (F2 (Vw h)) ((rowsA d sl').take d.nodes.length) (d.nodes.map eNode)
  rw [List.take_of_length_le (by rw [rowsA_len]; exact Nat.le_refl _)]
  have key : ∀ (i : Nat), i < d.nodes.length → F2 (Vw h) (rowA (nth d.nodes i) (sl' (2 * i)) (sl' (2 * i + 1))) (eNode (nth d.nodes i)) := fun i hi => by
    obtain ⟨g1, g2⟩ := E.own i hi
    exact .cons (.refl _) (.cons (.refl _) (.cons g1.vw (.cons (.refl _) (.cons (.refl _) (.cons g2.vw .nil)))))
  have e : d.nodes.map eNode = (List.range d.nodes.length).map fun i => eNode (nth d.nodes i) := by
    apply List.ext_getElem?
    intro j
    by_cases hj : j < d.nodes.length
    · rw [List.getElem?_map, List.getElem?_map, List.getElem?_range hj, nth_some hj]; rfl
    · rw [List.getElem?_eq_none (by simp; omega), List.getElem?_eq_none (by simp; omega)]
  rw [e]
  unfold rowsA
  have gen : ∀ l : List Nat, (∀ i ∈ l, i < d.nodes.length) → F2 (F2 (Vw h)) (l.map fun i => rowA (nth d.nodes i) (sl' (2 * i)) (sl' (2 * i + 1))) (l.map fun i => eNode (nth d.nodes i)) := fun l => by
    induction l with
    | nil => intro _; exact .nil
    | cons i l ih => intro hl; exact .cons (key i (hl i List.mem_cons_self)) (ih fun j hj => hl j (List.mem_cons_of_mem _ hj))
  exact gen _ fun i hi => List.mem_range.1 hi
theorem Dw.other {X : List Nat} {h0 h : Heap} {rN : Nat} {d : HDoc} {sl : Nat → AVal} (E : Dw X h0 h rN d sl) {r : Nat} (hr : r ∈ X) (h0r : h0 r = none) (o : AObj) : Dw X h0 (upd h r (some o)) rN d sl := by
  have hne : rN ≠ r := fun e => E.new.2 (e ▸ hr)
  refine ⟨E.sub.upd h0r, by rw [upd_ne _ _ hne]; exact E.nodes, E.new, fun i hi => ?_, E.fresh, E.sep, fun t ht => ?_⟩
  · obtain ⟨g1, g2⟩ := E.own i hi
    exact ⟨g1.keep fun t ob ht ho => by rw [upd_ne _ _ (fun e => (E.fresh _ (by omega) t ht).2.2 (by rw [e]; exact hr))]; exact ho, g2.keep fun t ob ht ho => by rw [upd_ne _ _ (fun e => (E.fresh _ (by omega) t ht).2.2 (by rw [e]; exact hr))]; exact ho⟩
  · by_cases e : t = r
    · subst e; exact ⟨o, upd_same _ _ _⟩
    · rw [upd_ne _ _ e]; exact E.keep t ht
theorem Dw.less {X X' : List Nat} {h0 h : Heap} {rN : Nat} {d : HDoc} {sl : Nat → AVal} (E : Dw X h0 h rN d sl) (hx : ∀ r ∈ X', r ∈ X) : Dw X' h0 h rN d sl :=
  ⟨E.sub, E.nodes, ⟨E.new.1, fun h => E.new.2 (hx _ h)⟩, E.own, fun k hk r hr => ⟨(E.fresh k hk r hr).1, (E.fresh k hk r hr).2.1, fun h => (E.fresh k hk r hr).2.2 (hx _ h)⟩, E.sep, fun r hr => E.keep r (hx r hr)⟩
theorem Dw.more {X : List Nat} {h0 h : Heap} {rN : Nat} {d : HDoc} {sl : Nat → AVal} (E : Dw X h0 h rN d sl) {r : Nat} (hr : h r = none) (o : AObj) : Dw (r :: X) h0 (upd h r (some o)) rN d sl := by
  have hne : rN ≠ r := fun e => by have := E.nodes; rw [e, hr] at this; cases this
  have sn : ∀ k, k < 2 * d.nodes.length → ∀ t, rootOf (sl k) = some t → t ≠ r := fun k hk t ht e => by
    obtain ⟨o', ho⟩ := E.slot hk ht; rw [e, hr] at ho; cases ho
  refine ⟨E.sub.upd (E.sub.none hr), by rw [upd_ne _ _ hne]; exact E.nodes, ⟨E.new.1, fun h => ?_⟩, fun i hi => ?_, fun k hk t ht => ⟨(E.fresh k hk t ht).1, (E.fresh k hk t ht).2.1, fun h => ?_⟩, E.sep, fun t ht => ?_⟩
  · rcases List.mem_cons.1 h with h | h
    · exact hne h
    · exact E.new.2 h
  · obtain ⟨g1, g2⟩ := E.own i hi
    exact ⟨g1.keep fun t ob ht ho => by rw [upd_ne _ _ (sn _ (by omega) t ht)]; exact ho, g2.keep fun t ob ht ho => by rw [upd_ne _ _ (sn _ (by omega) t ht)]; exact ho⟩
  · rcases List.mem_cons.1 h with h | h
    · exact sn k hk t ht h
    · exact (E.fresh k hk t ht).2.2 h
  · by_cases e : t = r
    · subst e; exact ⟨o, upd_same _ _ _⟩
    · rw [upd_ne _ _ e]; exact E.keep t ((List.mem_cons.1 ht).resolve_left e)
theorem getD_set_same {es : List (List AVal)} {k : Nat} {x : List AVal} (hk : k < es.length) : (es.set k x).getD k [] = x := by
  rw [List.getD_eq_getElem?_getD, List.getElem?_set]; simp [hk]
theorem set_set_same {es : List (List AVal)} {k : Nat} {x y : List AVal} : (es.set k x).set k y = es.set k y := by simp
end Go.Proofs.K
end
section
set_option linter.unusedSimpArgs false
set_option linter.unusedVariables false
namespace Go.Proofs.K
open Go Go.Sim Go.Proofs
variable {G : Glob}
theorem Dw.cong {X : List Nat} {h0 h : Heap} {rN : Nat} {d d' : HDoc} {sl : Nat → AVal} (E : Dw X h0 h rN d sl) (h1 : d = d') : Dw X h0 h rN d' sl := h1 ▸ E
def c111 : SFun := ⟨.seq (.reg [⟨some 2, .mv (.c .emp), none⟩]) (.seq (.seq (.reg [⟨some 3, .mv (.t 0), none⟩, ⟨some 4, .isnil 0 false (.t 3), none⟩]) (.cond (.t 4) (.seq (.reg [⟨some 2, .mv (.c .emp), none⟩]) .ret) .skip)) (.seq (.reg [⟨some 5, .bldF 40 6 [], none⟩, ⟨some 6, .mv (.t 0), none⟩, ⟨some 7, .app 40 6 96 (.t 5) (.t 6), none⟩, ⟨some 2, .mv (.t 7), none⟩]) .ret)), [.tmp 2]⟩
theorem hc111 : toSF Tryz.prog {} Tryz.f111 = some c111 := by kernel_rfl
theorem hn111 : (Tryz.f111.name == "runtime.NumGoroutine") = false := by kernel_rfl
theorem cloneN_own {h : Heap} (l : List HNode) (hl : l.length ≤ 1073741824) : DCalls (Pg G) 111 [sl eNode l] h (AccK h 40 6 (l.map eNode)) := by
  refine dcalls_of_vc Tryz.func111 hn111 hc111 (by rw [Tryz.ntmps111]; simp) (by rw [Tryz.ntmps111]; decide) ?_
  simp -dsimp -implicitDefEqProofs (disch := omega) only [VCA, ↓reduceIte, reduceCtorEq, c111]
  intro b hb
  refine Br.intro (fun ht => ?_) (fun hf => ?_)
  · simp -dsimp -implicitDefEqProofs (disch := omega) only [VCA, ↓reduceIte]
    have : l = [] := hb (by simpa using ht)
    subst this
    exact ⟨_, Sub.refl _, Acc.nil, Sub.refl _⟩
  · simp -dsimp -implicitDefEqProofs (disch := omega) only [VCA, Nat.reduceEqDiff, ↓reduceIte, reduceCtorEq, okParts, exists_eq_left]
    refine ⟨by omega, by omega, fun r hr => ?_⟩
    exact ⟨_, Sub.refl _, by simpa using Acc.root (cells := l.map eNode) hr (upd_same _ _ _), (Sub.refl _).upd hr⟩
def c70 : SFun := ⟨.seq (.reg [⟨some 2, .mv (.c .emp), none⟩]) (.seq (.seq (.reg [⟨some 3, .mv (.t 0), none⟩, ⟨some 4, .isnil 0 false (.t 3), none⟩]) (.cond (.t 4) (.seq (.reg [⟨some 2, .mv (.c .emp), none⟩]) .ret) .skip)) (.seq (.reg [⟨some 5, .bldF 3 1 [], none⟩, ⟨some 6, .mv (.t 0), none⟩, ⟨some 7, .app 3 1 8 (.t 5) (.t 6), none⟩, ⟨some 2, .mv (.t 7), none⟩]) .ret)), [.tmp 2]⟩
theorem hc70 : toSF Tryz.prog {} Tryz.f70 = some c70 := by kernel_rfl
theorem hn70 : (Tryz.f70.name == "runtime.NumGoroutine") = false := by kernel_rfl
theorem cloneZ_own {h : Heap} (l : List Int) (hl : l.length ≤ 1073741824) : DCalls (Pg G) 70 [sl eInt l] h (AccK h 3 1 (l.map eInt)) := by
  refine dcalls_of_vc Tryz.func70 hn70 hc70 (by rw [Tryz.ntmps70]; simp) (by rw [Tryz.ntmps70]; decide) ?_
  simp -dsimp -implicitDefEqProofs (disch := omega) only [VCA, ↓reduceIte, reduceCtorEq, c70]
  intro b hb
  refine Br.intro (fun ht => ?_) (fun hf => ?_)
  · simp -dsimp -implicitDefEqProofs (disch := omega) only [VCA, ↓reduceIte]
    have : l = [] := hb (by simpa using ht)
    subst this
    exact ⟨_, Sub.refl _, Acc.nil, Sub.refl _⟩
  · simp -dsimp -implicitDefEqProofs (disch := omega) only [VCA, Nat.reduceEqDiff, ↓reduceIte, reduceCtorEq, okParts, exists_eq_left]
    refine ⟨by omega, by omega, fun r hr => ?_⟩
    exact ⟨_, Sub.refl _, by simpa using Acc.root (cells := l.map eInt) hr (upd_same _ _ _), (Sub.refl _).upd hr⟩
def c77 : SFun := ⟨.seq (.reg [⟨some 1, .boxF 24 2 (.t 0), none⟩, ⟨some 2, .new 24 2 [.emp, .bool false], none⟩]) (.seq (.dreg [(⟨some 6, .fldA 0 (.t 1), none⟩, none), (⟨some 7, .ld 1 false (.t 6), none⟩, none), (⟨some 9, .fldA 1 (.t 1), none⟩, none), (⟨some 10, .ld 1 false (.t 9), none⟩, none), (⟨some 8, .call (.c (.fn 111 [] [])) [.t 7], none⟩, (some [7])), (⟨some 11, .bld [.emp, .bool false] [(0, (1, (.t 8))), (1, (1, (.t 10)))], none⟩, none), (⟨some 3, .new 24 2 [.emp, .bool false], none⟩, (some [])), (⟨none, .st 2 (.t 3) (.t 11), none⟩, (some [10, 7]))]) (.seq (.seq (.reg [⟨some 12, .fldA 0 (.t 3), none⟩, ⟨some 13, .ld 1 false (.t 12), none⟩, ⟨some 14, .len (.t 13), none⟩, ⟨some 15, .mv (.c (.int .i64 0)), none⟩]) (.block 0 (.loop (.seq (.reg [⟨some 16, .bin .lss (.t 15) (.t 14), none⟩]) (.seq (.cond (.t 16) .skip (.exit 0)) (.seq (.block 1 (.seq (.reg [⟨some 17, .mv (.t 15), none⟩, ⟨some 4, .mv (.t 17), none⟩]) (.seq (.reg [⟨some 18, .fldA 0 (.t 3), none⟩, ⟨some 19, .ld 1 false (.t 18), none⟩, ⟨some 20, .mv (.t 4), none⟩, ⟨some 21, .idxA 6 (.t 19) (.t 20), none⟩, ⟨some 5, .mv (.t 21), none⟩]) (.dreg [(⟨some 22, .mv (.t 5), none⟩, none), (⟨some 23, .mv (.t 5), none⟩, none), (⟨some 24, .mv (.t 5), none⟩, none), (⟨some 25, .fldA 0 (.t 24), none⟩, none), (⟨some 26, .fldA 2 (.t 25), none⟩, none), (⟨some 27, .ld 1 false (.t 26), none⟩, none), (⟨some 29, .mv (.t 5), none⟩, none), (⟨some 30, .fldA 0 (.t 29), none⟩, none), (⟨some 31, .fldA 5 (.t 30), none⟩, none), (⟨some 32, .ld 1 false (.t 31), none⟩, none), (⟨some 28, .call (.c (.fn 69 [] [])) [.t 27], none⟩, (some [27])), (⟨some 33, .call (.c (.fn 70 [] [])) [.t 32], none⟩, (some [32, 27])), (⟨some 34, .fldA 0 (.t 22), none⟩, none), (⟨some 35, .fldA 2 (.t 34), none⟩, none), (⟨none, .st 1 (.t 35) (.t 28), none⟩, (some [32, 27])), (⟨some 36, .fldA 0 (.t 23), none⟩, none), (⟨some 37, .fldA 5 (.t 36), none⟩, none), (⟨none, .st 1 (.t 37) (.t 33), none⟩, (some [32, 27]))])))) (.reg [⟨some 38, .bin .add (.t 15) (.c (.int .i64 1)), none⟩, ⟨some 15, .mv (.t 38), none⟩]))))))) (.seq (.reg [⟨some 39, .ld 2 true (.t 3), none⟩, ⟨none, .st 2 (.t 2) (.t 39), none⟩]) .ret))), [.cell 2 2 true]⟩
theorem hc77 : toSF Tryz.prog {} Tryz.f77 = some c77 := by kernel_rfl
theorem hn77 : (Tryz.f77.name == "runtime.NumGoroutine") = false := by kernel_rfl
theorem own_ok' (d : HDoc) (sm : DocSm d) (hN : 0 < d.nodes.length) (h : Heap) : DCalls (Pg G) 77 [.agg (eDoc d)] h fun a h' => ∃ rN sl, a = .agg [.osl rN 6 0 d.nodes.length, .bool d.quirks] ∧ Dw [] h h' rN d sl ∧ ∀ k, k < 2 * d.nodes.length → Mut (sl k) := by
  have hl := sm.len
  refine dcalls_of_vc Tryz.func77 hn77 hc77 (by rw [Tryz.ntmps77]; simp) (by rw [Tryz.ntmps77]; decide) ?_
  simp -dsimp -implicitDefEqProofs (disch := omega) only [VCA, Nat.reduceEqDiff, Nat.reduceAdd, Nat.reduceLeDiff, ↓reduceIte, rsOf, rootsOf, rootL, c77, eDoc]
  intro r2 hr2
  refine DCalls.of (cloneN_own (G := G) d.nodes hl) ?_
  rintro a h1 ⟨A, S1⟩
  obtain ⟨rN, hn0, hn1, rfl⟩ := A.pos (by simpa using hN)
  rw [List.length_map]
  have n2N : ¬ rN = r2 := fun e => by rw [e] at hn0; simp [upd] at hn0
  have g2 : h1 r2 = some ⟨.t 24, 2, [[.emp, .bool false]]⟩ := S1 _ _ (upd_same _ _ _)
  simp -dsimp -implicitDefEqProofs (disch := omega) only [VCA, Nat.reduceEqDiff, Nat.reduceAdd, Nat.reduceLT, Nat.reduceLeDiff, ↓reduceIte, rsOf, rootsOf, SOp.rd, SI.rd, SX.rd, rdL, fillA, okFill, setAt, exists_eq_left', rootL]
  intro r3 hr3
  have n3N : ¬ rN = r3 := fun e => by rw [e, hr3] at hn1; cases hn1
  have n32 : ¬ r2 = r3 := fun e => by rw [e, hr3] at g2; cases g2
  have h0N : h rN = none := by rw [upd_ne _ _ n2N] at hn0; exact hn0
  have S01 : Sim.Sub h h1 := fun t o ht => S1 t o (by rw [upd_ne _ _ (fun e => by rw [e, hr2] at ht; cases ht)]; exact ht)
  have h03 : h r3 = none := S01.none hr3
  obtain ⟨sl0, hsl0⟩ : ∃ sl0 : Nat → AVal, ∀ i, sl0 (2 * i) = sl eAttr (nth d.nodes i).attrs ∧ sl0 (2 * i + 1) = sl eInt (nth d.nodes i).kids :=
    ⟨fun j => if j % 2 = 0 then sl eAttr (nth d.nodes (j / 2)).attrs else sl eInt (nth d.nodes (j / 2)).kids, fun i => by
      constructor
      · dsimp only; rw [if_pos (by omega), show 2 * i / 2 = i by omega]
      · dsimp only; rw [if_neg (by omega), show (2 * i + 1) / 2 = i by omega]⟩
  have rt : ∀ k r, rootOf (sl0 k) ≠ some r := fun k r => by
    rcases (by omega : k = 2 * (k / 2) ∨ k = 2 * (k / 2) + 1) with h | h
    · rw [h, (hsl0 _).1]; exact fun e => by cases e
    · rw [h, (hsl0 _).2]; exact fun e => by cases e
  have rows0 : rowsA d sl0 = d.nodes.map eNode := by
    apply List.ext_getElem?
    intro j
    unfold rowsA
    by_cases hj : j < d.nodes.length
    · rw [List.getElem?_map, List.getElem?_map, List.getElem?_range hj, nth_some hj, Option.map_some, Option.map_some, (hsl0 j).1, (hsl0 j).2]; rfl
    · rw [List.getElem?_eq_none (by simp; omega), List.getElem?_eq_none (by simp; omega)]
  have E0 : Dw [r2, r3] h (upd h1 r3 (some ⟨.t 24, 2, [[.osl rN 6 0 d.nodes.length, .bool d.quirks]]⟩)) rN d sl0 := by
    refine ⟨S01.upd h03, by rw [upd_ne _ _ n3N, hn1, rows0], ⟨h0N, by simp [n2N, n3N]⟩, fun i hi => ?_, fun k _ r hr => absurd hr (rt k r), fun j k _ _ _ r hr => absurd hr (rt j r), fun r hr => ?_⟩
    · rw [(hsl0 i).1, (hsl0 i).2]
      exact ⟨.inr (.inl ⟨rfl, fun e he => by obtain ⟨x, _, rfl⟩ := List.mem_map.1 he; rfl⟩), .inr (.inl ⟨rfl, fun e he => by obtain ⟨x, _, rfl⟩ := List.mem_map.1 he; rfl⟩)⟩
    · simp only [List.mem_cons, List.mem_nil_iff, or_false] at hr
      rcases hr with rfl | rfl
      · exact ⟨_, by rw [upd_ne _ _ n32]; exact g2⟩
      · exact ⟨_, upd_same _ _ _⟩
  refine LoopVC.intro (fun m e h' => ∃ (k : Nat) (sl' : Nat → AVal), k ≤ d.nodes.length ∧ m = d.nodes.length - k ∧ e 2 = .vp r2 0 ∧ e 3 = .vp r3 0 ∧ e 14 = aInt d.nodes.length ∧ e 15 = aInt k ∧ Dw [r2, r3] h h' rN d sl' ∧
    h' r2 = some ⟨.t 24, 2, [[.emp, .bool false]]⟩ ∧ h' r3 = some ⟨.t 24, 2, [[.osl rN 6 0 d.nodes.length, .bool d.quirks]]⟩ ∧ (∀ j, j < 2 * k → Mut (sl' j)) ∧ ∀ j, 2 * k ≤ j → sl' j = sl0 j) d.nodes.length
    ⟨0, sl0, by omega, by omega, rfl, rfl, rfl, rfl, E0, by rw [upd_ne _ _ n32]; exact g2, upd_same _ _ _, by omega, fun _ _ => rfl⟩ ?_
  clear E0 hn1 A g2 hr3 hn0 rt rows0
  rintro m e h' ⟨k, sl', hk, rfl, he2, he3, he14, he15, E, g2, g3, hm, hs⟩
  simp -dsimp -implicitDefEqProofs (disch := omega) only [VCA, ↓reduceIte, he14, he15]
  refine Br.dec (fun hlt => ?_) (fun hge => ?_)
  · have hk' : k < d.nodes.length := by omega
    have gN := E.nodes
    have gk := rowsA_get (sl := sl') hk'
    have rl := rowsA_len d sl'
    rw [hs (2 * k) (by omega), hs (2 * k + 1) (by omega), (hsl0 k).1, (hsl0 k).2] at gk
    unfold rowA at gk
    have smk := sm.nth k
    simp -dsimp -implicitDefEqProofs (disch := omega) only [VCA, Nat.reduceEqDiff, Nat.reduceAdd, Nat.reduceLT, Nat.reduceLeDiff, ↓reduceIte, rsOf, rootsOf, exists_eq_left', rootL, he3, he15, g3, gN, gk, rl]
    refine ⟨by omega, hk', hk', DCalls.of (cloneA_own (G := G) _ smk.attrs) ?_⟩
    rintro a h2 ⟨A1, T1⟩
    have gN2 := T1 _ _ gN
    simp -dsimp -implicitDefEqProofs (disch := omega) only [VCA, Nat.reduceEqDiff, Nat.reduceBEq, ↓reduceIte, SOp.rd, SI.rd, SX.rd, rdL, implies_true, gN, gN2]
    refine DCalls.of (cloneZ_own (G := G) _ smk.kids) ?_
    rintro a2 h3 ⟨A2, T2⟩
    have gN3 := T2 _ _ gN2
    obtain ⟨O1, f1, M1⟩ := OwnS.of_acc A1
    obtain ⟨O2, f2, M2⟩ := OwnS.of_acc A2
    obtain ⟨v1, c1⟩ := O1.isV
    obtain ⟨v2, c2⟩ := O2.isV
    simp -dsimp -implicitDefEqProofs (disch := omega) only [VCA, Nat.reduceEqDiff, Nat.reduceBEq, Nat.reduceAdd, Nat.reduceLeDiff, ↓reduceIte, rsOf, rootsOf, SOp.rd, SI.rd, SX.rd, rdL, setAt, implies_true, exists_eq_left', rootL, he2, he3, he14, he15, gN2, gN3, gk, rl, v1, c1, v2, c2, List.length_set, getD_set_same, set_set_same]
    have hki : (2 * k : Nat) ≠ 2 * k + 1 := by omega
    refine ⟨by omega, by omega, d.nodes.length - (k + 1), by omega, k + 1, upd (upd sl' (2 * k) a) (2 * k + 1) a2, by omega, rfl, by omega, ?_, ?_, ?_, ?_, ?_⟩
    · have u1 : upd (upd sl' (2 * k) a) (2 * k + 1) a2 (2 * k) = a := by rw [upd_ne _ _ hki, upd_same]
      have u2 : upd (upd sl' (2 * k) a) (2 * k + 1) a2 (2 * k + 1) = a2 := upd_same _ _ _
      have T : Sim.Sub h' h3 := T1.trans T2
      refine (E.put hk' (x' := nth d.nodes k) (fun j h1 h2 => by rw [upd_ne _ _ h2, upd_ne _ _ h1]) ?_ ?_ ?_ ?_ ?_ ?_).cong ?_
      · rw [u1, u2, upd_same]; rfl
      · intro r o ho hne _ _
        rw [upd_ne _ _ hne]
        exact T _ _ ho
      · rw [u1]
        exact O1.keep fun r o hr ho => by
          rw [upd_ne _ _ (fun e => by have := f1 r hr; rw [e, gN] at this; cases this)]
          exact T2 _ _ ho
      · rw [u2]
        exact O2.keep fun r o hr ho => by
          rw [upd_ne _ _ (fun e => by have := f2 r hr; rw [e, gN2] at this; cases this)]
          exact ho
      · rw [u1, u2]
        rintro r (hr | hr)
        · exact .inr (.inr (f1 r hr))
        · exact .inr (.inr (T1.none (f2 r hr)))
      · rw [u1, u2]
        intro r hr hr2
        obtain ⟨o, ho⟩ := O1.root hr
        have := f2 r hr2
        rw [ho] at this; cases this
      · have : d.nodes.set k (nth d.nodes k) = d.nodes := by
          apply List.ext_getElem?
          intro j
          rw [List.getElem?_set]
          split
          · rename_i h; subst h; first | (rw [if_pos hk', nth_some hk']) | (rw [nth_some hk'])
          · rfl
        rw [this]
    · rw [if_neg (fun e => n2N e.symm)]; exact (T1.trans T2) _ _ g2
    · rw [if_neg (fun e => n3N e.symm)]; exact (T1.trans T2) _ _ g3
    · intro j hj
      by_cases j1 : j = 2 * k + 1
      · subst j1; rw [upd_same]; exact M2
      · rw [upd_ne _ _ j1]
        by_cases j2 : j = 2 * k
        · subst j2; rw [upd_same]; exact M1
        · rw [upd_ne _ _ j2]; exact hm j (by omega)
    · intro j hj
      rw [upd_ne _ _ (by omega), upd_ne _ _ (by omega)]
      exact hs j (by omega)
  · simp -dsimp -implicitDefEqProofs (disch := omega) only [VCA, Nat.reduceEqDiff, Nat.reduceAdd, Nat.reduceLT, ↓reduceIte, setAt, exists_eq_left', he2, he3, g2, g3]
    obtain rfl : k = d.nodes.length := by omega
    exact ⟨_, Sub.refl _, rN, sl', rfl, (E.other (r := r2) (by simp) hr2 _).less (by simp), hm⟩
end Go.Proofs.K
end
section
set_option linter.unusedSimpArgs false
set_option linter.unusedVariables false
namespace Go.Proofs.K
open Go Go.Sim Go.Proofs
variable {G : Glob}
theorem DCalls.bor {P : PG} {f : Nat} {args args' : List AVal} {v : AVal} {h : Heap} (hp : PCalls P f args' v) (hs : Scal v) (hv : F2 (Vw h) args args') : DCalls P f args h fun r h' => r = v ∧ h' = h := hp.borrow hs hv.len hv.get
theorem OwnS.app {h : Heap} {ty sz b : Nat} {cells es2 : List (List AVal)} {a : AVal} (O : OwnS h ty sz cells a) (M : Mut a) (h1 : (cells.length + es2.length) * b ≤ 140737488355328) (h2 : cells.length + es2.length ≤ 140737488355328) {K : AVal → Heap → Prop}
    (hk : ∀ r' h'', h'' r' = some ⟨ty, sz, cells ++ es2⟩ → (rootOf a = some r' ∨ h r' = none) → (∀ r o, h r = some o → rootOf a ≠ some r → h'' r = some o) → K (.osl r' sz 0 (cells.length + es2.length)) h'') : Hd (appE ty sz b a es2 h) K .mk := by
  rcases O.live M with ⟨rfl, rfl⟩ | ⟨r, es, rfl, hr, hl, ht⟩
  · refine ⟨by simpa using h1, by simpa using h2, fun r hr => ?_⟩
    have := hk r (upd h r (some ⟨ty, sz, es2⟩)) (by simp) (.inr hr) (fun t o ho _ => by rw [upd_ne _ _ (fun e => by rw [e, hr] at ho; cases ho)]; exact ho)
    simpa using this
  · refine ⟨rfl, _, hr, rfl, by simpa using hl, h1, h2, fun r' hr' => ?_⟩
    have hr2 : r' = r ∨ h r' = none := by
      unfold del at hr'
      split at hr'
      · rename_i e; exact .inl e
      · exact .inr hr'
    refine hk r' _ (by simp [ht]) ?_ fun t o ho hne => ?_
    · rcases hr2 with e | e
      · left; rw [e]; rfl
      · exact .inr e
    · have e1 : t ≠ r := fun e => hne (by rw [e]; rfl)
      have e2 : t ≠ r' := fun e => by
        rcases hr2 with e3 | e3
        · exact e1 (e.trans e3)
        · rw [e, e3] at ho; cases ho
      rw [upd_ne _ _ e2]; unfold del; rw [if_neg e1]; exact ho
structure Ed (h0 h : Heap) (re rN : Nat) (d : HDoc) (sl : Nat → AVal) (made : Int) : Prop where
  dw : Dw [re] h0 h rN d sl
  ed : h re = some ⟨.t 118, 3, [[.osl rN 6 0 d.nodes.length, .bool d.quirks, aInt made]]⟩
  new : h0 re = none
  live : ∀ k, k < 2 * d.nodes.length → Mut (sl k)
def nodeP (rN : Nat) (d : HDoc) (n : Int) : AVal := if inD d n then .ptr rN n.toNat 0 else .prim (.pointer none)
def c180 : SFun := ⟨.seq (.reg [⟨some 4, .mv (.c (.prim (Value.pointer none))), none⟩]) (.seq (.seq (.reg [⟨some 5, .mv (.t 1), none⟩, ⟨some 6, .bin .lss (.t 5) (.c (.int .i64 0)), none⟩, ⟨some 7, .mv (.t 6), none⟩, ⟨some 8, .mv (.t 1), some (7, false)⟩, ⟨some 9, .mv (.t 0), some (7, false)⟩, ⟨some 10, .fldA 0 (.t 9), some (7, false)⟩, ⟨some 11, .fldA 0 (.t 10), some (7, false)⟩, ⟨some 12, .fldA 0 (.t 11), some (7, false)⟩, ⟨some 13, .ld 1 false (.t 12), some (7, false)⟩, ⟨some 14, .len (.t 13), some (7, false)⟩, ⟨some 15, .bin .geq (.t 8) (.t 14), some (7, false)⟩, ⟨some 16, .pick (.t 7) (.c (.bool true)) (.t 15), none⟩]) (.cond (.t 16) (.seq (.reg [⟨some 4, .mv (.c (.prim (Value.pointer none))), none⟩]) .ret) .skip)) (.seq (.reg [⟨some 17, .mv (.t 0), none⟩, ⟨some 18, .fldA 0 (.t 17), none⟩, ⟨some 19, .fldA 0 (.t 18), none⟩, ⟨some 20, .fldA 0 (.t 19), none⟩, ⟨some 21, .ld 1 false (.t 20), none⟩, ⟨some 22, .mv (.t 1), none⟩, ⟨some 23, .idxA 6 (.t 21) (.t 22), none⟩, ⟨some 4, .mv (.t 23), none⟩]) .ret)), [.tmp 4]⟩
theorem hc180 : toSF Tryz.prog {} Tryz.f180 = some c180 := by kernel_rfl
theorem hn180 : (Tryz.f180.name == "runtime.NumGoroutine") = false := by kernel_rfl
theorem enode_ok {h0 h : Heap} {re rN : Nat} {d : HDoc} {sl : Nat → AVal} {made : Int} (E : Ed h0 h re rN d sl made) (n : Int) : DCalls (Pg G) 180 [.vp re 0, aInt n] h fun r h' => r = nodeP rN d n ∧ h' = h := by
  have g := E.ed
  refine dcalls_of_vc Tryz.func180 hn180 hc180 (by rw [Tryz.ntmps180]; simp) (by rw [Tryz.ntmps180]; decide) ?_
  unfold nodeP
  by_cases hn : inD d n
  · have n0 := hn.1
    have n1 := hn.2
    rw [if_pos hn]
    simp -dsimp -implicitDefEqProofs (disch := omega) only [↓vcOps_sp 7, VCA, Nat.reduceEqDiff, ↓reduceIte, c180]
    repeat' (first | ((with_reducible refine brC (fun _ => ?_) fun _ => ?_) <;> try (exfalso; omega)) | (with_reducible refine And.intro ?_ ?_; · omega) | simp -dsimp -implicitDefEqProofs (disch := omega) only [VCA, Nat.reduceEqDiff, Nat.reduceAdd, Nat.reduceLT, Nat.reduceLeDiff, ↓reduceIte, reduceCtorEq, exists_eq_right, exists_eq_left', g])
    all_goals first | (exfalso; omega) | exact ⟨Sub.refl _, by simp⟩ | exact Sub.refl _
  · rw [if_neg hn]
    unfold inD at hn
    simp -dsimp -implicitDefEqProofs (disch := omega) only [↓vcOps_sp 7, VCA, Nat.reduceEqDiff, ↓reduceIte, c180]
    repeat' (first | ((with_reducible refine brC (fun _ => ?_) fun _ => ?_) <;> try (exfalso; omega)) | (with_reducible refine And.intro ?_ ?_; · omega) | simp -dsimp -implicitDefEqProofs (disch := omega) only [VCA, Nat.reduceEqDiff, Nat.reduceAdd, Nat.reduceLT, Nat.reduceLeDiff, ↓reduceIte, reduceCtorEq, exists_eq_right, exists_eq_left', g])
    all_goals first | (exfalso; omega) | exact Sub.refl _
def elemE (d : HDoc) (n : Int) : Int := if ¬ inD d n then 5 else if (nd d n).kind ≠ 2 then 7 else 0
def c178 : SFun := ⟨.seq (.reg [⟨some 4, .mv (.c (.prim (Value.pointer none))), none⟩, ⟨some 5, .mv (.c (.int .i64 0)), none⟩]) (.seq (.reg [⟨some 7, .mv (.t 0), none⟩, ⟨some 8, .mv (.t 1), none⟩, ⟨some 9, .call (.c (.fn 180 [] [])) [.t 7, .t 8], none⟩, ⟨some 6, .mv (.t 9), none⟩]) (.seq (.block 0 (.seq (.reg [⟨some 11, .mv (.t 6), none⟩, ⟨some 12, .isnil 1 false (.t 11), none⟩, ⟨some 10, .mv (.t 12), none⟩]) (.cond (.t 10) (.seq (.reg [⟨some 4, .mv (.c (.prim (Value.pointer none))), none⟩, ⟨some 5, .mv (.c (.int .i64 5)), none⟩]) .ret) (.seq (.reg [⟨some 14, .mv (.t 6), none⟩, ⟨some 15, .fldA 0 (.t 14), none⟩, ⟨some 16, .fldA 0 (.t 15), none⟩, ⟨some 17, .ld 1 false (.t 16), none⟩, ⟨some 18, .bin .neq (.t 17) (.c (.int .i64 2)), none⟩, ⟨some 13, .mv (.t 18), none⟩]) (.cond (.t 13) (.seq (.reg [⟨some 4, .mv (.c (.prim (Value.pointer none))), none⟩, ⟨some 5, .mv (.c (.int .i64 7)), none⟩]) .ret) .skip))))) (.seq (.reg [⟨some 19, .mv (.t 6), none⟩, ⟨some 4, .mv (.t 19), none⟩, ⟨some 5, .mv (.c (.int .i64 0)), none⟩]) .ret))), [.tmp 4, .tmp 5]⟩
theorem hc178 : toSF Tryz.prog {} Tryz.f178 = some c178 := by kernel_rfl
theorem hn178 : (Tryz.f178.name == "runtime.NumGoroutine") = false := by kernel_rfl
theorem element_ok {h0 h : Heap} {re rN : Nat} {d : HDoc} {sl : Nat → AVal} {made : Int} (E : Ed h0 h re rN d sl made) (n : Int) : DCalls (Pg G) 178 [.vp re 0, aInt n] h fun r h' => r = .tup [if elemE d n = 0 then .ptr rN n.toNat 0 else .prim (.pointer none), aInt (elemE d n)] ∧ h' = h := by
  have gN := E.dw.nodes
  have hE := enode_ok (G := G) E n
  unfold nodeP at hE
  refine dcalls_of_vc Tryz.func178 hn178 hc178 (by rw [Tryz.ntmps178]; simp) (by rw [Tryz.ntmps178]; decide) ?_
  simp -dsimp -implicitDefEqProofs (disch := omega) only [VCA, Nat.reduceEqDiff, ↓reduceIte, reduceCtorEq, c178]
  by_cases hn : inD d n
  · rw [if_pos hn] at hE
    have hn' := hn.nat.1
    have gk := rowsA_get (sl := sl) hn'
    have rl := rowsA_len d sl
    have e0 : nth d.nodes n.toNat = nd d n := rfl
    unfold rowA at gk
    have eE : elemE d n = if (nd d n).kind ≠ 2 then 7 else 0 := by unfold elemE; rw [if_neg (by simpa using hn)]
    refine DCalls.of hE ?_
    rintro _ _ ⟨rfl, rfl⟩
    rw [eE]
    repeat' (first | ((with_reducible refine brC (fun _ => ?_) fun _ => ?_) <;> try (exfalso; omega)) | (with_reducible refine And.intro ?_ ?_; · omega) | simp -dsimp -implicitDefEqProofs (disch := omega) only [VCA, Nat.reduceEqDiff, Nat.reduceAdd, Nat.reduceLeDiff, ↓reduceIte, ne_eq, exists_eq_right_right, exists_eq_left', gN, gk, rl, e0])
    all_goals first | (refine ⟨Sub.refl _, ?_⟩; simp [*]; done) | trace_state
  · rw [if_neg hn] at hE
    have eE : elemE d n = 5 := by unfold elemE; rw [if_pos hn]
    refine DCalls.of hE ?_
    rintro _ _ ⟨rfl, rfl⟩
    rw [eE]
    repeat' (first | ((with_reducible refine brC (fun _ => ?_) fun _ => ?_) <;> try (exfalso; omega)) | (with_reducible refine And.intro ?_ ?_; · omega) | simp -dsimp -implicitDefEqProofs (disch := omega) only [VCA, Nat.reduceEqDiff, ↓reduceIte, exists_eq_right_right])
    all_goals first | exact Sub.refl _ | exact ⟨Sub.refl _, rfl⟩ | trace_state
end Go.Proofs.K
end
section
set_option linter.unusedSimpArgs false
set_option linter.unusedVariables false
namespace Go.Proofs.K
open Go Go.Sim Go.Proofs
variable {G : Glob}
def EdR (h0 h : Heap) (re : Nat) (d : HDoc) (e : HEdit) (made : Int) (r : AVal) (h' : Heap) : Prop :=
  r = aInt (editE d e) ∧ ((editE d e ≠ 0 ∧ h' = h) ∨ (editE d e = 0 ∧ ∃ rN' sl', Ed h0 h' re rN' (editD d e) sl' (if e.do' = 4 then (d.nodes.length : Int) else made)))
theorem EdR.bad {h0 h : Heap} {re : Nat} {d : HDoc} {e : HEdit} {made v : Int} (h1 : editE d e = v) (h2 : v ≠ 0) : EdR h0 h re d e made (aInt v) h := ⟨by rw [h1], .inl ⟨by rw [h1]; exact h2, rfl⟩⟩
theorem EdR.good {h0 h h' : Heap} {re rN' : Nat} {d : HDoc} {sl' : Nat → AVal} {e : HEdit} {made m : Int} (h1 : editE d e = 0) (hm : m = if e.do' = 4 then (d.nodes.length : Int) else made) (E : Ed h0 h' re rN' (editD d e) sl' m) : EdR h0 h re d e made (aInt 0) h' :=
  ⟨by rw [h1], .inr ⟨h1, rN', sl', hm ▸ E⟩⟩
section
variable {h0 h : Heap} {re rN : Nat} {d : HDoc} {sl : Nat → AVal} {made : Int}
theorem Ed.ne (E : Ed h0 h re rN d sl made) : re ≠ rN := fun e => E.dw.new.2 (by simp [e])
theorem Ed.put (E : Ed h0 h re rN d sl made) {h2 : Heap} {sl' : Nat → AVal} {i : Nat} (hi : i < d.nodes.length) {x' : HNode}
    (hs : ∀ j, j ≠ 2 * i → j ≠ 2 * i + 1 → sl' j = sl j)
    (hN : h2 rN = some ⟨.t 40, 6, (rowsA d sl).set i (rowA x' (sl' (2 * i)) (sl' (2 * i + 1)))⟩)
    (hk : ∀ r o, h r = some o → r ≠ rN → rootOf (sl (2 * i)) ≠ some r → rootOf (sl (2 * i + 1)) ≠ some r → h2 r = some o)
    (hA : OwnS h2 96 2 (x'.attrs.map eAttr) (sl' (2 * i))) (hK : OwnS h2 3 1 (x'.kids.map eInt) (sl' (2 * i + 1)))
    (hf : ∀ r, rootOf (sl' (2 * i)) = some r ∨ rootOf (sl' (2 * i + 1)) = some r → rootOf (sl (2 * i)) = some r ∨ rootOf (sl (2 * i + 1)) = some r ∨ h r = none)
    (hd : ∀ r, rootOf (sl' (2 * i)) = some r → rootOf (sl' (2 * i + 1)) ≠ some r)
    (hm : Mut (sl' (2 * i)) ∧ Mut (sl' (2 * i + 1))) : Ed h0 h2 re rN ⟨d.nodes.set i x', d.quirks⟩ sl' made := by
  have hl : (d.nodes.set i x').length = d.nodes.length := by simp
  refine ⟨E.dw.put hi hs hN hk hA hK hf hd, ?_, E.new, fun k hk' => ?_⟩
  · show h2 re = some ⟨_, 3, [[.osl rN 6 0 (d.nodes.set i x').length, _, _]]⟩
    rw [hl]
    refine hk re _ E.ed E.ne (fun h => (E.dw.fresh _ (by omega) re h).2.2 (by simp)) (fun h => (E.dw.fresh _ (by omega) re h).2.2 (by simp))
  · simp only [hl] at hk'
    by_cases e1 : k = 2 * i
    · rw [e1]; exact hm.1
    · by_cases e2 : k = 2 * i + 1
      · rw [e2]; exact hm.2
      · rw [hs k e1 e2]; exact E.live k hk'
theorem Ed.cells (E : Ed h0 h re rN d sl made) {i : Nat} (hi : i < d.nodes.length) {x' : HNode} (hA : x'.attrs = (nth d.nodes i).attrs) (hK : x'.kids = (nth d.nodes i).kids) :
    Ed h0 (upd h rN (some ⟨.t 40, 6, (rowsA d sl).set i (rowA x' (sl (2 * i)) (sl (2 * i + 1)))⟩)) re rN ⟨d.nodes.set i x', d.quirks⟩ sl made := by
  obtain ⟨g1, g2⟩ := E.dw.own i hi
  have k1 : ∀ k, k < 2 * d.nodes.length → ∀ r, rootOf (sl k) = some r → r ≠ rN := fun k hk r hr => (E.dw.fresh k hk r hr).2.1
  refine E.put hi (fun _ _ _ => rfl) (upd_same _ _ _) (fun r o ho hne _ _ => by rw [upd_ne _ _ hne]; exact ho) ?_ ?_ (fun r hr => by rcases hr with h | h; exact .inl h; exact .inr (.inl h)) (fun r hr => E.dw.sep _ _ (by omega) (by omega) (by omega) r hr) ⟨E.live _ (by omega), E.live _ (by omega)⟩
  · rw [hA]; exact g1.keep fun r o hr ho => by rw [upd_ne _ _ (k1 _ (by omega) r hr)]; exact ho
  · rw [hK]; exact g2.keep fun r o hr ho => by rw [upd_ne _ _ (k1 _ (by omega) r hr)]; exact ho
end
def c147 : SFun := ⟨.seq (.reg [⟨some 3, .boxF 42 12 (.t 1), none⟩, ⟨some 4, .mv (.c (.int .i64 0)), none⟩]) (.seq (.reg [⟨some 6, .mv (.t 0), none⟩, ⟨some 7, .fldA 1 (.t 3), none⟩, ⟨some 8, .ld 1 false (.t 7), none⟩, ⟨some 9, .call (.c (.fn 180 [] [])) [.t 6, .t 8], none⟩, ⟨some 5, .mv (.t 9), none⟩]) (.seq (.block 0 (.seq (.reg [⟨some 11, .mv (.t 5), none⟩, ⟨some 12, .isnil 1 false (.t 11), none⟩, ⟨some 10, .mv (.t 12), none⟩]) (.cond (.t 10) (.seq (.reg [⟨some 4, .mv (.c (.int .i64 5)), none⟩]) .ret) (.seq (.reg [⟨some 14, .mv (.t 5), none⟩, ⟨some 15, .fldA 0 (.t 14), none⟩, ⟨some 16, .fldA 0 (.t 15), none⟩, ⟨some 17, .ld 1 false (.t 16), none⟩, ⟨some 18, .bin .neq (.t 17) (.c (.int .i64 3)), none⟩, ⟨some 19, .mv (.t 18), none⟩, ⟨some 20, .mv (.t 5), some (19, true)⟩, ⟨some 21, .fldA 0 (.t 20), some (19, true)⟩, ⟨some 22, .fldA 0 (.t 21), some (19, true)⟩, ⟨some 23, .ld 1 false (.t 22), some (19, true)⟩, ⟨some 24, .bin .neq (.t 23) (.c (.int .i64 4)), some (19, true)⟩, ⟨some 25, .pick (.t 19) (.t 24) (.c (.bool false)), none⟩, ⟨some 13, .mv (.t 25), none⟩]) (.cond (.t 13) (.seq (.reg [⟨some 4, .mv (.c (.int .i64 7)), none⟩]) .ret) (.seq (.reg [⟨some 27, .fldA 5 (.t 3), none⟩, ⟨some 28, .ld 1 false (.t 27), none⟩, ⟨some 29, .lenS (.t 28), none⟩, ⟨some 30, .bin .gtr (.t 29) (.c (.int .i64 400)), none⟩, ⟨some 26, .mv (.t 30), none⟩]) (.cond (.t 26) (.seq (.reg [⟨some 4, .mv (.c (.int .i64 2)), none⟩]) .ret) .skip))))))) (.seq (.reg [⟨some 31, .mv (.t 5), none⟩, ⟨some 32, .fldA 5 (.t 3), none⟩, ⟨some 33, .ld 1 false (.t 32), none⟩, ⟨some 34, .fldA 0 (.t 31), none⟩, ⟨some 35, .fldA 3 (.t 34), none⟩, ⟨none, .st 1 (.t 35) (.t 33), none⟩]) (.seq (.reg [⟨some 4, .mv (.c (.int .i64 0)), none⟩]) .ret)))), [.tmp 4]⟩
theorem hc147 : toSF Tryz.prog {} Tryz.f147 = some c147 := by kernel_rfl
theorem hn147 : (Tryz.f147.name == "runtime.NumGoroutine") = false := by kernel_rfl
theorem etext_ok {h0 h : Heap} {re rN : Nat} {d : HDoc} {sl : Nat → AVal} {made : Int} (E : Ed h0 h re rN d sl made) (e : HEdit) (he : EditSm e) (hdo : e.do' = 3) : DCalls (Pg G) 147 [.vp re 0, .agg (eEdit e)] h (EdR h0 h re d e made) := by
  have gN := E.dw.nodes
  have hE := enode_ok (G := G) E e.at'
  have vl := he.value
  unfold nodeP at hE
  have eE : editE d e = if ¬ inD d e.at' then 5 else if (nd d e.at').kind ≠ 3 ∧ (nd d e.at').kind ≠ 4 then 7 else if 400 < e.value.length then 2 else 0 := by unfold editE; rw [if_neg (by omega), if_neg (by omega), if_pos hdo]
  have eD : editD d e = setN d e.at' { nd d e.at' with text := e.value } := by unfold editD; rw [if_neg (by omega), if_neg (by omega), if_pos hdo]
  have hm4 : made = if e.do' = 4 then (d.nodes.length : Int) else made := by rw [if_neg (by omega)]
  refine dcalls_of_vc Tryz.func147 hn147 hc147 (by rw [Tryz.ntmps147]; simp) (by rw [Tryz.ntmps147]; decide) ?_
  simp -dsimp -implicitDefEqProofs (disch := omega) only [VCA, Nat.reduceEqDiff, Nat.reduceAdd, Nat.reduceLeDiff, ↓reduceIte, reduceCtorEq, c147, eEdit]
  by_cases hn : inD d e.at'
  · rw [if_pos hn] at hE
    have hn' := hn.nat.1
    have gk := rowsA_get (sl := sl) hn'
    have rl := rowsA_len d sl
    have e0 : nth d.nodes e.at'.toNat = nd d e.at' := rfl
    rw [e0] at gk
    have Ec := E.cells hn' (x' := { nd d e.at' with text := e.value }) rfl rfl
    unfold rowA at gk
    rw [if_neg (by simpa using hn)] at eE
    refine DCalls.of hE ?_
    rintro _ _ ⟨rfl, rfl⟩
    by_cases hk : (nd d e.at').kind ≠ 3 ∧ (nd d e.at').kind ≠ 4
    · rw [if_pos hk] at eE
      repeat' (first | ((with_reducible refine brC (fun _ => ?_) fun _ => ?_) <;> try (exfalso; omega)) | (with_reducible refine And.intro ?_ ?_; · omega) | simp -dsimp -implicitDefEqProofs (disch := omega) only [↓vcOps_sp 19, VCA, Nat.reduceEqDiff, Nat.reduceAdd, Nat.reduceLeDiff, ↓reduceIte, exists_eq_left', gN, gk, rl])
      all_goals first | (exfalso; omega) | exact ⟨_, Sub.refl _, EdR.bad eE (by decide)⟩
    · rw [if_neg hk] at eE
      by_cases hv : 400 < e.value.length
      · rw [if_pos hv] at eE
        repeat' (first | ((with_reducible refine brC (fun _ => ?_) fun _ => ?_) <;> try (exfalso; omega)) | (with_reducible refine And.intro ?_ ?_; · omega) | simp -dsimp -implicitDefEqProofs (disch := omega) only [↓vcOps_sp 19, VCA, Nat.reduceEqDiff, Nat.reduceAdd, Nat.reduceLeDiff, ↓reduceIte, exists_eq_left', gN, gk, rl])
        all_goals first | (exfalso; omega) | exact ⟨_, Sub.refl _, EdR.bad eE (by decide)⟩
      · rw [if_neg hv] at eE
        repeat' (first | ((with_reducible refine brC (fun _ => ?_) fun _ => ?_) <;> try (exfalso; omega)) | (with_reducible refine And.intro ?_ ?_; · omega) | simp -dsimp -implicitDefEqProofs (disch := omega) only [↓vcOps_sp 19, VCA, Nat.reduceEqDiff, Nat.reduceAdd, Nat.reduceLeDiff, ↓reduceIte, setAt, exists_eq_left', gN, gk, rl])
        all_goals first | (exfalso; omega) | exact ⟨_, Sub.refl _, EdR.good eE hm4 (by rw [eD]; exact Ec)⟩
  · rw [if_neg hn] at hE
    rw [if_pos hn] at eE
    refine DCalls.of hE ?_
    rintro _ _ ⟨rfl, rfl⟩
    repeat' (first | ((with_reducible refine brC (fun _ => ?_) fun _ => ?_) <;> try (exfalso; omega)) | (with_reducible refine And.intro ?_ ?_; · omega) | simp -dsimp -implicitDefEqProofs (disch := omega) only [VCA, ↓reduceIte])
    all_goals exact ⟨_, Sub.refl _, EdR.bad eE (by decide)⟩
end Go.Proofs.K
end
section
set_option linter.unusedSimpArgs false
set_option linter.unusedVariables false
namespace Go.Proofs.K
open Go Go.Sim Go.Proofs
variable {G : Glob}
def c179 : SFun := ⟨.seq (.reg [⟨some 6, .mv (.c .emp), none⟩]) (.seq (.reg [⟨some 8, .mv (.t 0), none⟩, ⟨some 9, .mv (.t 1), none⟩, ⟨some 10, .mv (.t 2), none⟩, ⟨some 11, .mv (.t 0), none⟩, ⟨some 12, .len (.t 11), none⟩, ⟨some 13, .slM 2 (.t 8) (some (.t 9)) (some (.t 10)) (some (.t 12)), none⟩]) (.seq (.seq (.reg [⟨some 14, .mv (.t 1), none⟩, ⟨some 15, .mv (.t 2), none⟩, ⟨some 16, .bin .eql (.t 14) (.t 15), none⟩]) (.cond (.t 16) (.seq (.reg [⟨some 17, .mv (.t 0), none⟩, ⟨some 6, .mv (.t 17), none⟩]) .ret) .skip)) (.seq (.reg [⟨some 18, .mv (.t 0), none⟩, ⟨some 19, .len (.t 18), none⟩, ⟨some 7, .mv (.t 19), none⟩]) (.seq (.dreg [(⟨some 20, .mv (.t 0), none⟩, none), (⟨some 21, .mv (.t 1), none⟩, none), (⟨some 22, .slA 2 (.t 20) none (some (.t 21)), none⟩, none), (⟨some 23, .mv (.t 0), none⟩, none), (⟨some 24, .mv (.t 2), none⟩, none), (⟨some 25, .slA 2 (.t 23) (some (.t 24)) none, none⟩, none), (⟨some 26, .appIn 96 2 (.t 22) (.t 25), none⟩, (some [])), (⟨some 0, .mv (.t 26), none⟩, (some []))]) (.seq (.reg [⟨some 27, .mv (.t 0), none⟩, ⟨some 28, .mv (.t 0), none⟩, ⟨some 29, .len (.t 28), none⟩, ⟨some 30, .mv (.t 7), none⟩, ⟨some 31, .slX 2 (.t 27) (some (.t 29)) (some (.t 30)), none⟩, ⟨none, .clear 2 [.str [], .str []] (.t 31), none⟩]) (.seq (.reg [⟨some 32, .mv (.t 0), none⟩, ⟨some 6, .mv (.t 32), none⟩]) .ret)))))), [.tmp 6]⟩
theorem hc179 : toSF Tryz.prog {how := [(26, 3), (31, 4)]} Tryz.f179 = some c179 := by kernel_rfl
theorem hn179 : (Tryz.f179.name == "runtime.NumGoroutine") = false := by kernel_rfl
theorem deleteA_ok {h : Heap} {r n i j : Nat} {es : List (List AVal)} (hr : h r = some ⟨.t 96, 2, es⟩) (hn : n ≤ es.length) (hij : i < j) (hj : j ≤ n) (hl : n ≤ 1073741824) :
    DCalls (Pg G) 179 [.osl r 2 0 n, aInt i, aInt j] h fun a h' => a = .osl r 2 0 (n - (j - i)) ∧ ∃ es', h' = upd h r (some ⟨.t 96, 2, es'⟩) ∧ n - (j - i) ≤ es'.length ∧ es'.take (n - (j - i)) = es.take i ++ (es.take n).drop j := by
  refine dcalls_of_vc Tryz.func179 hn179 hc179 (by rw [Tryz.ntmps179]; simp) (by rw [Tryz.ntmps179]; decide) ?_
  simp -dsimp -implicitDefEqProofs (disch := omega) only [VCA, Nat.reduceEqDiff, ↓reduceIte, reduceCtorEq, c179]
  refine ⟨by omega, Br.eq (fun h1 => by omega) (fun h1 => ?_)⟩
  simp -dsimp -implicitDefEqProofs (disch := omega) only [VCA, Nat.reduceEqDiff, ↓reduceIte, reduceCtorEq, rsOf, rootsOf, SOp.rd, SI.rd, SX.rd, exists_eq_left', rootL, hr]
  have hL : (List.take (n - j) (List.drop j es)).length = n - j := by simp; omega
  have hT : (List.take i es).length = i := by simp; omega
  rw [hL]
  have e1 : i + (n - j) = n - (j - i) := by omega
  refine ⟨by omega, by omega, by omega, by omega, by omega, by omega, by simp; omega, by simp; omega, _, Sub.refl _, by rw [e1], _, rfl, ?_, ?_⟩
  · simp; omega
  · rw [← e1]
    have e2 : (List.take i es ++ List.take (n - j) (List.drop j es)).length = i + (n - j) := by rw [List.length_append, hT, hL]
    rw [List.take_append_of_le_length (by simp; omega), List.take_append_of_le_length (by rw [List.length_take, List.length_append, e2]; omega), List.take_take, Nat.min_eq_left (by omega), List.take_append_of_le_length (by omega), List.take_of_length_le (by omega), List.drop_take]
def c116 : SFun := ⟨.seq (.reg [⟨some 6, .mv (.c .emp), none⟩]) (.seq (.reg [⟨some 8, .mv (.t 0), none⟩, ⟨some 9, .mv (.t 1), none⟩, ⟨some 10, .mv (.t 2), none⟩, ⟨some 11, .mv (.t 0), none⟩, ⟨some 12, .len (.t 11), none⟩, ⟨some 13, .slM 1 (.t 8) (some (.t 9)) (some (.t 10)) (some (.t 12)), none⟩]) (.seq (.seq (.reg [⟨some 14, .mv (.t 1), none⟩, ⟨some 15, .mv (.t 2), none⟩, ⟨some 16, .bin .eql (.t 14) (.t 15), none⟩]) (.cond (.t 16) (.seq (.reg [⟨some 17, .mv (.t 0), none⟩, ⟨some 6, .mv (.t 17), none⟩]) .ret) .skip)) (.seq (.reg [⟨some 18, .mv (.t 0), none⟩, ⟨some 19, .len (.t 18), none⟩, ⟨some 7, .mv (.t 19), none⟩]) (.seq (.dreg [(⟨some 20, .mv (.t 0), none⟩, none), (⟨some 21, .mv (.t 1), none⟩, none), (⟨some 22, .slA 1 (.t 20) none (some (.t 21)), none⟩, none), (⟨some 23, .mv (.t 0), none⟩, none), (⟨some 24, .mv (.t 2), none⟩, none), (⟨some 25, .slA 1 (.t 23) (some (.t 24)) none, none⟩, none), (⟨some 26, .appIn 3 1 (.t 22) (.t 25), none⟩, (some [])), (⟨some 0, .mv (.t 26), none⟩, (some []))]) (.seq (.reg [⟨some 27, .mv (.t 0), none⟩, ⟨some 28, .mv (.t 0), none⟩, ⟨some 29, .len (.t 28), none⟩, ⟨some 30, .mv (.t 7), none⟩, ⟨some 31, .slX 1 (.t 27) (some (.t 29)) (some (.t 30)), none⟩, ⟨none, .clear 1 [.int .i64 0] (.t 31), none⟩]) (.seq (.reg [⟨some 32, .mv (.t 0), none⟩, ⟨some 6, .mv (.t 32), none⟩]) .ret)))))), [.tmp 6]⟩
theorem hc116 : toSF Tryz.prog {how := [(26, 3), (31, 4)]} Tryz.f116 = some c116 := by kernel_rfl
theorem hn116 : (Tryz.f116.name == "runtime.NumGoroutine") = false := by kernel_rfl
theorem deleteZ_ok {h : Heap} {r n i j : Nat} {es : List (List AVal)} (hr : h r = some ⟨.t 3, 1, es⟩) (hn : n ≤ es.length) (hij : i < j) (hj : j ≤ n) (hl : n ≤ 1073741824) :
    DCalls (Pg G) 116 [.osl r 1 0 n, aInt i, aInt j] h fun a h' => a = .osl r 1 0 (n - (j - i)) ∧ ∃ es', h' = upd h r (some ⟨.t 3, 1, es'⟩) ∧ n - (j - i) ≤ es'.length ∧ es'.take (n - (j - i)) = es.take i ++ (es.take n).drop j := by
  refine dcalls_of_vc Tryz.func116 hn116 hc116 (by rw [Tryz.ntmps116]; simp) (by rw [Tryz.ntmps116]; decide) ?_
  simp -dsimp -implicitDefEqProofs (disch := omega) only [VCA, Nat.reduceEqDiff, ↓reduceIte, reduceCtorEq, c116]
  refine ⟨by omega, Br.eq (fun h1 => by omega) (fun h1 => ?_)⟩
  simp -dsimp -implicitDefEqProofs (disch := omega) only [VCA, Nat.reduceEqDiff, ↓reduceIte, reduceCtorEq, rsOf, rootsOf, SOp.rd, SI.rd, SX.rd, exists_eq_left', rootL, hr]
  have hL : (List.take (n - j) (List.drop j es)).length = n - j := by simp; omega
  have hT : (List.take i es).length = i := by simp; omega
  rw [hL]
  have e1 : i + (n - j) = n - (j - i) := by omega
  refine ⟨by omega, by omega, by omega, by omega, by omega, by omega, by simp; omega, by simp; omega, _, Sub.refl _, by rw [e1], _, rfl, ?_, ?_⟩
  · simp; omega
  · rw [← e1]
    have e2 : (List.take i es ++ List.take (n - j) (List.drop j es)).length = i + (n - j) := by rw [List.length_append, hT, hL]
    rw [List.take_append_of_le_length (by simp; omega), List.take_append_of_le_length (by rw [List.length_take, List.length_append, e2]; omega), List.take_take, Nat.min_eq_left (by omega), List.take_append_of_le_length (by omega), List.take_of_length_le (by omega), List.drop_take]
section
variable {h0 h : Heap} {re rN : Nat} {d : HDoc} {sl : Nat → AVal} {made : Int}
theorem Ed.root_ne (E : Ed h0 h re rN d sl made) {k : Nat} (hk : k < 2 * d.nodes.length) {r : Nat} (hr : rootOf (sl k) = some r) : r ≠ rN ∧ r ≠ re := ⟨(E.dw.fresh k hk r hr).2.1, fun e => (E.dw.fresh k hk r hr).2.2 (by simp [e])⟩
theorem Ed.slotA (E : Ed h0 h re rN d sl made) {i : Nat} (hi : i < d.nodes.length) {h1 : Heap} {a' : AVal} {l' : List HAttr} (kp : ∀ r o, h r = some o → rootOf (sl (2 * i)) ≠ some r → h1 r = some o)
    (O : OwnS h1 96 2 (l'.map eAttr) a') (M : Mut a') (fr : ∀ r, rootOf a' = some r → rootOf (sl (2 * i)) = some r ∨ h r = none) :
    Ed h0 (upd h1 rN (some ⟨.t 40, 6, (rowsA d sl).set i (rowA { nth d.nodes i with attrs := l' } a' (sl (2 * i + 1)))⟩)) re rN ⟨d.nodes.set i { nth d.nodes i with attrs := l' }, d.quirks⟩ (upd sl (2 * i) a') made := by
  have e1 : upd sl (2 * i) a' (2 * i) = a' := upd_same _ _ _
  have e2 : upd sl (2 * i) a' (2 * i + 1) = sl (2 * i + 1) := upd_ne _ _ (by omega)
  obtain ⟨g1, g2⟩ := E.dw.own i hi
  have fN : ∀ r, rootOf a' = some r → r ≠ rN := fun r hr e => by
    rcases fr r hr with h | h
    · exact (E.root_ne (by omega) h).1 e
    · rw [e, E.dw.nodes] at h; cases h
  refine E.put hi (fun j h1 _ => upd_ne _ _ h1) (by rw [e1, e2, upd_same]) (fun r o ho hne h2 _ => by rw [upd_ne _ _ hne]; exact kp r o ho h2) ?_ ?_ ?_ ?_ ?_
  · rw [e1]; exact O.keep fun r o hr ho => by rw [upd_ne _ _ (fN r hr)]; exact ho
  · rw [e2]; exact g2.keep fun r o hr ho => by
      rw [upd_ne _ _ (E.root_ne (by omega) hr).1]
      exact kp r o ho fun h => E.dw.sep _ _ (by omega) (by omega) (by omega) r h hr
  · rw [e1, e2]
    rintro r (hr | hr)
    · rcases fr r hr with h | h
      · exact .inl h
      · exact .inr (.inr h)
    · exact .inr (.inl hr)
  · rw [e1, e2]
    intro r hr hr2
    rcases fr r hr with h | h
    · exact E.dw.sep _ _ (by omega) (by omega) (by omega) r h hr2
    · obtain ⟨o, ho⟩ := g2.root hr2; rw [h] at ho; cases ho
  · rw [e1, e2]; exact ⟨M, E.live _ (by omega)⟩
theorem Ed.slotK (E : Ed h0 h re rN d sl made) {i : Nat} (hi : i < d.nodes.length) {h1 : Heap} {a' : AVal} {l' : List Int} (kp : ∀ r o, h r = some o → rootOf (sl (2 * i + 1)) ≠ some r → h1 r = some o)
    (O : OwnS h1 3 1 (l'.map eInt) a') (M : Mut a') (fr : ∀ r, rootOf a' = some r → rootOf (sl (2 * i + 1)) = some r ∨ h r = none) :
    Ed h0 (upd h1 rN (some ⟨.t 40, 6, (rowsA d sl).set i (rowA { nth d.nodes i with kids := l' } (sl (2 * i)) a')⟩)) re rN ⟨d.nodes.set i { nth d.nodes i with kids := l' }, d.quirks⟩ (upd sl (2 * i + 1) a') made := by
  have e1 : upd sl (2 * i + 1) a' (2 * i + 1) = a' := upd_same _ _ _
  have e2 : upd sl (2 * i + 1) a' (2 * i) = sl (2 * i) := upd_ne _ _ (by omega)
  obtain ⟨g1, g2⟩ := E.dw.own i hi
  have fN : ∀ r, rootOf a' = some r → r ≠ rN := fun r hr e => by
    rcases fr r hr with h | h
    · exact (E.root_ne (by omega) h).1 e
    · rw [e, E.dw.nodes] at h; cases h
  refine E.put hi (fun j _ h2 => upd_ne _ _ h2) (by rw [e1, e2, upd_same]) (fun r o ho hne _ h2 => by rw [upd_ne _ _ hne]; exact kp r o ho h2) ?_ ?_ ?_ ?_ ?_
  · rw [e2]; exact g1.keep fun r o hr ho => by
      rw [upd_ne _ _ (E.root_ne (by omega) hr).1]
      exact kp r o ho fun h => E.dw.sep _ _ (by omega) (by omega) (by omega) r h hr
  · rw [e1]; exact O.keep fun r o hr ho => by rw [upd_ne _ _ (fN r hr)]; exact ho
  · rw [e1, e2]
    rintro r (hr | hr)
    · exact .inl hr
    · rcases fr r hr with h | h
      · exact .inr (.inl h)
      · exact .inr (.inr h)
  · rw [e1, e2]
    intro r hr hr2
    rcases fr r hr2 with h | h
    · exact E.dw.sep _ _ (by omega) (by omega) (by omega) r hr h
    · obtain ⟨o, ho⟩ := g1.root hr; rw [h] at ho; cases ho
  · rw [e1, e2]; exact ⟨E.live _ (by omega), M⟩
theorem Ed.inA (E : Ed h0 h re rN d sl made) {i : Nat} (hi : i < d.nodes.length) {h1 : Heap} {l' : List HAttr} (kp : ∀ r o, h r = some o → rootOf (sl (2 * i)) ≠ some r → h1 r = some o)
    (O : OwnS h1 96 2 (l'.map eAttr) (sl (2 * i))) : Ed h0 h1 re rN ⟨d.nodes.set i { nth d.nodes i with attrs := l' }, d.quirks⟩ sl made := by
  have g := E.slotA hi kp O (E.live _ (by omega)) (fun r hr => .inl hr)
  have e : upd sl (2 * i) (sl (2 * i)) = sl := by
    funext j; unfold upd; split
    · rename_i h; rw [h]
    · rfl
  have hN : h1 rN = some ⟨.t 40, 6, rowsA d sl⟩ := kp rN _ E.dw.nodes (fun h => (E.root_ne (by omega) h).1 rfl)
  have rs : (rowsA d sl).set i (rowA { nth d.nodes i with attrs := l' } (sl (2 * i)) (sl (2 * i + 1))) = rowsA d sl := by
    apply List.ext_getElem?
    intro j
    rw [List.getElem?_set]
    split
    · rename_i h; subst h
      rw [if_pos (by rw [rowsA_len]; exact hi)]
      unfold rowsA
      rw [List.getElem?_map, List.getElem?_range hi]; rfl
    · rfl
  rw [e, rs, upd_id hN] at g
  exact g
end
theorem find_own {h : Heap} {l : List HAttr} {a : AVal} (O : OwnS h 96 2 (l.map eAttr) a) (name : List UInt8) (hl : l.length ≤ 1073741824) : DCalls (Pg G) 160 [a, .str name] h fun r h' => r = aInt (attrAt l name) ∧ h' = h :=
  DCalls.bor (find_ok (G := G) l name hl) (.int _ _) (.cons O.vw (.cons (.refl _) .nil))
def c146 : SFun := ⟨.seq (.reg [⟨some 3, .boxF 42 12 (.t 1), none⟩, ⟨some 4, .mv (.c (.int .i64 0)), none⟩]) (.seq (.reg [⟨some 9, .mv (.t 0), none⟩, ⟨some 10, .fldA 1 (.t 3), none⟩, ⟨some 11, .ld 1 false (.t 10), none⟩, ⟨some 12, .call (.c (.fn 178 [] [])) [.t 9, .t 11], none⟩, ⟨some 8, .mv (.t 12), none⟩, ⟨some 13, .ext (.t 8) 0, none⟩, ⟨some 14, .ext (.t 8) 1, none⟩, ⟨some 5, .mv (.t 13), none⟩, ⟨some 6, .mv (.t 14), none⟩]) (.seq (.seq (.reg [⟨some 15, .mv (.t 6), none⟩, ⟨some 16, .bin .neq (.t 15) (.c (.int .i64 0)), none⟩]) (.cond (.t 16) (.seq (.reg [⟨some 17, .mv (.t 6), none⟩, ⟨some 4, .mv (.t 17), none⟩]) .ret) .skip)) (.seq (.dreg [(⟨some 18, .mv (.t 5), none⟩, none), (⟨some 19, .fldA 0 (.t 18), none⟩, none), (⟨some 20, .fldA 2 (.t 19), none⟩, none), (⟨some 21, .ld 1 false (.t 20), none⟩, none), (⟨some 22, .fldA 4 (.t 3), none⟩, none), (⟨some 23, .ld 1 false (.t 22), none⟩, none), (⟨some 24, .call (.c (.fn 160 [] [])) [.t 21, .t 23], none⟩, (some [21, 23])), (⟨some 7, .mv (.t 24), none⟩, none)]) (.seq (.seq (.reg [⟨some 25, .mv (.t 7), none⟩, ⟨some 26, .bin .lss (.t 25) (.c (.int .i64 0)), none⟩]) (.cond (.t 26) (.seq (.reg [⟨some 4, .mv (.c (.int .i64 5)), none⟩]) .ret) .skip)) (.seq (.reg [⟨some 27, .mv (.t 5), none⟩, ⟨some 28, .mv (.t 5), none⟩, ⟨some 29, .fldA 0 (.t 28), none⟩, ⟨some 30, .fldA 2 (.t 29), none⟩, ⟨some 31, .ld 1 false (.t 30), none⟩, ⟨some 32, .mv (.t 7), none⟩, ⟨some 33, .mv (.t 7), none⟩, ⟨some 34, .bin .add (.t 33) (.c (.int .i64 1)), none⟩, ⟨some 35, .call (.c (.fn 179 [] [])) [.t 31, .t 32, .t 34], none⟩, ⟨some 36, .fldA 0 (.t 27), none⟩, ⟨some 37, .fldA 2 (.t 36), none⟩, ⟨none, .st 1 (.t 37) (.t 35), none⟩]) (.seq (.reg [⟨some 4, .mv (.c (.int .i64 0)), none⟩]) .ret)))))), [.tmp 4]⟩
theorem hc146 : toSF Tryz.prog {} Tryz.f146 = some c146 := by kernel_rfl
theorem hn146 : (Tryz.f146.name == "runtime.NumGoroutine") = false := by kernel_rfl
theorem edrop_ok {h0 h : Heap} {re rN : Nat} {d : HDoc} {sl : Nat → AVal} {made : Int} (E : Ed h0 h re rN d sl made) (sm : DocSm d) (e : HEdit) (he : EditSm e) (hdo : e.do' = 2) : DCalls (Pg G) 146 [.vp re 0, .agg (eEdit e)] h (EdR h0 h re d e made) := by
  have gN := E.dw.nodes
  have hE := element_ok (G := G) E e.at'
  have eE : editE d e = if ¬ inD d e.at' then 5 else if (nd d e.at').kind ≠ 2 then 7 else if ¬ 0 ≤ attrAt (nd d e.at').attrs e.name then 5 else 0 := by unfold editE; rw [if_neg (by omega), if_pos hdo]
  have eD : editD d e = setN d e.at' { nd d e.at' with attrs := dropAttr (nd d e.at').attrs e.name } := by unfold editD; rw [if_neg (by omega), if_pos hdo]
  have hm4 : made = if e.do' = 4 then (d.nodes.length : Int) else made := by rw [if_neg (by omega)]
  refine dcalls_of_vc Tryz.func146 hn146 hc146 (by rw [Tryz.ntmps146]; simp) (by rw [Tryz.ntmps146]; decide) ?_
  simp -dsimp -implicitDefEqProofs (disch := omega) only [VCA, Nat.reduceEqDiff, Nat.reduceAdd, Nat.reduceLeDiff, ↓reduceIte, reduceCtorEq, c146, eEdit]
  by_cases hz : elemE d e.at' = 0
  · have hn : inD d e.at' := by
      unfold elemE at hz; split at hz
      · omega
      · rename_i h; exact Classical.not_not.1 h
    have hk : (nd d e.at').kind = 2 := by
      unfold elemE at hz; rw [if_neg (by simpa using hn)] at hz; split at hz
      · omega
      · rename_i h; exact Classical.not_not.1 h
    rw [hz, if_pos rfl] at hE
    rw [if_neg (by simpa using hn), if_neg (by simpa using hk)] at eE
    have hn' := hn.nat.1
    have gk := rowsA_get (sl := sl) hn'
    have rl := rowsA_len d sl
    have e0 : nth d.nodes e.at'.toNat = nd d e.at' := rfl
    rw [e0] at gk
    obtain ⟨oA, oK⟩ := E.dw.own _ hn'
    rw [e0] at oA
    have al := (sm.nd e.at').attrs
    have hF := find_own (G := G) oA e.name al
    have lv := E.live (2 * e.at'.toNat) (by omega)
    unfold rowA at gk
    by_cases hi0 : 0 ≤ attrAt (nd d e.at').attrs e.name
    · obtain ⟨g1, g2, g3⟩ := attrAt_spec _ _ hi0
      rw [if_neg (by simpa using hi0)] at eE
      have hda : dropAttr (nd d e.at').attrs e.name = (nd d e.at').attrs.take (attrAt (nd d e.at').attrs e.name).toNat ++ (nd d e.at').attrs.drop ((attrAt (nd d e.at').attrs e.name).toNat + 1) := rfl
      rw [← g3] at hF
      rcases oA.live lv with ⟨q, _⟩ | ⟨r, es, ha, hr, hl, ht⟩
      · have : (nd d e.at').attrs = [] := by simpa using q
        rw [this] at g1; simp at g1
      · rw [List.length_map] at ha hl ht
        have hD := deleteA_ok (G := G) (i := (attrAt (nd d e.at').attrs e.name).toNat) (j := (attrAt (nd d e.at').attrs e.name).toNat + 1) hr hl (by omega) (by omega) (by omega)
        have SA := fun h1 a' => E.slotA hn' (h1 := h1) (a' := a') (l' := dropAttr (nd d e.at').attrs e.name)
        rw [ha] at gk hF SA
        generalize (attrAt (nd d e.at').attrs e.name).toNat = i at *
        have hnr : ¬ rN = r := fun h => (E.root_ne (k := 2 * e.at'.toNat) (by omega) (by rw [ha]; rfl)).1 h.symm
        refine DCalls.of hE ?_
        rintro _ hh ⟨rfl, rfl⟩
        repeat' (first | ((with_reducible refine brC (fun _ => ?_) fun _ => ?_) <;> try (exfalso; omega)) | ((refine DCalls.of hF ?_; rintro _ hh ⟨rfl, rfl⟩)) | (with_reducible refine And.intro ?_ ?_; · omega) | simp -dsimp -implicitDefEqProofs (disch := omega) only [VCA, Nat.reduceEqDiff, Nat.reduceBEq, Nat.reduceAdd, Nat.reduceLT, Nat.reduceLeDiff, ↓reduceIte, rsOf, rootsOf, SOp.rd, SI.rd, SX.rd, rdL, implies_true, exists_eq_left', rootL, gN, gk, rl])
        all_goals try (exfalso; omega)
        refine DCalls.of hD ?_
        rintro _ _ ⟨rfl, es', rfl, hl2, ht2⟩
        repeat' (first | ((with_reducible refine brC (fun _ => ?_) fun _ => ?_) <;> try (exfalso; omega)) | (with_reducible refine And.intro ?_ ?_; · omega) | simp -dsimp -implicitDefEqProofs (disch := omega) only [VCA, Nat.reduceEqDiff, Nat.reduceAdd, Nat.reduceLeDiff, ↓reduceIte, setAt, exists_eq_left', gN, gk, rl, hnr])
        have ln : (dropAttr (nd d e.at').attrs e.name).length = (nd d e.at').attrs.length - (i + 1 - i) := by
          rw [hda, List.length_append, List.length_take, List.length_drop]; omega
        have hO : OwnS (upd hh r (some ⟨.t 96, 2, es'⟩)) 96 2 ((dropAttr (nd d e.at').attrs e.name).map eAttr) (.osl r 2 0 ((nd d e.at').attrs.length - (i + 1 - i))) :=
          .inr (.inr ⟨r, es', by rw [List.length_map, ln], upd_same _ _ _, by rw [List.length_map, ln]; exact hl2, by
            rw [List.length_map, ln, ht2, hda, List.map_append, List.map_take, List.map_drop, ← ht, List.take_take, Nat.min_eq_left (by omega)]⟩)
        refine ⟨_, Sub.refl _, EdR.good eE hm4 (by rw [eD]; exact SA _ _ (fun t o ho hne => by rw [upd_ne _ _ (fun e => hne (by rw [e]; rfl))]; exact ho) hO (fun es e => by cases e) (fun t ht => .inl ht))⟩
    · rw [if_pos hi0] at eE
      refine DCalls.of hE ?_
      rintro _ hh ⟨rfl, rfl⟩
      repeat' (first | ((with_reducible refine brC (fun _ => ?_) fun _ => ?_) <;> try (exfalso; omega)) | ((refine DCalls.of hF ?_; rintro _ hh ⟨rfl, rfl⟩)) | (with_reducible refine And.intro ?_ ?_; · omega) | simp -dsimp -implicitDefEqProofs (disch := omega) only [VCA, Nat.reduceEqDiff, Nat.reduceBEq, Nat.reduceAdd, Nat.reduceLT, Nat.reduceLeDiff, ↓reduceIte, rsOf, rootsOf, SOp.rd, SI.rd, SX.rd, rdL, implies_true, exists_eq_left', rootL, gN, gk, rl])
      all_goals first | (exfalso; omega) | exact ⟨_, Sub.refl _, EdR.bad eE (by decide)⟩
  · rw [if_neg hz] at hE
    have eE2 : editE d e = elemE d e.at' := by
      unfold elemE at hz ⊢
      rw [eE]
      by_cases hn : inD d e.at'
      · rw [if_neg (by simpa using hn)] at hz ⊢
        by_cases hk : (nd d e.at').kind ≠ 2
        · rw [if_neg (show ¬ ¬ inD d e.at' from fun h => h hn)]; rw [if_pos hk]
          try rw [if_pos hk]
        · rw [if_neg hk] at hz; exact absurd rfl hz
      · rw [if_pos hn, if_pos hn]
    refine DCalls.of hE ?_
    rintro _ hh ⟨rfl, rfl⟩
    repeat' (first | ((with_reducible refine brC (fun _ => ?_) fun _ => ?_) <;> try (exfalso; omega)) | (with_reducible refine And.intro ?_ ?_; · omega) | simp -dsimp -implicitDefEqProofs (disch := omega) only [VCA, Nat.reduceEqDiff, Nat.reduceAdd, Nat.reduceLT, ↓reduceIte])
    all_goals exact ⟨_, Sub.refl _, EdR.bad eE2 hz⟩
end Go.Proofs.K
end
section
set_option linter.unusedSimpArgs false
set_option linter.unusedVariables false
namespace Go.Proofs.K
open Go Go.Sim Go.Proofs
variable {G : Glob}
theorem elem_zero {d : HDoc} {n : Int} (hz : elemE d n = 0) : inD d n ∧ (nd d n).kind = 2 := by
  unfold elemE at hz
  split at hz
  · omega
  · rename_i h
    have hn := Classical.not_not.1 h
    split at hz
    · omega
    · rename_i h2; exact ⟨hn, Classical.not_not.1 h2⟩
def c145 : SFun := ⟨.seq (.reg [⟨some 3, .boxF 42 12 (.t 1), none⟩, ⟨some 4, .mv (.c (.int .i64 0)), none⟩]) (.seq (.reg [⟨some 9, .mv (.t 0), none⟩, ⟨some 10, .fldA 1 (.t 3), none⟩, ⟨some 11, .ld 1 false (.t 10), none⟩, ⟨some 12, .call (.c (.fn 178 [] [])) [.t 9, .t 11], none⟩, ⟨some 8, .mv (.t 12), none⟩, ⟨some 13, .ext (.t 8) 0, none⟩, ⟨some 14, .ext (.t 8) 1, none⟩, ⟨some 5, .mv (.t 13), none⟩, ⟨some 6, .mv (.t 14), none⟩]) (.seq (.seq (.reg [⟨some 15, .mv (.t 6), none⟩, ⟨some 16, .bin .neq (.t 15) (.c (.int .i64 0)), none⟩]) (.cond (.t 16) (.seq (.reg [⟨some 17, .mv (.t 6), none⟩, ⟨some 4, .mv (.t 17), none⟩]) .ret) .skip)) (.seq (.dreg [(⟨some 18, .mv (.t 5), none⟩, none), (⟨some 19, .fldA 0 (.t 18), none⟩, none), (⟨some 20, .fldA 2 (.t 19), none⟩, none), (⟨some 21, .ld 1 false (.t 20), none⟩, none), (⟨some 22, .fldA 4 (.t 3), none⟩, none), (⟨some 23, .ld 1 false (.t 22), none⟩, none), (⟨some 24, .call (.c (.fn 160 [] [])) [.t 21, .t 23], none⟩, (some [21, 23])), (⟨some 7, .mv (.t 24), none⟩, none)]) (.seq (.block 0 (.seq (.reg [⟨some 26, .fldA 4 (.t 3), none⟩, ⟨some 27, .ld 1 false (.t 26), none⟩, ⟨some 28, .pcall 159 [.t 27], none⟩, ⟨some 29, .un .not (.t 28), none⟩, ⟨some 25, .mv (.t 29), none⟩]) (.cond (.t 25) (.seq (.reg [⟨some 4, .mv (.c (.int .i64 3)), none⟩]) .ret) (.seq (.reg [⟨some 31, .fldA 5 (.t 3), none⟩, ⟨some 32, .ld 1 false (.t 31), none⟩, ⟨some 33, .lenS (.t 32), none⟩, ⟨some 34, .bin .gtr (.t 33) (.c (.int .i64 400)), none⟩, ⟨some 35, .mv (.t 34), none⟩, ⟨some 36, .mv (.t 7), some (35, false)⟩, ⟨some 37, .bin .lss (.t 36) (.c (.int .i64 0)), some (35, false)⟩, ⟨some 38, .mv (.t 37), some (35, false)⟩, ⟨some 39, .mv (.t 5), some (38, true)⟩, ⟨some 40, .fldA 0 (.t 39), some (38, true)⟩, ⟨some 41, .fldA 2 (.t 40), some (38, true)⟩, ⟨some 42, .ld 1 false (.t 41), some (38, true)⟩, ⟨some 43, .len (.t 42), some (38, true)⟩, ⟨some 44, .bin .eql (.t 43) (.c (.int .i64 12)), some (38, true)⟩, ⟨some 45, .pick (.t 38) (.t 44) (.c (.bool false)), some (35, false)⟩, ⟨some 46, .pick (.t 35) (.c (.bool true)) (.t 45), none⟩, ⟨some 30, .mv (.t 46), none⟩]) (.cond (.t 30) (.seq (.reg [⟨some 4, .mv (.c (.int .i64 2)), none⟩]) .ret) (.seq (.reg [⟨some 48, .mv (.t 7), none⟩, ⟨some 49, .bin .lss (.t 48) (.c (.int .i64 0)), none⟩, ⟨some 47, .mv (.t 49), none⟩]) (.cond (.t 47) (.seq (.dreg [(⟨some 50, .mv (.t 5), none⟩, none), (⟨some 51, .mv (.t 5), none⟩, none), (⟨some 52, .fldA 0 (.t 51), none⟩, none), (⟨some 53, .fldA 2 (.t 52), none⟩, none), (⟨some 54, .ld 1 false (.t 53), none⟩, none), (⟨some 55, .fldA 4 (.t 3), none⟩, none), (⟨some 56, .ld 1 false (.t 55), none⟩, none), (⟨some 57, .bld [.str [], .str []] [(0, (1, (.t 56)))], none⟩, none), (⟨some 58, .bldF 96 2 [.t 57], none⟩, none), (⟨some 59, .app 96 2 32 (.t 54) (.t 58), none⟩, (some [54, 56])), (⟨some 60, .fldA 0 (.t 50), none⟩, none), (⟨some 61, .fldA 2 (.t 60), none⟩, none), (⟨none, .st 1 (.t 61) (.t 59), none⟩, (some [54, 56]))]) (.reg [⟨some 62, .mv (.t 5), none⟩, ⟨some 63, .fldA 0 (.t 62), none⟩, ⟨some 64, .fldA 2 (.t 63), none⟩, ⟨some 65, .ld 1 false (.t 64), none⟩, ⟨some 66, .len (.t 65), none⟩, ⟨some 67, .bin .sub (.t 66) (.c (.int .i64 1)), none⟩, ⟨some 7, .mv (.t 67), none⟩])) .skip))))))) (.seq (.dreg [(⟨some 68, .mv (.t 5), none⟩, none), (⟨some 69, .fldA 0 (.t 68), none⟩, none), (⟨some 70, .fldA 2 (.t 69), none⟩, none), (⟨some 71, .ld 1 false (.t 70), none⟩, none), (⟨some 72, .mv (.t 7), none⟩, none), (⟨some 73, .fldA 5 (.t 3), none⟩, none), (⟨some 74, .ld 1 false (.t 73), none⟩, none), (⟨some 75, .idxA 2 (.t 71) (.t 72), none⟩, none), (⟨some 76, .fldA 1 (.t 75), none⟩, none), (⟨none, .st 1 (.t 76) (.t 74), none⟩, (some [71, 74]))]) (.seq (.reg [⟨some 4, .mv (.c (.int .i64 0)), none⟩]) .ret)))))), [.tmp 4]⟩
theorem hc145 : toSF Tryz.prog {pure := [159]} Tryz.f145 = some c145 := by kernel_rfl
theorem hn145 : (Tryz.f145.name == "runtime.NumGoroutine") = false := by kernel_rfl
theorem eattr_ok {h0 h : Heap} {re rN : Nat} {d : HDoc} {sl : Nat → AVal} {made : Int} (E : Ed h0 h re rN d sl made) (sm : DocSm d) (al12 : ∀ n, inD d n → (nd d n).attrs.length ≤ 12) (e : HEdit) (he : EditSm e) (hdo : e.do' = 1) : DCalls (Pg G) 145 [.vp re 0, .agg (eEdit e)] h (EdR h0 h re d e made) := by
  have gN := E.dw.nodes
  have hE := element_ok (G := G) E e.at'
  have vl := he.value
  have eE : editE d e = if ¬ inD d e.at' then 5 else if (nd d e.at').kind ≠ 2 then 7 else if nameOK false e.name = false then 3
    else if 400 < e.value.length ∨ (¬ 0 ≤ attrAt (nd d e.at').attrs e.name ∧ (nd d e.at').attrs.length = 12) then 2 else 0 := by unfold editE; rw [if_pos hdo]
  have eD : editD d e = setN d e.at' { nd d e.at' with attrs := setAttr (nd d e.at').attrs e.name e.value } := by unfold editD; rw [if_pos hdo]
  have hm4 : made = if e.do' = 4 then (d.nodes.length : Int) else made := by rw [if_neg (by omega)]
  have hAN := attrName_ok (G := G) e.name he.name
  refine dcalls_of_vc Tryz.func145 hn145 hc145 (by rw [Tryz.ntmps145]; simp) (by rw [Tryz.ntmps145]; decide) ?_
  simp -dsimp -implicitDefEqProofs (disch := omega) only [VCA, Nat.reduceEqDiff, Nat.reduceAdd, Nat.reduceLeDiff, ↓reduceIte, reduceCtorEq, c145, eEdit]
  by_cases hz : elemE d e.at' = 0
  · obtain ⟨hn, hk⟩ := elem_zero hz
    rw [hz, if_pos rfl] at hE
    rw [if_neg (by simpa using hn), if_neg (by simpa using hk)] at eE
    have hn' := hn.nat.1
    have gk := rowsA_get (sl := sl) hn'
    have rl := rowsA_len d sl
    have e0 : nth d.nodes e.at'.toNat = nd d e.at' := rfl
    rw [e0] at gk
    obtain ⟨oA, oK⟩ := E.dw.own _ hn'
    rw [e0] at oA
    have al := (sm.nd e.at').attrs
    have a12 := al12 _ hn
    have hF := find_own (G := G) oA e.name al
    have lv := E.live (2 * e.at'.toNat) (by omega)
    unfold rowA at gk
    have oL := oA.len.1
    have oL2 := oA.len.2
    rw [List.length_map] at oL
    by_cases h3 : nameOK false e.name = false
    · rw [if_pos h3] at eE
      rw [h3] at hAN
      refine DCalls.of hE ?_
      rintro _ hh ⟨rfl, rfl⟩
      repeat' (first | ((with_reducible refine brC (fun _ => ?_) fun _ => ?_) <;> try (exfalso; omega)) | ((refine DCalls.of hF ?_; rintro _ hh ⟨rfl, rfl⟩)) | (with_reducible apply pcallE.of; · exact hAN) | (with_reducible refine And.intro ?_ ?_; · omega) | simp -dsimp -implicitDefEqProofs (disch := omega) only [VCA, Nat.reduceEqDiff, Nat.reduceBEq, Nat.reduceAdd, Nat.reduceLT, Nat.reduceLeDiff, ↓reduceIte, rsOf, rootsOf, SOp.rd, SI.rd, SX.rd, rdL, implies_true, exists_eq_left', rootL, gN, gk, rl])
      all_goals first | (exfalso; omega) | exact ⟨_, Sub.refl _, EdR.bad eE (by decide)⟩
    · rw [if_neg h3] at eE
      have h3' : nameOK false e.name = true := by simpa using h3
      rw [h3'] at hAN
      by_cases h2 : 400 < e.value.length ∨ (¬ 0 ≤ attrAt (nd d e.at').attrs e.name ∧ (nd d e.at').attrs.length = 12)
      · rw [if_pos h2] at eE
        refine DCalls.of hE ?_
        rintro _ hh ⟨rfl, rfl⟩
        repeat' (first | ((with_reducible refine brC (fun _ => ?_) fun _ => ?_) <;> try (exfalso; omega)) | ((refine DCalls.of hF ?_; rintro _ hh ⟨rfl, rfl⟩)) | (with_reducible apply pcallE.of; · exact hAN) | (with_reducible refine And.intro ?_ ?_; · omega) | simp -dsimp -implicitDefEqProofs (disch := omega) only [↓vcOps_sp 35, ↓vcOps_sp 38, VCA, Nat.reduceEqDiff, Nat.reduceBEq, Nat.reduceAdd, Nat.reduceLT, Nat.reduceLeDiff, ↓reduceIte, rsOf, rootsOf, SOp.rd, SI.rd, SX.rd, rdL, implies_true, exists_eq_left', rootL, gN, gk, rl, oL, oL2])
        all_goals first | (exfalso; omega) | exact ⟨_, Sub.refl _, EdR.bad eE (by decide)⟩ | trace_state
      · rw [if_neg h2] at eE
        by_cases hi0 : 0 ≤ attrAt (nd d e.at').attrs e.name
        · obtain ⟨g1, g2, g3⟩ := attrAt_spec _ _ hi0
          have hsa : setAttr (nd d e.at').attrs e.name e.value = (nd d e.at').attrs.set (attrAt (nd d e.at').attrs e.name).toNat ⟨e.name, e.value⟩ := by unfold setAttr; rw [if_pos hi0]
          rw [← g3] at hF
          rcases oA.live lv with ⟨q, _⟩ | ⟨r, es, ha, hr, hl, ht⟩
          · have : (nd d e.at').attrs = [] := by simpa using q
            rw [this] at g1; simp at g1
          · rw [List.length_map] at ha hl ht
            have IA := fun h1 => E.inA hn' (h1 := h1) (l' := setAttr (nd d e.at').attrs e.name e.value)
            have hnr : ¬ rN = r := fun h => (E.root_ne (k := 2 * e.at'.toNat) (by omega) (by rw [ha]; rfl)).1 h.symm
            have gi := getD_take_enc ht g1
            have ga : eAttr (nth (nd d e.at').attrs (attrAt (nd d e.at').attrs e.name).toNat) = [.str e.name, .str (nth (nd d e.at').attrs (attrAt (nd d e.at').attrs e.name).toNat).value] := by unfold eAttr; rw [g2]
            rw [ga] at gi
            rw [ha] at gk hF IA oL oL2
            generalize (attrAt (nd d e.at').attrs e.name).toNat = i at *
            refine DCalls.of hE ?_
            rintro _ hh ⟨rfl, rfl⟩
            repeat' (first | ((with_reducible refine brC (fun _ => ?_) fun _ => ?_) <;> try (exfalso; omega)) | ((refine DCalls.of hF ?_; rintro _ hh ⟨rfl, rfl⟩)) | (with_reducible apply pcallE.of; · exact hAN) | (with_reducible refine And.intro ?_ ?_; · omega) | simp -dsimp -implicitDefEqProofs (disch := omega) only [↓vcOps_sp 35, ↓vcOps_sp 38, VCA, Nat.reduceEqDiff, Nat.reduceBEq, Nat.reduceAdd, Nat.reduceLT, Nat.reduceLeDiff, ↓reduceIte, rsOf, rootsOf, SOp.rd, SI.rd, SX.rd, rdL, setAt, implies_true, exists_eq_left', rootL, gN, gk, rl, hr, gi])
            all_goals try (exfalso; omega)
            have hO : OwnS (upd hh r (some ⟨.t 96, 2, es.set i [.str e.name, .str e.value]⟩)) 96 2 ((setAttr (nd d e.at').attrs e.name e.value).map eAttr) (.osl r 2 0 (nd d e.at').attrs.length) :=
              .inr (.inr ⟨r, _, by rw [hsa, List.length_map, List.length_set], upd_same _ _ _, by rw [hsa, List.length_map, List.length_set, List.length_set]; exact hl, by
                rw [hsa, List.length_map, List.length_set, List.take_set, ht, List.map_set]; rfl⟩)
            exact ⟨_, Sub.refl _, EdR.good eE hm4 (by rw [eD]; exact IA _ (fun t o ho hne => by rw [upd_ne _ _ (fun e => hne (by rw [e]; rfl))]; exact ho) hO)⟩
        · have hsa : setAttr (nd d e.at').attrs e.name e.value = (nd d e.at').attrs ++ [⟨e.name, e.value⟩] := by unfold setAttr; rw [if_neg hi0]
          refine DCalls.of hE ?_
          rintro _ hh ⟨rfl, rfl⟩
          repeat' (first | ((with_reducible refine brC (fun _ => ?_) fun _ => ?_) <;> try (exfalso; omega)) | ((refine DCalls.of hF ?_; rintro _ hh ⟨rfl, rfl⟩)) | (with_reducible apply pcallE.of; · exact hAN) | (with_reducible refine And.intro ?_ ?_; · omega) | simp -dsimp -implicitDefEqProofs (disch := omega) only [↓vcOps_sp 35, ↓vcOps_sp 38, VCA, Nat.reduceEqDiff, Nat.reduceBEq, Nat.reduceAdd, Nat.reduceLT, Nat.reduceLeDiff, ↓reduceIte, rsOf, rootsOf, SOp.rd, SI.rd, SX.rd, rdL, okParts, fillA, okFill, implies_true, forall_eq, exists_eq_left, exists_eq_left', rootL, gN, gk, rl, oL, oL2])
          all_goals try (exfalso; omega)
          refine OwnS.app oA lv (by rw [List.length_map]; simp; omega) (by rw [List.length_map]; simp; omega) fun r h9 hr hf kp => ?_
          rw [List.length_map]
          have nr : ∀ t, rootOf (sl (2 * e.at'.toNat)) = some t → t ≠ rN := fun t ht => (E.root_ne (by omega) ht).1
          have gN9 := kp rN _ gN (fun h => nr _ h rfl)
          have hnr : ¬ r = rN := fun h => by
            rcases hf with h1 | h1
            · exact nr _ h1 h
            · rw [h, gN] at h1; cases h1
          have hnr2 : ¬ rN = r := fun h => hnr h.symm
          have ln : ((nd d e.at').attrs.map eAttr).length = (nd d e.at').attrs.length := List.length_map ..
          have gg : ((nd d e.at').attrs.map eAttr ++ [[AVal.str e.name, AVal.str []]]).getD (nd d e.at').attrs.length [] = [AVal.str e.name, AVal.str []] := by
            rw [List.getD_eq_getElem?_getD, List.getElem?_append_right (by omega), ln]; simp
          have lx : ((nd d e.at').attrs.length : Int) + 1 - 1 = (nd d e.at').attrs.length := by omega
          have ly : (((nd d e.at').attrs.length : Int)).toNat = (nd d e.at').attrs.length := by omega
          repeat' (first | ((with_reducible refine brC (fun _ => ?_) fun _ => ?_) <;> try (exfalso; omega)) | (with_reducible refine And.intro ?_ ?_; · omega) | simp -dsimp -implicitDefEqProofs (disch := omega) only [VCA, Nat.reduceEqDiff, Nat.reduceBEq, Nat.reduceAdd, Nat.reduceLeDiff, ↓reduceIte, rsOf, rootsOf, SOp.rd, SI.rd, SX.rd, setAt, implies_true, exists_eq_left', rootL, gN, gN9, gk, rl, hr, hnr, hnr2, gg, ly, getD_set_same, List.length_set, List.length_append, ln])
          have O9 : OwnS h9 96 2 (((nd d e.at').attrs ++ [(⟨e.name, []⟩ : HAttr)]).map eAttr) (.osl r 2 0 ((nd d e.at').attrs.length + 1)) :=
            .inr (.inr ⟨r, _, by simp, hr, by simp, by rw [List.take_of_length_le (by simp)]; simp [eAttr]⟩)
          have E1 := E.slotA hn' kp O9 (fun es e => by cases e) (fun t ht => by cases ht; exact hf)
          rw [e0] at E1
          have s1 : upd sl (2 * e.at'.toNat) (.osl r 2 0 ((nd d e.at').attrs.length + 1)) (2 * e.at'.toNat) = .osl r 2 0 ((nd d e.at').attrs.length + 1) := upd_same _ _ _
          have IA := fun h1 => E1.inA (i := e.at'.toNat) (by simpa using hn') (h1 := h1) (l' := setAttr (nd d e.at').attrs e.name e.value)
          rw [s1] at IA
          have sd : ∀ (l : List HAttr), (⟨(d.nodes.set e.at'.toNat { nd d e.at' with attrs := (nd d e.at').attrs ++ [(⟨e.name, []⟩ : HAttr)] }).set e.at'.toNat { nth (d.nodes.set e.at'.toNat { nd d e.at' with attrs := (nd d e.at').attrs ++ [(⟨e.name, []⟩ : HAttr)] }) e.at'.toNat with attrs := l }, d.quirks⟩ : HDoc) = setN d e.at' { nd d e.at' with attrs := l } := fun l => by
            rw [nth_set _ _ _ _ hn', if_pos rfl, List.set_set]; rfl
          simp only [sd] at IA
          have hO : ∀ h8 : Heap, OwnS (upd h8 r (some ⟨.t 96, 2, ((nd d e.at').attrs.map eAttr ++ [[AVal.str e.name, AVal.str []]]).set (nd d e.at').attrs.length [AVal.str e.name, AVal.str e.value]⟩)) 96 2 ((setAttr (nd d e.at').attrs e.name e.value).map eAttr) (.osl r 2 0 ((nd d e.at').attrs.length + 1)) := fun h8 =>
            .inr (.inr ⟨r, _, by rw [hsa]; simp, upd_same _ _ _, by rw [hsa]; simp, by
              rw [hsa, List.take_of_length_le (by simp), List.set_append_right _ _ (by simp)]
              simp [eAttr]⟩)
          refine ⟨_, Sub.refl _, EdR.good eE hm4 (by rw [eD]; exact IA _ (fun t o ho hne => by rw [upd_ne _ _ (fun e => hne (by rw [e]; rfl))]; exact ho) (hO _))⟩
  · rw [if_neg hz] at hE
    have eE2 : editE d e = elemE d e.at' := by
      unfold elemE at hz ⊢
      rw [eE]
      by_cases hn : inD d e.at'
      · rw [if_neg (by simpa using hn)] at hz ⊢
        by_cases hk : (nd d e.at').kind ≠ 2
        · rw [if_neg (show ¬ ¬ inD d e.at' from fun h => h hn)]; rw [if_pos hk]
          try rw [if_pos hk]
        · rw [if_neg hk] at hz; exact absurd rfl hz
      · rw [if_pos hn, if_pos hn]
    refine DCalls.of hE ?_
    rintro _ hh ⟨rfl, rfl⟩
    repeat' (first | ((with_reducible refine brC (fun _ => ?_) fun _ => ?_) <;> try (exfalso; omega)) | (with_reducible refine And.intro ?_ ?_; · omega) | simp -dsimp -implicitDefEqProofs (disch := omega) only [VCA, Nat.reduceEqDiff, Nat.reduceAdd, Nat.reduceLT, ↓reduceIte])
    all_goals exact ⟨_, Sub.refl _, EdR.bad eE2 hz⟩
end Go.Proofs.K
end
section
set_option linter.unusedSimpArgs false
set_option linter.unusedVariables false
namespace Go.Proofs.K
open Go Go.Sim Go.Proofs
section
variable {d : HDoc}
end
end Go.Proofs.K
end
section
set_option linter.unusedSimpArgs false
set_option linter.unusedVariables false
namespace Go.Proofs.K
open Go Go.Sim Go.Proofs
variable {G : Glob}
section
variable {d : HDoc}
end
def c80 : SFun := ⟨.seq (.reg [⟨some 4, .mv (.c (.int .i64 0)), none⟩]) (.seq (.seq (.reg [⟨some 6, .mv (.t 0), none⟩, ⟨some 7, .len (.t 6), none⟩, ⟨some 8, .mv (.c (.int .i64 0)), none⟩]) (.block 0 (.loop (.seq (.reg [⟨some 9, .bin .lss (.t 8) (.t 7), none⟩]) (.seq (.cond (.t 9) .skip (.exit 0)) (.seq (.block 1 (.seq (.reg [⟨some 10, .mv (.t 8), none⟩, ⟨some 5, .mv (.t 10), none⟩]) (.seq (.reg [⟨some 11, .mv (.t 1), none⟩, ⟨some 12, .mv (.t 0), none⟩, ⟨some 13, .mv (.t 5), none⟩, ⟨some 14, .idxA 1 (.t 12) (.t 13), none⟩, ⟨some 15, .ld 1 false (.t 14), none⟩, ⟨some 16, .bin .eql (.t 11) (.t 15), none⟩]) (.cond (.t 16) (.seq (.reg [⟨some 17, .mv (.t 5), none⟩, ⟨some 4, .mv (.t 17), none⟩]) .ret) .skip)))) (.reg [⟨some 18, .bin .add (.t 8) (.c (.int .i64 1)), none⟩, ⟨some 8, .mv (.t 18), none⟩]))))))) (.seq (.reg [⟨some 4, .mv (.c (.int .i64 (-1))), none⟩]) .ret)), [.tmp 4]⟩
theorem hc80 : toSF Tryz.prog {} Tryz.f80 = some c80 := by kernel_rfl
theorem hn80 : (Tryz.f80.name == "runtime.NumGoroutine") = false := by kernel_rfl
theorem hasII_ok (l : List Int) (x : Int) (hl : l.length ≤ 1073741824) : PCalls (Pg G) 80 [sl eInt l, aInt x] (aInt (idxM (· == x) l)) := by
  intro h
  refine dcalls_of_vc Tryz.func80 hn80 hc80 (by rw [Tryz.ntmps80]; simp) (by rw [Tryz.ntmps80]; decide) ?_
  simp -dsimp -implicitDefEqProofs (disch := omega) only [VCA, ↓reduceIte, reduceCtorEq, c80]
  refine LoopVC.intro (fun m e h' => ∃ k : Nat, k ≤ l.length ∧ m = l.length - k ∧ e 0 = sl eInt l ∧ e 1 = aInt x ∧ e 7 = aInt l.length ∧ e 8 = aInt k ∧ h' = h ∧ ∀ j, j < k → (nth l j == x) = false) l.length ⟨0, by omega, by omega, rfl, rfl, rfl, rfl, rfl, fun j hj => absurd hj (Nat.not_lt_zero j)⟩ ?_
  rintro m e h' ⟨k, hk, rfl, he0, he1, he7, he8, rfl, hj⟩
  simp -dsimp -implicitDefEqProofs (disch := omega) only [VCA, ↓reduceIte, he7, he8]
  refine Br.dec (fun hlt => ?_) (fun hge => ?_)
  · simp -dsimp -implicitDefEqProofs (disch := omega) only [VCA, Nat.reduceEqDiff, ↓reduceIte, reduceCtorEq, eInt, he0, he1, he8]
    refine ⟨by omega, Br.eq (fun ht => ?_) (fun hf => ?_)⟩
    · simp -dsimp -implicitDefEqProofs (disch := omega) only [VCA, Nat.reduceEqDiff, ↓reduceIte, exists_eq_right_right]
      rw [idxM_some (k := k) (by omega) hj (by simp [ht])]; exact ⟨Sub.refl _, rfl⟩
    · simp -dsimp -implicitDefEqProofs (disch := omega) only [VCA, Nat.reduceEqDiff, ↓reduceIte, reduceCtorEq, he0, he1, he7, he8]
      refine ⟨_, ?_, k + 1, by omega, rfl, by omega, fun j hj' => ?_⟩
      · omega
      · by_cases h1 : j = k
        · subst h1; simpa using fun e => hf e.symm
        · exact hj j (by omega)
  · simp -dsimp -implicitDefEqProofs (disch := omega) only [VCA, ↓reduceIte, exists_eq_right_right]
    rw [idxM_none (fun j hj' => hj j (by omega))]; exact ⟨Sub.refl _, rfl⟩
def c68 : SFun := ⟨.seq (.reg [⟨some 4, .mv (.c (.bool false)), none⟩]) (.seq (.reg [⟨some 5, .mv (.t 0), none⟩, ⟨some 6, .mv (.t 1), none⟩, ⟨some 7, .pcall 80 [.t 5, .t 6], none⟩, ⟨some 8, .bin .geq (.t 7) (.c (.int .i64 0)), none⟩, ⟨some 4, .mv (.t 8), none⟩]) .ret), [.tmp 4]⟩
theorem hc68 : toSF Tryz.prog {pure := [80]} Tryz.f68 = some c68 := by kernel_rfl
theorem hn68 : (Tryz.f68.name == "runtime.NumGoroutine") = false := by kernel_rfl
theorem hasI_ok (l : List Int) (x : Int) (hl : l.length ≤ 1073741824) : PCalls (Pg G) 68 [sl eInt l, aInt x] (.bool (l.any (· == x))) := by
  intro h
  refine dcalls_of_vc Tryz.func68 hn68 hc68 (by rw [Tryz.ntmps68]; simp) (by rw [Tryz.ntmps68]; decide) ?_
  simp -dsimp -implicitDefEqProofs (disch := omega) only [VCA, Nat.reduceEqDiff, ↓reduceIte, reduceCtorEq, c68]
  refine pcallE.of (hasII_ok l x hl) ?_; simp -dsimp -implicitDefEqProofs (disch := omega) only [VCA, ↓reduceIte, exists_eq_right_right]
  exact ⟨Sub.refl _, idxM_any _ l⟩
end Go.Proofs.K
end
section
set_option linter.unusedSimpArgs false
set_option linter.unusedVariables false
namespace Go.Proofs.K
open Go Go.Sim Go.Proofs
variable {G : Glob}
theorem index_own {h : Heap} {l : List Int} {a : AVal} (O : OwnS h 3 1 (l.map eInt) a) (x : Int) (hl : l.length ≤ 1073741824) : DCalls (Pg G) 80 [a, aInt x] h fun r h' => r = aInt (idxM (· == x) l) ∧ h' = h :=
  DCalls.bor (hasII_ok (G := G) l x hl) (.int _ _) (.cons O.vw (.cons (.refl _) .nil))
theorem getD_set_ne {es : List (List AVal)} {j k : Nat} {x : List AVal} (hk : j ≠ k) : (es.set j x).getD k [] = es.getD k [] := by
  rw [List.getD_eq_getElem?_getD, List.getElem?_set, if_neg hk, List.getD_eq_getElem?_getD]
theorem Dw.rows_eq {X : List Nat} {h0 h1 : Heap} {rN : Nat} {d : HDoc} {sl : Nat → AVal} {T Z : Nat} {es : List (List AVal)} (E : Dw X h0 (upd h1 rN (some ⟨T, Z, es⟩)) rN d sl) : es = rowsA d sl := by
  have nn := E.nodes
  rw [upd_same] at nn
  exact congrArg AObj.es (Option.some.inj nn)
def c150 : SFun := ⟨.seq (.reg [⟨some 3, .boxF 42 12 (.t 1), none⟩, ⟨some 4, .mv (.c (.int .i64 0)), none⟩]) (.seq (.reg [⟨some 8, .mv (.t 0), none⟩, ⟨some 9, .fldA 1 (.t 3), none⟩, ⟨some 10, .ld 1 false (.t 9), none⟩, ⟨some 11, .call (.c (.fn 180 [] [])) [.t 8, .t 10], none⟩, ⟨some 5, .mv (.t 11), none⟩]) (.seq (.block 0 (.seq (.reg [⟨some 13, .mv (.t 5), none⟩, ⟨some 14, .isnil 1 false (.t 13), none⟩, ⟨some 12, .mv (.t 14), none⟩]) (.cond (.t 12) (.seq (.reg [⟨some 4, .mv (.c (.int .i64 5)), none⟩]) .ret) (.seq (.reg [⟨some 16, .mv (.t 5), none⟩, ⟨some 17, .fldA 0 (.t 16), none⟩, ⟨some 18, .fldA 0 (.t 17), none⟩, ⟨some 19, .ld 1 false (.t 18), none⟩, ⟨some 20, .bin .eql (.t 19) (.c (.int .i64 1)), none⟩, ⟨some 15, .mv (.t 20), none⟩]) (.cond (.t 15) (.seq (.reg [⟨some 4, .mv (.c (.int .i64 7)), none⟩]) .ret) (.seq (.reg [⟨some 22, .mv (.t 5), none⟩, ⟨some 23, .fldA 0 (.t 22), none⟩, ⟨some 24, .fldA 4 (.t 23), none⟩, ⟨some 25, .ld 1 false (.t 24), none⟩, ⟨some 26, .bin .lss (.t 25) (.c (.int .i64 0)), none⟩, ⟨some 21, .mv (.t 26), none⟩]) (.cond (.t 21) (.seq (.reg [⟨some 4, .mv (.c (.int .i64 5)), none⟩]) .ret) .skip))))))) (.seq (.dreg [(⟨some 27, .mv (.t 0), none⟩, none), (⟨some 28, .fldA 0 (.t 27), none⟩, none), (⟨some 29, .fldA 0 (.t 28), none⟩, none), (⟨some 30, .fldA 0 (.t 29), none⟩, none), (⟨some 31, .ld 1 false (.t 30), none⟩, none), (⟨some 32, .mv (.t 5), none⟩, none), (⟨some 33, .fldA 0 (.t 32), none⟩, none), (⟨some 34, .fldA 4 (.t 33), none⟩, none), (⟨some 35, .ld 1 false (.t 34), none⟩, none), (⟨some 36, .idxA 6 (.t 31) (.t 35), none⟩, none), (⟨some 6, .mv (.t 36), none⟩, none)]) (.seq (.dreg [(⟨some 37, .mv (.t 6), none⟩, none), (⟨some 38, .fldA 0 (.t 37), none⟩, none), (⟨some 39, .fldA 5 (.t 38), none⟩, none), (⟨some 40, .ld 1 false (.t 39), none⟩, none), (⟨some 41, .fldA 1 (.t 3), none⟩, none), (⟨some 42, .ld 1 false (.t 41), none⟩, none), (⟨some 43, .call (.c (.fn 80 [] [])) [.t 40, .t 42], none⟩, (some [40, 42])), (⟨some 7, .mv (.t 43), none⟩, none)]) (.seq (.reg [⟨some 44, .mv (.t 6), none⟩, ⟨some 45, .mv (.t 5), none⟩, ⟨some 46, .mv (.t 6), none⟩, ⟨some 47, .fldA 0 (.t 46), none⟩, ⟨some 48, .fldA 5 (.t 47), none⟩, ⟨some 49, .ld 1 false (.t 48), none⟩, ⟨some 50, .mv (.t 7), none⟩, ⟨some 51, .mv (.t 7), none⟩, ⟨some 52, .bin .add (.t 51) (.c (.int .i64 1)), none⟩, ⟨some 53, .call (.c (.fn 116 [] [])) [.t 49, .t 50, .t 52], none⟩, ⟨some 54, .fldA 0 (.t 44), none⟩, ⟨some 55, .fldA 5 (.t 54), none⟩, ⟨none, .st 1 (.t 55) (.t 53), none⟩, ⟨some 56, .fldA 0 (.t 45), none⟩, ⟨some 57, .fldA 4 (.t 56), none⟩, ⟨none, .st 1 (.t 57) (.c (.int .i64 (-1))), none⟩]) (.seq (.reg [⟨some 4, .mv (.c (.int .i64 0)), none⟩]) .ret)))))), [.tmp 4]⟩
theorem hc150 : toSF Tryz.prog {} Tryz.f150 = some c150 := by kernel_rfl
theorem hn150 : (Tryz.f150.name == "runtime.NumGoroutine") = false := by kernel_rfl
theorem eremove_ok {h0 h : Heap} {re rN : Nat} {d : HDoc} {sl : Nat → AVal} {made : Int} (E : Ed h0 h re rN d sl made) (V : DV d) (sm : DocSm d) (e : HEdit) (he : EditSm e) (hdo : e.do' = 6) : DCalls (Pg G) 150 [.vp re 0, .agg (eEdit e)] h (EdR h0 h re d e made) := by
  have gN := E.dw.nodes
  have gE := E.ed
  have ner := E.ne
  have hE := enode_ok (G := G) E e.at'
  unfold nodeP at hE
  have eE : editE d e = if ¬ inD d e.at' then 5 else if (nd d e.at').kind = 1 then 7 else if ¬ 0 ≤ (nd d e.at').parent then 5 else 0 := by unfold editE; rw [if_neg (by omega), if_neg (by omega), if_neg (by omega), if_neg (by omega), if_neg (by omega), if_pos hdo]
  have eD : editD d e = cutN d e.at' (idxM (· == e.at') (nd d (nd d e.at').parent).kids).toNat := by unfold editD; rw [if_neg (by omega), if_neg (by omega), if_neg (by omega), if_neg (by omega), if_neg (by omega)]
  have hm4 : made = if e.do' = 4 then (d.nodes.length : Int) else made := by rw [if_neg (by omega)]
  refine dcalls_of_vc Tryz.func150 hn150 hc150 (by rw [Tryz.ntmps150]; simp) (by rw [Tryz.ntmps150]; decide) ?_
  simp -dsimp -implicitDefEqProofs (disch := omega) only [VCA, Nat.reduceEqDiff, Nat.reduceAdd, Nat.reduceLeDiff, ↓reduceIte, reduceCtorEq, c150, eEdit]
  by_cases hn : inD d e.at'
  · rw [if_pos hn] at hE
    have hn' := hn.nat.1
    have gk := rowsA_get (sl := sl) hn'
    have rl := rowsA_len d sl
    have e0 : nth d.nodes e.at'.toNat = nd d e.at' := rfl
    rw [e0] at gk
    unfold rowA at gk
    rw [if_neg (by simpa using hn)] at eE
    by_cases hk : (nd d e.at').kind = 1
    · rw [if_pos hk] at eE
      refine DCalls.of hE ?_
      rintro _ hh ⟨rfl, rfl⟩
      repeat' (first | ((with_reducible refine brC (fun _ => ?_) fun _ => ?_) <;> try (exfalso; omega)) | (with_reducible refine And.intro ?_ ?_; · omega) | simp -dsimp -implicitDefEqProofs (disch := omega) only [VCA, Nat.reduceEqDiff, Nat.reduceAdd, Nat.reduceLeDiff, ↓reduceIte, exists_eq_left', gN, gk, rl])
      all_goals first | (exfalso; omega) | exact ⟨_, Sub.refl _, EdR.bad eE (by decide)⟩
    · rw [if_neg hk] at eE
      by_cases hp : 0 ≤ (nd d e.at').parent
      · rw [if_neg (by simpa using hp)] at eE
        obtain ⟨hpi, hpm⟩ := V.par_in hn hp
        have hp' := hpi.nat.1
        have p1 := hpi.2
        have hne : (nd d e.at').parent ≠ e.at' := fun h => by have := V.up_par hn hp; rw [h] at this; omega
        have hnn : (nd d e.at').parent.toNat ≠ e.at'.toNat := by have := hn.1; omega
        have gp := rowsA_get (sl := sl) hp'
        have ep : nth d.nodes (nd d e.at').parent.toNat = nd d (nd d e.at').parent := rfl
        rw [ep] at gp
        unfold rowA at gp
        obtain ⟨oA, oK⟩ := E.dw.own _ hp'
        rw [ep] at oK
        have kl := (sm.nd (nd d e.at').parent).kids
        have hI := index_own (G := G) oK e.at' kl
        obtain ⟨i1, i2⟩ := idx_at hpm
        have i3 := (idx_mem (nd d (nd d e.at').parent).kids e.at').2 hpm
        have i4 : ((idxM (· == e.at') (nd d (nd d e.at').parent).kids).toNat : Int) = idxM (· == e.at') (nd d (nd d e.at').parent).kids := by omega
        rw [← i4] at hI
        have lv := E.live (2 * (nd d e.at').parent.toNat + 1) (by omega)
        rcases oK.live lv with ⟨q, _⟩ | ⟨r, es, ha, hr, hl, ht⟩
        · have : (nd d (nd d e.at').parent).kids = [] := by simpa using q
          rw [this] at i1; simp at i1
        · rw [List.length_map] at ha hl ht
          have hD := deleteZ_ok (G := G) (i := (idxM (· == e.at') (nd d (nd d e.at').parent).kids).toNat) (j := (idxM (· == e.at') (nd d (nd d e.at').parent).kids).toNat + 1) hr hl (by omega) (by omega) (by omega)
          have SK := fun h1 a' l' => E.slotK hp' (h1 := h1) (a' := a') (l' := l')
          rw [ha] at gp hI SK
          rw [ep] at SK
          have cdef : cutN d e.at' (idxM (· == e.at') (nd d (nd d e.at').parent).kids).toNat = setN (setN d (nd d e.at').parent { nd d (nd d e.at').parent with kids := (nd d (nd d e.at').parent).kids.take (idxM (· == e.at') (nd d (nd d e.at').parent).kids).toNat ++ (nd d (nd d e.at').parent).kids.drop ((idxM (· == e.at') (nd d (nd d e.at').parent).kids).toNat + 1) }) e.at' { nd d e.at' with parent := -1 } := rfl
          generalize (idxM (· == e.at') (nd d (nd d e.at').parent).kids).toNat = i at *
          have hnr : ¬ rN = r := fun h => (E.root_ne (k := 2 * (nd d e.at').parent.toNat + 1) (by omega) (by rw [ha]; rfl)).1 h.symm
          refine DCalls.of hE ?_
          rintro _ hh ⟨rfl, rfl⟩
          repeat' (first | ((with_reducible refine brC (fun _ => ?_) fun _ => ?_) <;> try (exfalso; omega)) | ((refine DCalls.of hI ?_; rintro _ hh ⟨rfl, rfl⟩)) | (with_reducible refine And.intro ?_ ?_; · omega) | simp -dsimp -implicitDefEqProofs (disch := omega) only [VCA, Nat.reduceEqDiff, Nat.reduceBEq, Nat.reduceAdd, Nat.reduceLT, Nat.reduceLeDiff, ↓reduceIte, reduceCtorEq, rsOf, rootsOf, SOp.rd, SI.rd, SX.rd, rdL, implies_true, exists_eq_left', rootL, gN, gE, gk, gp, rl])
          all_goals try (exfalso; omega)
          refine DCalls.of hD ?_
          rintro _ _ ⟨rfl, es', rfl, hl2, ht2⟩
          have gne := fun (x : List AVal) => getD_set_ne (es := rowsA d sl) (x := x) hnn
          repeat' (first | ((with_reducible refine brC (fun _ => ?_) fun _ => ?_) <;> try (exfalso; omega)) | (with_reducible refine And.intro ?_ ?_; · omega) | simp -dsimp -implicitDefEqProofs (disch := omega) only [VCA, Nat.reduceEqDiff, Nat.reduceAdd, Nat.reduceLeDiff, ↓reduceIte, setAt, exists_eq_left', gN, gk, gp, rl, hnr, gne, List.length_set])
          have ln : ((nd d (nd d e.at').parent).kids.take i ++ (nd d (nd d e.at').parent).kids.drop (i + 1)).length = (nd d (nd d e.at').parent).kids.length - (i + 1 - i) := by
            rw [List.length_append, List.length_take, List.length_drop]; omega
          have hO : OwnS (upd hh r (some ⟨.t 3, 1, es'⟩)) 3 1 (((nd d (nd d e.at').parent).kids.take i ++ (nd d (nd d e.at').parent).kids.drop (i + 1)).map eInt) (.osl r 1 0 ((nd d (nd d e.at').parent).kids.length - (i + 1 - i))) :=
            .inr (.inr ⟨r, es', by rw [List.length_map, ln], upd_same _ _ _, by rw [List.length_map, ln]; exact hl2, by
              rw [List.length_map, ln, ht2, List.map_append, List.map_take, List.map_drop, ← ht, List.take_take, Nat.min_eq_left (by omega)]⟩)
          have E1 := SK _ _ _ (fun t o ho hne => by rw [upd_ne _ _ (fun e => hne (by rw [e]; rfl))]; exact ho) hO (fun es e => by cases e) (fun t ht => .inl ht)
          have nn := E1.dw.rows_eq
          have n1 : nth (d.nodes.set (nd d e.at').parent.toNat { nd d (nd d e.at').parent with kids := (nd d (nd d e.at').parent).kids.take i ++ (nd d (nd d e.at').parent).kids.drop (i + 1) }) e.at'.toNat = nd d e.at' := by
            rw [nth_set _ _ _ _ hp', if_neg (fun h => hnn h.symm)]; rfl
          have E2 := E1.cells (i := e.at'.toNat) (by simpa using hn') (x' := { nd d e.at' with parent := -1 }) (by show _ = (nth (d.nodes.set _ _) _).attrs; rw [n1]) (by show _ = (nth (d.nodes.set _ _) _).kids; rw [n1])
          rw [← nn] at E2
          have v1 : upd sl (2 * (nd d e.at').parent.toNat + 1) (AVal.osl r 1 0 ((nd d (nd d e.at').parent).kids.length - (i + 1 - i))) (2 * e.at'.toNat) = sl (2 * e.at'.toNat) := upd_ne _ _ (by omega)
          have v2 : upd sl (2 * (nd d e.at').parent.toNat + 1) (AVal.osl r 1 0 ((nd d (nd d e.at').parent).kids.length - (i + 1 - i))) (2 * e.at'.toNat + 1) = sl (2 * e.at'.toNat + 1) := upd_ne _ _ (by omega)
          rw [v1, v2, upd_upd] at E2
          exact ⟨_, Sub.refl _, EdR.good eE hm4 (by rw [eD, cdef]; exact E2)⟩
      · rw [if_pos hp] at eE
        refine DCalls.of hE ?_
        rintro _ hh ⟨rfl, rfl⟩
        repeat' (first | ((with_reducible refine brC (fun _ => ?_) fun _ => ?_) <;> try (exfalso; omega)) | (with_reducible refine And.intro ?_ ?_; · omega) | simp -dsimp -implicitDefEqProofs (disch := omega) only [VCA, Nat.reduceEqDiff, Nat.reduceAdd, Nat.reduceLeDiff, ↓reduceIte, exists_eq_left', gN, gk, rl])
        all_goals first | (exfalso; omega) | exact ⟨_, Sub.refl _, EdR.bad eE (by decide)⟩
  · rw [if_neg hn] at hE
    rw [if_pos hn] at eE
    refine DCalls.of hE ?_
    rintro _ hh ⟨rfl, rfl⟩
    repeat' (first | ((with_reducible refine brC (fun _ => ?_) fun _ => ?_) <;> try (exfalso; omega)) | (with_reducible refine And.intro ?_ ?_; · omega) | simp -dsimp -implicitDefEqProofs (disch := omega) only [VCA, ↓reduceIte])
    all_goals exact ⟨_, Sub.refl _, EdR.bad eE (by decide)⟩
end Go.Proofs.K
end
section
set_option linter.unusedSimpArgs false
set_option linter.unusedVariables false
namespace Go.Proofs.K
open Go Go.Sim Go.Proofs
variable {G : Glob}
def edC (d : HDoc) (made : Int) : List AVal := [sl eNode d.nodes, .bool d.quirks, aInt made]
theorem Ed.vw {h0 h : Heap} {re rN : Nat} {d : HDoc} {sl : Nat → AVal} {made : Int} (E : Ed h0 h re rN d sl made) : Vw h (.vp re 0) (.pin (edC d made)) := by
  refine .vp _ _ _ (.ptr re 0 0 _ _ E.ed (by simp) (by simp [edC]) fun k a b ha hb => ?_)
  have F : F2 (Vw h) [AVal.osl rN 6 0 d.nodes.length, .bool d.quirks, aInt made] (edC d made) := .cons E.dw.vw (.cons (.refl _) (.cons (.refl _) .nil))
  exact F.get k a b ha hb
theorem Ed.vwD {h0 h : Heap} {re rN : Nat} {d : HDoc} {sl : Nat → AVal} {made : Int} (E : Ed h0 h re rN d sl made) : Vw h (.agg [.osl rN 6 0 d.nodes.length, .bool d.quirks]) (.agg (eDoc d)) :=
  Vw.agg' (.cons E.dw.vw (.cons (.refl _) .nil))
def c181 : SFun := ⟨.seq (.reg [⟨some 6, .mv (.c (.bool false)), none⟩]) (.seq (.block 0 (.loop (.seq (.seq (.reg [⟨some 7, .mv (.t 1), none⟩, ⟨some 8, .bin .geq (.t 7) (.c (.int .i64 0)), none⟩, ⟨some 9, .mv (.t 8), none⟩, ⟨some 10, .mv (.t 1), some (9, true)⟩, ⟨some 11, .mv (.t 2), some (9, true)⟩, ⟨some 12, .bin .neq (.t 10) (.t 11), some (9, true)⟩, ⟨some 13, .pick (.t 9) (.t 12) (.c (.bool false)), none⟩]) (.cond (.t 13) .skip (.exit 0))) (.block 1 (.reg [⟨some 14, .mv (.t 0), none⟩, ⟨some 15, .fldA 0 (.t 14), none⟩, ⟨some 16, .fldA 0 (.t 15), none⟩, ⟨some 17, .fldA 0 (.t 16), none⟩, ⟨some 18, .ld 1 false (.t 17), none⟩, ⟨some 19, .mv (.t 1), none⟩, ⟨some 20, .idxA 6 (.t 18) (.t 19), none⟩, ⟨some 21, .fldA 4 (.t 20), none⟩, ⟨some 22, .ld 1 false (.t 21), none⟩, ⟨some 1, .mv (.t 22), none⟩]))))) (.seq (.reg [⟨some 23, .mv (.t 1), none⟩, ⟨some 24, .mv (.t 2), none⟩, ⟨some 25, .bin .eql (.t 23) (.t 24), none⟩, ⟨some 6, .mv (.t 25), none⟩]) .ret)), [.tmp 6]⟩
theorem hc181 : toSF Tryz.prog {} Tryz.f181 = some c181 := by kernel_rfl
theorem hn181 : (Tryz.f181.name == "runtime.NumGoroutine") = false := by kernel_rfl
theorem ebelow_ok (d : HDoc) (V : DV d) (made n top : Int) (hn : inD d n) (ht : 0 ≤ top) : PCalls (Pg G) 181 [.pin (edC d made), aInt n, aInt top] (.bool (decide (top ∈ chain d n))) := fun h => by
  have hl := V.len
  refine dcalls_of_vc Tryz.func181 hn181 hc181 (by rw [Tryz.ntmps181]; simp) (by rw [Tryz.ntmps181]; decide) ?_
  simp -dsimp -implicitDefEqProofs (disch := omega) only [VCA, c181, edC]
  refine LoopVC.intro (fun m e h' => ∃ c : Int, m = (if c = -1 then 0 else up d c + 1) ∧ (c = -1 ∨ inD d c) ∧ e 1 = aInt c ∧ e 2 = aInt top ∧ e 0 = .pin (edC d made) ∧ h' = h ∧ (c = -1 → top ∉ chain d n) ∧ (inD d c → (top ∈ chain d n ↔ top ∈ chain d c))) _ ⟨n, rfl, .inr hn, rfl, rfl, rfl, rfl, fun e => by have := hn.1; omega, fun _ => Iff.rfl⟩ ?_
  rintro m e h' ⟨c, rfl, hc, he1, he2, he0, rfl, hno, hyes⟩
  by_cases h2 : c = -1
  · subst h2
    have h3 : ((-1 : Int) == top) = false := by simp; omega
    simp -dsimp -implicitDefEqProofs (disch := omega) only [↓vcOps_sp 9, VCA, ↓reduceIte, he1]
    repeat' (first | ((with_reducible refine brC (fun _ => ?_) fun _ => ?_) <;> try (exfalso; omega)) | (with_reducible refine And.intro ?_ ?_; · omega) | simp -dsimp -implicitDefEqProofs (disch := omega) only [VCA, Nat.reduceEqDiff, ↓reduceIte, exists_eq_right_right, he1, he2, h3])
    exact ⟨Sub.refl _, by simp [hno rfl]⟩
  · have hc : inD d c := hc.resolve_left h2
    have hc0 := hc.1
    have hc1 := hc.2
    have e0 : nth d.nodes c.toNat = nd d c := rfl
    simp -dsimp -implicitDefEqProofs (disch := omega) only [↓vcOps_sp 9, VCA, ↓reduceIte, he1]
    repeat' (first | ((with_reducible refine brC (fun _ => ?_) fun _ => ?_) <;> try (exfalso; omega)) | (with_reducible refine And.intro ?_ ?_; · omega) | simp -dsimp -implicitDefEqProofs (disch := omega) only [VCA, Nat.reduceEqDiff, Nat.reduceAdd, Nat.reduceLeDiff, ↓reduceIte, reduceCtorEq, exists_eq_right_right, he1, he2, he0, edC, eNode, e0])
    · rename_i h0 h1
      refine ⟨_, ?_, (nd d c).parent, rfl, ?_, rfl, ?_, ?_⟩
      · rw [if_neg (show ¬ c = -1 by omega)]
        split
        · omega
        · rename_i hp
          have := V.up_par hc (by have := V.par c hc; unfold inD at this; omega)
          omega
      · rcases V.par c hc with h | h
        · exact .inl h
        · exact .inr h.1
      · intro hp
        rw [hyes hc, chain_top V (by omega)]
        simp; exact fun e => h1 e.symm
      · intro hp
        rw [hyes hc, chain_up V hc hp.1]
        simp; exact fun e => absurd e.symm h1
    · rename_i h0 h1
      subst h1
      exact ⟨Sub.refl _, by simp [(hyes hc).2 (chain_self _ _)]⟩
def c182 : SFun := ⟨.seq (.reg [⟨some 4, .mv (.c (.int .i64 0)), none⟩]) (.seq (.seq (.reg [⟨some 7, .mv (.t 0), none⟩, ⟨some 8, .fldA 0 (.t 7), none⟩, ⟨some 9, .fldA 0 (.t 8), none⟩, ⟨some 10, .fldA 0 (.t 9), none⟩, ⟨some 11, .ld 1 false (.t 10), none⟩, ⟨some 12, .mv (.t 1), none⟩, ⟨some 13, .idxA 6 (.t 11) (.t 12), none⟩, ⟨some 14, .fldA 5 (.t 13), none⟩, ⟨some 15, .ld 1 false (.t 14), none⟩, ⟨some 16, .len (.t 15), none⟩, ⟨some 17, .mv (.c (.int .i64 0)), none⟩]) (.block 0 (.loop (.seq (.reg [⟨some 18, .bin .lss (.t 17) (.t 16), none⟩]) (.seq (.cond (.t 18) .skip (.exit 0)) (.seq (.block 1 (.seq (.reg [⟨some 19, .idxA 1 (.t 15) (.t 17), none⟩, ⟨some 20, .ld 1 false (.t 19), none⟩, ⟨some 6, .mv (.t 20), none⟩]) (.reg [⟨some 21, .mv (.t 4), none⟩, ⟨some 22, .mv (.t 0), none⟩, ⟨some 23, .mv (.t 6), none⟩, ⟨some 24, .pcall 182 [.t 22, .t 23], none⟩, ⟨some 25, .bin .add (.t 24) (.c (.int .i64 1)), none⟩, ⟨some 26, .max2 (.t 21) (.t 25), none⟩, ⟨some 4, .mv (.t 26), none⟩]))) (.reg [⟨some 27, .bin .add (.t 17) (.c (.int .i64 1)), none⟩, ⟨some 17, .mv (.t 27), none⟩]))))))) (.seq (.reg [⟨some 28, .mv (.t 4), none⟩, ⟨some 4, .mv (.t 28), none⟩]) .ret)), [.tmp 4]⟩
theorem hc182 : toSF Tryz.prog {pure := [182]} Tryz.f182 = some c182 := by kernel_rfl
theorem hn182 : (Tryz.f182.name == "runtime.NumGoroutine") = false := by kernel_rfl
theorem edeep_ok (d : HDoc) (V : DV d) (sm : DocSm d) (made : Int) : ∀ n, inD d n → PCalls (Pg G) 182 [.pin (edC d made), aInt n] (aInt (low d n)) := V.down fun n hn ih h => by
  have hl := V.len
  have n0 := hn.1
  have n1 := hn.2
  have e0 : nth d.nodes n.toNat = nd d n := rfl
  have kl := (sm.nd n).kids
  refine dcalls_of_vc Tryz.func182 hn182 hc182 (by rw [Tryz.ntmps182]; simp) (by rw [Tryz.ntmps182]; decide) ?_
  simp -dsimp -implicitDefEqProofs (disch := omega) only [VCA, Nat.reduceEqDiff, Nat.reduceAdd, Nat.reduceLeDiff, ↓reduceIte, reduceCtorEq, c182, edC, eNode]
  rw [e0]
  refine ⟨by omega, ?_⟩
  have lk : ∀ k ∈ (nd d n).kids, low d k ≤ 40 := fun k hk => low_40 V (V.kid n hn k hk).1
  rw [low_eq V hn]
  refine LoopVC.intro (fun m e h' => ∃ k : Nat, k ≤ (nd d n).kids.length ∧ m = (nd d n).kids.length - k ∧ e 0 = .pin (edC d made) ∧ e 15 = sl eInt (nd d n).kids ∧ e 16 = aInt (nd d n).kids.length ∧ e 17 = aInt k ∧ e 4 = aInt ((((nd d n).kids.take k).map fun k => low d k + 1).foldl max 0 : Nat) ∧ h' = h) _ ⟨0, by omega, rfl, rfl, rfl, rfl, rfl, rfl, rfl⟩ ?_
  rintro m e h' ⟨k, hk, rfl, he0, he15, he16, he17, he4, rfl⟩
  simp -dsimp -implicitDefEqProofs (disch := omega) only [VCA, ↓reduceIte, he16, he17]
  refine Br.dec (fun hlt => ?_) (fun hge => ?_)
  · have hk' : k < (nd d n).kids.length := by omega
    have hD := ih _ (nth_mem' hk')
    have l40 := lk _ (nth_mem' hk')
    unfold edC at hD
    simp -dsimp -implicitDefEqProofs (disch := omega) only [VCA, Nat.reduceEqDiff, ↓reduceIte, reduceCtorEq, eInt, he0, he15, he17, he4, edC]
    refine ⟨by omega, ?_⟩
    refine pcallE.of (hD) ?_; simp -dsimp -implicitDefEqProofs (disch := omega) only [VCA, Nat.reduceEqDiff, ↓reduceIte, reduceCtorEq, he0, he15, he16, he17]
    refine ⟨_, by omega, k + 1, by omega, rfl, rfl, by omega, ?_⟩
    rw [take_snoc hk', List.map_append, List.foldl_append]
    simp only [List.map_cons, List.map_nil, List.foldl_cons, List.foldl_nil]
    omega
  · obtain rfl : k = (nd d n).kids.length := by omega
    rw [List.take_length] at he4
    simp -dsimp -implicitDefEqProofs (disch := omega) only [VCA, Nat.reduceEqDiff, ↓reduceIte, exists_eq_right, he4]
    exact Sub.refl _
end Go.Proofs.K
end
section
set_option linter.unusedSimpArgs false
set_option linter.unusedVariables false
namespace Go.Proofs.K
open Go Go.Sim Go.Proofs Go.Shelf
variable {G : Glob}
def iren : Ren := ⟨fun | 21 => 117 | 27 => 155 | 28 => 156 | 35 => 184 | 39 => 172 | n => n, fun | 0 => 0 | 3 => 3 | 4 => 4 | 22 => 38 | n => n, fun n => n⟩
theorem lays21 : Lays2.n21 Tryz.prog iren := {
  mixed := by kernel_rfl
  f21 := Tryz.func117.trans (congrArg some (by kernel_rfl))
  f27 := Tryz.func155.trans (congrArg some (by kernel_rfl))
  f28 := Tryz.func156.trans (congrArg some (by kernel_rfl))
  f35 := Tryz.func184.trans (congrArg some (by kernel_rfl))
  f39 := Tryz.func172.trans (congrArg some (by kernel_rfl))
  t0 := Tryz.underlying0
  a0 := Tryz.isAgg0
  z0 := Tryz.sizeOf0
  v0 := Tryz.zeroValue0
  t3 := Tryz.underlying3
  a3 := Tryz.isAgg3
  z3 := Tryz.sizeOf3
  v3 := Tryz.zeroValue3
  t4 := Tryz.underlying4
  a4 := Tryz.isAgg4
  z4 := Tryz.sizeOf4
  v4 := Tryz.zeroValue4
  t22 := Tryz.underlying38
  a22 := Tryz.isAgg38
  z22 := Tryz.sizeOf38
  v22 := Tryz.zeroValue38
  i3 := by kernel_rfl }
theorem setCells_blk (b : Nat) : ∀ (vs : List Value) (o : Nat) (w : World) (cur : Array Value) (t : TypeId) (f : Nat × Nat), w.heap[b]? = some (.cells cur t f) → o + vs.length ≤ cur.size →
    ∃ cur' : Array Value, (w.setCells b o vs).heap[b]? = some (.cells cur' t f) ∧ cur'.size = cur.size ∧ (∀ k, cur'[k]? = if o ≤ k ∧ k < o + vs.length then vs[k - o]? else cur[k]?) ∧ (∀ k, k ≠ b → (w.setCells b o vs).heap[k]? = w.heap[k]?) ∧
      (w.setCells b o vs).heap.size = w.heap.size ∧ (w.setCells b o vs).os = w.os ∧ (w.setCells b o vs).tape = w.tape ∧ (w.setCells b o vs).output = w.output
  | [], o, w, cur, t, f, hb, _ => ⟨cur, hb, rfl, fun k => by rw [if_neg (by simp)], fun _ _ => rfl, rfl, rfl, rfl, rfl⟩
  | v :: r, o, w, cur, t, f, hb, hl => by
    have hlt : b < w.heap.size := (Array.getElem?_eq_some_iff.1 hb).1
    have h1 : (w.setCell ⟨b, o, none⟩ v).heap[b]? = some (.cells (cur.setIfInBounds o v) t f) := by
      unfold World.setCell
      rw [Array.getElem?_modify, if_pos rfl, hb]; rfl
    simp only [List.length_cons] at hl
    obtain ⟨cur', g1, g2, g3, g4, g5, g6, g7, g8⟩ := setCells_blk b r (o + 1) (w.setCell ⟨b, o, none⟩ v) _ t f h1 (by simp; omega)
    refine ⟨cur', g1, by rw [g2]; simp, fun k => ?_, fun k hk => ?_, ?_, g6, g7, g8⟩
    · rw [g3]
      by_cases hk : k = o
      · subst hk
        rw [if_neg (by omega), if_pos (by simp)]
        rw [Array.getElem?_setIfInBounds]
        first | (simp; omega) | simp
        try omega
      · by_cases hi : o + 1 ≤ k ∧ k < o + 1 + r.length
        · rw [if_pos hi, if_pos (by simp; omega), show k - o = (k - (o + 1)) + 1 by omega, List.getElem?_cons_succ]
        · rw [if_neg hi, if_neg (by simp; omega), Array.getElem?_setIfInBounds, if_neg (by omega)]
    · rw [World.setCells, g4 k hk]
      unfold World.setCell
      rw [Array.getElem?_modify, if_neg (fun h => hk h.symm)]
    · rw [World.setCells, g5]; simp [World.setCell]
def IntsAt (cur : Array Value) (bo : Nat) (l : List Int) : Prop := ∀ k, k < l.length → cur[bo + k]? = some (.int .i64 (nth l k))
theorem IntsAt.cells {cur : Array Value} {bo : Nat} {l : List Int} (I : IntsAt cur bo l) (g : Ghost) (w : World) : ∀ (i j : Nat) (e : List AVal) (x : AVal), (l.map eInt)[i]? = some e → e[j]? = some x → ∃ u : Value, cur[bo + (i * 1 + j)]? = some u ∧ u.oneCell' = true ∧ VRel g w u x := by
  intro i j e x he hx
  rw [List.getElem?_map] at he
  obtain ⟨n, hn, rfl⟩ := Option.map_eq_some_iff.1 he
  have hi := (List.getElem?_eq_some_iff.1 hn).1
  have hj : j = 0 := by
    have := (List.getElem?_eq_some_iff.1 hx).1
    simp [eInt] at this; exact this
  subst hj
  cases hx
  have e1 : nth l i = n := by rw [nth_some hi] at hn; exact Option.some.inj hn
  refine ⟨.int .i64 n, ?_, rfl, .int _ _⟩
  have := I i hi
  rw [e1] at this
  simpa using this
theorem ints_block {h : Heap} {g : Ghost} {w : World} (H : HRel h g w) {r : Nat} {es : List (List AVal)} {l : List Int} (hr : h r = some ⟨.t 3, 1, es⟩) (hl : l.length ≤ es.length) (ht : es.take l.length = l.map eInt) (hc : g.cap r ≠ 0) :
    ∃ cur : Array Value, w.heap[g.eta r]? = some (.cells cur 3 (0, 0)) ∧ g.bo r + g.cap r = cur.size ∧ IntsAt cur (g.bo r) l := by
  have O := H.obj r _ hr
  rcases O.block with h0 | ⟨_, _, cur, hcur, hsz, hcell⟩
  · exact absurd h0 hc
  · refine ⟨cur, hcur, by simpa using hsz, fun k hk => ?_⟩
    have he : es[k]? = some (eInt (nth l k)) := by
      have h1 : (es.take l.length)[k]? = some (eInt (nth l k)) := by rw [ht, List.getElem?_map, nth_some hk]; rfl
      rw [List.getElem?_take, if_pos hk] at h1; exact h1
    obtain ⟨u, hu, _, hv⟩ := hcell k 0 _ _ he rfl
    rw [hv.int_inv] at hu
    simpa using hu
theorem new_fin {h : Heap} {g : Ghost} {w w' : World} (H : HRel h g w) {cells : Array Value} {cap : Nat} {l : List Int} (hp : w'.heap = (w.alloc (.cells cells 3)).heap) (h1 : w'.os = w.os) (h2 : w'.tape = w.tape) (h3 : w'.output = w.output)
    (hcs : cells.size = cap) (hle : l.length ≤ cap) (hm : cap ≤ maxLen) (I : IntsAt cells 0 l) :
    ∃ g', GS g w g' w' ∧ HRel (upd h g.nxt (some ⟨.t 3, 1, l.map eInt⟩)) g' w' ∧ VRel g' w' (.slice (some ⟨w.heap.size, 0, none⟩) l.length cap) (.osl g.nxt 1 0 l.length) := by
  obtain ⟨S1, H1⟩ := root_new H cells (ty := 3) (sz := 1) (cap := cap) (es := l.map eInt) (by decide) (by omega) (by simpa using hle) (fun e he => by obtain ⟨x, _, rfl⟩ := List.mem_map.1 he; rfl) (fun i j e x he hx => by
    have := I.cells g w i j e x he hx
    simpa using this)
  obtain ⟨S2, H2⟩ := H1.ext (w' := w') (fun b _ => by rw [hp]) h1 h2 h3 (by rw [hp]; exact Nat.le_refl _)
  refine ⟨_, S1.trans S2, H2, ?_⟩
  have := VRel.osl (g := g.add w.heap.size 0 cap 1) (w := w') g.nxt 1 0 l.length cap 0 (Nat.lt_succ_self _) (by simp [Ghost.add]) hle hm (by simp [Ghost.add]) (fun _ => by simp [Ghost.add])
  simpa [Ghost.add] using this
theorem put_fin {h : Heap} {g : Ghost} {w w' : World} (H : HRel h g w) {r : Nat} {es : List (List AVal)} (hr : h r = some ⟨.t 3, 1, es⟩) (hc : g.cap r ≠ 0) {cur' : Array Value} {l : List Int} (hb : w'.heap[g.eta r]? = some (.cells cur' 3 (0, 0)))
    (hs : ∀ b, b ≠ g.eta r → w'.heap[b]? = w.heap[b]?) (hz : w'.heap.size = w.heap.size) (h1 : w'.os = w.os) (h2 : w'.tape = w.tape) (h3 : w'.output = w.output) (hsz : g.bo r + g.cap r = cur'.size) (hle : l.length ≤ g.cap r) (hm : g.cap r ≤ maxLen) (I : IntsAt cur' (g.bo r) l) :
    ∃ g', GS g w g' w' ∧ HRel (upd (del h r) g.nxt (some ⟨.t 3, 1, l.map eInt⟩)) g' w' ∧ VRel g' w' (.slice (some ⟨g.eta r, g.bo r, none⟩) l.length (g.cap r)) (.osl g.nxt 1 0 l.length) := by
  have O := H.obj r _ hr
  rcases O.block with h0 | ⟨hlt, hnf, cur, hcur, _, _⟩
  · exact absurd h0 hc
  · obtain ⟨S, H1⟩ := root_touch H hr hc (w' := w') hs hz h1 h2 h3 ⟨_, _, _, hb⟩
    have H2 := H1.add (blk := g.eta r) (bo := g.bo r) (cap := g.cap r) (sz := 1) (ty := 3) (es := l.map eInt) (by decide) (fun e he => by obtain ⟨x, _, rfl⟩ := List.mem_map.1 he; rfl) (by simpa using hle) (.inr ⟨by rw [hz]; exact hlt, hnf, fun t ob ht h0 he => by
      unfold Sim.del at ht
      split at ht
      · cases ht
      · rename_i hne; exact hne (H.inj t r ob _ ht hr h0 hc he), cur', hb, by omega, I.cells g w'⟩)
    refine ⟨_, S.addTo _ _ _ _ (.inr (.inl ⟨r, O.lt, hc, rfl⟩)), H2, ?_⟩
    have := VRel.osl (g := g.add (g.eta r) (g.bo r) (g.cap r) 1) (w := w') g.nxt 1 0 l.length (g.cap r) (g.bo r) (Nat.lt_succ_self _) (by simp [Ghost.add]) hle hm (by simp [Ghost.add]) (fun _ => by simp [Ghost.add])
    simpa [Ghost.add] using this
theorem ins_len (l : List Int) (i : Nat) (x : Int) (hi : i ≤ l.length) : (l.take i ++ x :: l.drop i).length = l.length + 1 := by
  rw [List.length_append, List.length_cons, List.length_take, List.length_drop]; omega
theorem ins_nth (l : List Int) (i : Nat) (x : Int) (hi : i ≤ l.length) (k : Nat) : nth (l.take i ++ x :: l.drop i) k = if k < i then nth l k else if k = i then x else nth l (k - 1) := by
  unfold nth
  simp only [List.getD_eq_getElem?_getD]
  by_cases h1 : k < i
  · rw [if_pos h1, List.getElem?_append_left (by rw [List.length_take]; omega), List.getElem?_take, if_pos h1]
  · rw [if_neg h1, List.getElem?_append_right (by rw [List.length_take]; omega), List.length_take, Nat.min_eq_left hi]
    by_cases h2 : k = i
    · rw [if_pos h2, h2]; simp
    · rw [if_neg h2, show k - i = (k - i - 1) + 1 by omega, List.getElem?_cons_succ, List.getElem?_drop, show i + (k - i - 1) = k - 1 by omega]
end Go.Proofs.K
end
section
set_option linter.unusedSimpArgs false
set_option linter.unusedVariables false
namespace Go.Proofs.K
open Go Go.Sim Go.Proofs Go.Shelf
variable {G : Glob}
theorem vrel_three {g : Ghost} {w : World} {vs : Array Value} {a b c : AVal} (V : VRelL g w vs [a, b, c]) : ∃ u v x, vs = #[u, v, x] ∧ VRel g w u a ∧ VRel g w v b ∧ VRel g w x c := by
  obtain ⟨hs, hv⟩ := V
  obtain ⟨l⟩ := vs
  match l, hs with
  | [u, v, x], _ => exact ⟨u, v, x, rfl, hv 0 u a rfl rfl, hv 1 v b rfl rfl, hv 2 x c rfl rfl⟩
def intsV (l : List Int) : List Value := l.map (Value.int .i64)
theorem intsV_get {l : List Int} {j : Nat} {v : Value} (h : (intsV l)[j]? = some v) : j < l.length ∧ v = .int .i64 (nth l j) := by
  unfold intsV at h
  rw [List.getElem?_map] at h
  obtain ⟨n, hn, rfl⟩ := Option.map_eq_some_iff.1 h
  have hj := (List.getElem?_eq_some_iff.1 hn).1
  refine ⟨hj, ?_⟩
  rw [nth_some hj] at hn
  rw [Option.some.inj hn]
theorem intsV_at {l : List Int} {j : Nat} (h : j < l.length) : (intsV l)[j]? = some (.int .i64 (nth l j)) := by
  unfold intsV; rw [List.getElem?_map, nth_some h]; rfl
theorem intsV_one {l : List Int} : ∀ v ∈ intsV l, v.oneCell' = true := fun v hv => by
  obtain ⟨x, _, rfl⟩ := List.mem_map.1 hv; rfl
theorem insertI_ok {h : Heap} {a : AVal} {l : List Int} {x : Int} {i rv : Nat} (O : OwnS h 3 1 (l.map eInt) a) (M : Mut a) (hi : i ≤ l.length) (hl : l.length ≤ 100000) (hrv : h rv = some ⟨.t 3, 1, [eInt x]⟩) (hne : rootOf a ≠ some rv) :
    DCalls (Pg G) 117 [a, aInt i, .osl rv 1 0 1] h fun r h' => ∃ r', r = .osl r' 1 0 (l.length + 1) ∧ h' r' = some ⟨.t 3, 1, (l.take i ++ x :: l.drop i).map eInt⟩ ∧ (rootOf a = some r' ∨ h r' = none) ∧ (∀ t o, h t = some o → rootOf a ≠ some t → h' t = some o) := by
  refine ⟨⟨_, Tryz.func117, by kernel_rfl, by kernel_rfl⟩, fun g w vs H GR V => ?_⟩
  obtain ⟨va, vi, vv, rfl, ha, hvi, hv⟩ := vrel_three V
  rw [hvi.int_inv]
  obtain ⟨hrl, hsz, hc⟩ := hv.osl_inv
  rcases hc with ⟨_, _, h0, _⟩ | ⟨capv, offv, rfl, hncv, hmv, hiv, hoffv⟩
  · omega
  have hcv : g.cap rv ≠ 0 := by omega
  obtain ⟨curv, hcurv, hszv, Iv⟩ := ints_block H (l := [x]) hrv (by simp) (by simp) hcv
  have hov : offv = g.bo rv := by have := hoffv (by omega); omega
  subst hov
  have cv : ∀ j v, [Value.int .i64 x][j]? = some v → w.cell? ⟨g.eta rv, g.bo rv + j, none⟩ = some v := fun j v hj => by
    have h1 := intsV_get (l := [x]) (j := j) (v := v) hj
    rw [cell_of_row w _ _ curv _ _ hcurv, Iv j h1.1, h1.2]
  have one1 : ∀ v ∈ [Value.int .i64 x], v.oneCell' = true := fun v hv => by simp at hv; subst hv; rfl
  have nx := H.none_nxt
  have ins := ins_len l i x hi
  have insn := ins_nth l i x hi
  have empty : l = [] → ∀ (A : Option Addr), va = .slice A 0 0 → Calls Tryz.prog 117 #[va, .int .i64 i, .slice (some ⟨g.eta rv, g.bo rv, none⟩) 1 capv] w fun e w' => ∃ v r h' g', e = .returned v ∧ (∃ r', r = .osl r' 1 0 (l.length + 1) ∧ h' r' = some ⟨.t 3, 1, (l.take i ++ x :: l.drop i).map eInt⟩ ∧ (rootOf a = some r' ∨ h r' = none) ∧ (∀ t o, h t = some o → rootOf a ≠ some t → h' t = some o)) ∧ HRel h' g' w' ∧ VRel g' w' v r ∧ GS g w g' w' := by
    intro hl0 A hA
    subst hl0
    obtain rfl : i = 0 := by simpa using hi
    rw [hA]
    refine (Any2.slices_Insert_int_end_grow lays21 A 0 0 (g.eta rv) (g.bo rv) 1 capv [] [.int .i64 x] w (by decide) (by decide) (by decide) (by decide) rfl rfl (fun _ => rfl) (fun _ _ j v hj => by simp at hj) cv one1).mono fun e w' ⟨he, hw⟩ => ?_
    have ge := grownCap_ge w (0 + 1) 0 (iren.t 3)
    have gm := grownCap_le_maxLen w (0 + 1) 0 (iren.t 3) (by decide)
    generalize grownCap w (0 + 1) 0 (iren.t 3) = gc at *
    obtain ⟨g', S, H', V'⟩ := new_fin (w' := w') (l := [x]) (cap := gc) H (by rw [hw]; rfl) (by rw [hw]; rfl) (by rw [hw]; rfl) (by rw [hw]; rfl) (by rw [Array.size_append, size_zeroCells]; show 1 + (gc - (0 + 1)) * 1 = gc; omega) (by simpa using ge) gm (fun k hk => by
      have : k = 0 := by simpa using hk
      subst this
      rw [Array.getElem?_append_left (by simp)]; rfl)
    refine ⟨_, .osl g.nxt 1 0 1, _, g', he, ⟨g.nxt, rfl, upd_same _ _ _, .inr nx, fun t o ht _ => by rw [upd_ne _ _ (fun e => by rw [e, nx] at ht; cases ht)]; exact ht⟩, H', by simpa using V', S⟩
  rcases O.live M with ⟨hl0, rfl⟩ | ⟨r, es, rfl, hr, hle, hte⟩
  · obtain ⟨A, hA, _⟩ := ha.emp_inv
    exact empty (by simpa using hl0) A hA
  · rw [List.length_map] at ha hle hte ⊢
    obtain ⟨_, _, hca⟩ := ha.osl_inv
    rcases hca with ⟨hA, _, h0, _⟩ | ⟨c, off, hA, hnc, hm, hic, hoff⟩
    · have : l = [] := List.eq_nil_of_length_eq_zero h0
      exact empty this none (by rw [hA])
    · have hcap : g.cap r = c := by omega
      have hle2 := (H.obj r _ hr).le
      by_cases hc0 : c = 0
      · have hn0 : l.length = 0 := by omega
        subst hc0
        exact empty (List.eq_nil_of_length_eq_zero hn0) (some ⟨g.eta r, off, none⟩) (by rw [hA, hn0])
      · have hof : off = g.bo r := by have := hoff (by omega); omega
        subst hof
        have hcr : g.cap r ≠ 0 := by omega
        obtain ⟨cur, hcur, hsz2, I⟩ := ints_block H hr hle hte hcr
        rw [hA]
        have cs : ∀ j v, (intsV l)[j]? = some v → w.cell? ⟨g.eta r, g.bo r + j, none⟩ = some v := fun j v hj => by
          obtain ⟨h1, rfl⟩ := intsV_get hj
          rw [cell_of_row w _ _ cur _ _ hcur, I j h1]
        have cln : (intsV l).length = l.length := by simp [intsV]
        have hnb : g.eta rv ≠ g.eta r := fun e => hne (by rw [H.inj rv r _ _ hrv hr hcv hcr e]; rfl)
        have sp : ∀ j, g.bo r + j < cur.size → (w.cell? ⟨g.eta r, g.bo r + j, none⟩).isSome = true := fun j hj => by
          rw [cell_of_row w _ _ cur _ _ hcur, Array.getElem?_eq_getElem hj]; rfl
        have fzn : ∀ b k (cu : Array Value) t, w.heap[b]? = some (.cells cu t (0, 0)) → w.frozen? ⟨b, k, none⟩ = false := fun b k cu t hb => by simp [World.frozen?, hb]
        have kp : ∀ (ob : AObj) t o, h t = some o → rootOf (.osl r 1 0 l.length) ≠ some t → upd (del h r) g.nxt (some ob) t = some o := fun ob t o ht hn => by
          rw [upd_ne _ _ (fun e => by rw [e, nx] at ht; cases ht)]
          unfold del
          rw [if_neg (fun e => hn (by rw [e]; rfl))]; exact ht
        have kp2 : ∀ (ob : AObj) t o, h t = some o → rootOf (.osl r 1 0 l.length) ≠ some t → upd h g.nxt (some ob) t = some o := fun ob t o ht hn => by
          rw [upd_ne _ _ (fun e => by rw [e, nx] at ht; cases ht)]; exact ht
        have dl : ((intsV l).drop i).length = l.length - i := by rw [List.length_drop, cln]
        by_cases hroom : l.length + 1 ≤ c
        · by_cases hin : i < l.length
          · refine (Any2.slices_Insert_int_shift lays21 (g.eta r) (g.bo r) l.length c i (g.eta rv) (g.bo rv) 1 capv (intsV l) [.int .i64 x] w hin (by decide) hroom (by simp only [maxLen] at hm; omega) hnb cln rfl cs (fun j hj => sp j (by omega)) (fun j _ => fzn _ _ _ _ hcur) cv intsV_one one1 3 3 curv.size cur.size (by simp [World.shape?, hcurv]) (by simp [World.shape?, hcur]) (by omega) (fzn _ _ _ _ hcurv) (fzn _ _ _ _ hcurv)).mono fun e w' ⟨he, hw⟩ => ?_
            obtain ⟨c1, b1, s1, k1, o1, z1, p1, p2, p3⟩ := setCells_blk (g.eta r) ((intsV l).drop i) (g.bo r + (i + 1)) w.drew cur _ _ hcur (by rw [dl]; omega)
            obtain ⟨c2, b2, s2, k2, o2, z2, q1, q2, q3⟩ := setCells_blk (g.eta r) [.int .i64 x] (g.bo r + i) (w.drew.setCells (g.eta r) (g.bo r + (i + 1)) ((intsV l).drop i)) c1 _ _ b1 (by simp; omega)
            have I2 : IntsAt c2 (g.bo r) (l.take i ++ x :: l.drop i) := fun k hk => by
              rw [ins] at hk
              rw [k2, insn k]
              by_cases h1 : k = i
              · rw [if_pos (by simp; omega), if_neg (by omega), if_pos h1, h1, Nat.sub_self]; rfl
              · rw [if_neg (by simp; omega), k1, dl]
                by_cases h2 : k < i
                · rw [if_neg (by omega), if_pos h2]; exact I k (by omega)
                · rw [if_pos (by omega), if_neg h2, if_neg h1, List.getElem?_drop, show i + (g.bo r + k - (g.bo r + (i + 1))) = k - 1 by omega]
                  exact intsV_at (by omega)
            obtain ⟨g', S, H', V'⟩ := put_fin (w' := w') (cur' := c2) H hr hcr (by rw [hw]; exact b2) (fun b hb => by rw [hw, o2 b hb, o1 b hb]; rfl) (by rw [hw, z2, z1]; rfl) (by rw [hw, q1, p1]; rfl) (by rw [hw, q2, p2]; rfl) (by rw [hw, q3, p3]; rfl) (by omega) (by omega) (by omega) I2
            rw [ins, hcap] at V'
            exact ⟨_, .osl g.nxt 1 0 (l.length + 1), _, g', he, ⟨g.nxt, rfl, upd_same _ _ _, .inr nx, kp _⟩, H', V', S⟩
          · obtain rfl : i = l.length := by omega
            refine (Any2.slices_Insert_int_end_room lays21 (g.eta r) (g.bo r) l.length c (g.eta rv) (g.bo rv) 1 capv [.int .i64 x] w (by decide) hroom (by simp only [maxLen] at hm; omega) rfl (fun j hj => by rw [Nat.add_assoc]; exact sp _ (by omega)) (fun j _ => fzn _ _ _ _ hcur) cv one1).mono fun e w' ⟨he, hw⟩ => ?_
            obtain ⟨c2, b2, s2, k2, o2, z2, q1, q2, q3⟩ := setCells_blk (g.eta r) [.int .i64 x] (g.bo r + l.length) w cur _ _ hcur (by simp; omega)
            have I2 : IntsAt c2 (g.bo r) (l.take l.length ++ x :: l.drop l.length) := fun k hk => by
              rw [ins] at hk
              rw [k2, insn k]
              by_cases h1 : k = l.length
              · rw [if_pos (by simp; omega), if_neg (by omega), if_pos h1, h1, Nat.sub_self]; rfl
              · rw [if_neg (by simp; omega), if_pos (by omega)]; exact I k (by omega)
            obtain ⟨g', S, H', V'⟩ := put_fin (w' := w') (cur' := c2) H hr hcr (by rw [hw]; exact b2) (fun b hb => by rw [hw, o2 b hb]) (by rw [hw, z2]) (by rw [hw, q1]) (by rw [hw, q2]) (by rw [hw, q3]) (by omega) (by omega) (by omega) I2
            rw [ins, hcap] at V'
            exact ⟨_, .osl g.nxt 1 0 (l.length + 1), _, g', he, ⟨g.nxt, rfl, upd_same _ _ _, .inr nx, kp _⟩, H', V', S⟩
        · have ge := grownCap_ge w (l.length + 1) c (iren.t 3)
          have gm := grownCap_le_maxLen w (l.length + 1) c (iren.t 3) (by simp only [maxLen]; omega)
          by_cases hin : i < l.length
          · refine (Any2.slices_Insert_int_grow lays21 (g.eta r) (g.bo r) l.length c i (g.eta rv) (g.bo rv) 1 capv (intsV l) [.int .i64 x] w hin (by decide) hnc (by omega) (by omega) cln rfl cs cv intsV_one one1).mono fun e w' ⟨he, hw⟩ => ?_
            generalize grownCap w (l.length + 1) c (iren.t 3) = gc at *
            have z0 : ∀ k, (Builtin.zeroCells (Value.int .i64 0).cells k).size = k := fun k => by rw [size_zeroCells]; show k * 1 = k; omega
            rw [show iren.t 3 = 3 from rfl] at hw
            generalize hC0 : (((intsV l).take i).toArray ++ Builtin.zeroCells (Value.int .i64 0).cells (l.length + 1 - i) ++ Builtin.zeroCells (Value.int .i64 0).cells (gc - (l.length + 1))) = C0 at hw
            have sC : C0.size = gc := by
              rw [← hC0, Array.size_append, Array.size_append, z0, z0, List.size_toArray, List.length_take, cln]; omega
            have gC : ∀ k, k < i → C0[k]? = some (.int .i64 (nth l k)) := fun k hk => by
              rw [← hC0, Array.append_assoc, Array.getElem?_append_left (by rw [List.size_toArray, List.length_take, cln]; omega), List.getElem?_toArray, List.getElem?_take, if_pos hk]
              exact intsV_at (by omega)
            have hb0 : (w.alloc (.cells C0 3)).drew.heap[w.heap.size]? = some (.cells C0 3 (0, 0)) := heap_push_new w _
            obtain ⟨c1, b1, s1, k1, o1, z1, p1, p2, p3⟩ := setCells_blk w.heap.size [.int .i64 x] i (w.alloc (.cells C0 3)).drew C0 _ _ hb0 (by simp; omega)
            obtain ⟨c2, b2, s2, k2, o2, z2, q1, q2, q3⟩ := setCells_blk w.heap.size ((intsV l).drop i) (i + 1) ((w.alloc (.cells C0 3)).drew.setCells w.heap.size i [.int .i64 x]).drew c1 _ _ b1 (by rw [dl]; omega)
            have I2 : IntsAt c2 0 (l.take i ++ x :: l.drop i) := fun k hk => by
              rw [ins] at hk
              rw [k2, insn k, dl]
              by_cases h1 : i < k
              · rw [if_pos (by omega), if_neg (by omega), if_neg (by omega), List.getElem?_drop, show i + (0 + k - (i + 1)) = k - 1 by omega]
                exact intsV_at (by omega)
              · rw [if_neg (by omega), k1]
                by_cases h2 : k = i
                · rw [if_pos (by simp; omega), if_neg (by omega), if_pos h2, h2]; simp
                · rw [if_neg (by simp; omega), if_pos (by omega), Nat.zero_add]; exact gC k (by omega)
            have hp : w'.heap = (w.alloc (.cells c2 3)).heap := by
              rw [hw]
              apply Array.ext_getElem?
              intro b
              by_cases hb : b = w.heap.size
              · subst hb; rw [b2]; exact (heap_push_new w _).symm
              · rw [o2 b hb]
                refine (o1 b hb).trans ?_
                show (w.heap.push _)[b]? = (w.heap.push _)[b]?
                rw [Array.getElem?_push, Array.getElem?_push, if_neg hb, if_neg hb]
            obtain ⟨g', S, H', V'⟩ := new_fin (w' := w') (cap := gc) H hp (by rw [hw, q1]; exact p1) (by rw [hw, q2]; exact p2) (by rw [hw, q3]; exact p3) (by omega) (by omega) gm I2
            rw [ins] at V'
            exact ⟨_, .osl g.nxt 1 0 (l.length + 1), _, g', he, ⟨g.nxt, rfl, upd_same _ _ _, .inr nx, kp2 _⟩, H', V', S⟩
          · obtain rfl : i = l.length := by omega
            refine (Any2.slices_Insert_int_end_grow lays21 (some ⟨g.eta r, g.bo r, none⟩) l.length c (g.eta rv) (g.bo rv) 1 capv (intsV l) [.int .i64 x] w (by decide) hnc (by omega) (by omega) cln rfl (fun h => by cases h) (fun a ha j v hj => by cases ha; rw [Addr.add_lit]; exact cs j v hj) cv one1).mono fun e w' ⟨he, hw⟩ => ?_
            generalize grownCap w (l.length + 1) c (iren.t 3) = gc at *
            have z0 : ∀ k, (Builtin.zeroCells (Value.int .i64 0).cells k).size = k := fun k => by rw [size_zeroCells]; show k * 1 = k; omega
            obtain ⟨g', S, H', V'⟩ := new_fin (w' := w') (l := l.take l.length ++ x :: l.drop l.length) (cap := gc) H (by rw [hw]; rfl) (by rw [hw]; rfl) (by rw [hw]; rfl) (by rw [hw]; rfl) (by rw [Array.size_append, z0, List.size_toArray, List.length_append, cln, List.length_singleton]; omega) (by omega) gm (fun k hk => by
              rw [ins] at hk
              rw [Nat.zero_add, insn k, Array.getElem?_append_left (by rw [List.size_toArray, List.length_append, cln, List.length_singleton]; omega), List.getElem?_toArray]
              by_cases h1 : k < l.length
              · rw [if_pos h1, List.getElem?_append_left (by omega)]; exact intsV_at h1
              · rw [if_neg h1, if_pos (by omega), List.getElem?_append_right (by omega), cln, show k - l.length = 0 by omega]; rfl)
            rw [ins] at V'
            exact ⟨_, .osl g.nxt 1 0 (l.length + 1), _, g', he, ⟨g.nxt, rfl, upd_same _ _ _, .inr nx, kp2 _⟩, H', V', S⟩
end Go.Proofs.K
end
section
set_option linter.unusedSimpArgs false
set_option linter.unusedVariables false
namespace Go.Proofs.K
open Go Go.Sim Go.Proofs
variable {G : Glob}
theorem Dw.mono {X : List Nat} {h0 h h2 : Heap} {rN : Nat} {d : HDoc} {sl : Nat → AVal} (E : Dw X h0 h rN d sl) (S : Sim.Sub h h2) : Dw X h0 h2 rN d sl :=
  ⟨E.sub.trans S, S _ _ E.nodes, E.new, fun i hi => ⟨(E.own i hi).1.keep fun r o _ ho => S _ _ ho, (E.own i hi).2.keep fun r o _ ho => S _ _ ho⟩, E.fresh, E.sep, fun r hr => by obtain ⟨o, ho⟩ := E.keep r hr; exact ⟨o, S _ _ ho⟩⟩
theorem Ed.mono {h0 h h2 : Heap} {re rN : Nat} {d : HDoc} {sl : Nat → AVal} {made : Int} (E : Ed h0 h re rN d sl made) (S : Sim.Sub h h2) : Ed h0 h2 re rN d sl made := ⟨E.dw.mono S, S _ _ E.ed, E.new, E.live⟩
def c149_s6 : SCode := (.seq (.dreg [(⟨some 97, .mv (.t 5), none⟩, none), (⟨some 98, .mv (.t 5), none⟩, none), (⟨some 99, .fldA 0 (.t 98), none⟩, none), (⟨some 100, .fldA 5 (.t 99), none⟩, none), (⟨some 101, .ld 1 false (.t 100), none⟩, none), (⟨some 102, .mv (.t 7), none⟩, none), (⟨some 103, .fldA 2 (.t 3), none⟩, none), (⟨some 104, .ld 1 false (.t 103), none⟩, none), (⟨some 105, .bldR 3 1 [.t 104], none⟩, (some [104])), (⟨some 106, .call (.c (.fn 117 [] [])) [.t 101, .t 102, .t 105], none⟩, (some [101, 104])), (⟨some 107, .fldA 0 (.t 97), none⟩, none), (⟨some 108, .fldA 5 (.t 107), none⟩, none), (⟨none, .st 1 (.t 108) (.t 106), none⟩, (some [101, 104]))]) (.seq (.reg [⟨some 109, .mv (.t 6), none⟩, ⟨some 110, .fldA 1 (.t 3), none⟩, ⟨some 111, .ld 1 false (.t 110), none⟩, ⟨some 112, .fldA 0 (.t 109), none⟩, ⟨some 113, .fldA 4 (.t 112), none⟩, ⟨none, .st 1 (.t 113) (.t 111), none⟩]) (.seq (.reg [⟨some 4, .mv (.c (.int .i64 0)), none⟩]) .ret)))
def c149_s5 : SCode := (.seq (.block 1 (.seq (.reg [⟨some 73, .mv (.t 7), none⟩, ⟨some 74, .bin .lss (.t 73) (.c (.int .i64 0)), none⟩, ⟨some 72, .mv (.t 74), none⟩]) (.cond (.t 72) (.seq (.reg [⟨some 4, .mv (.c (.int .i64 5)), none⟩]) .ret) (.seq (.reg [⟨some 76, .mv (.t 0), none⟩, ⟨some 77, .fldA 1 (.t 3), none⟩, ⟨some 78, .ld 1 false (.t 77), none⟩, ⟨some 79, .fldA 2 (.t 3), none⟩, ⟨some 80, .ld 1 false (.t 79), none⟩, ⟨some 81, .call (.c (.fn 181 [] [])) [.t 76, .t 78, .t 80], none⟩, ⟨some 75, .mv (.t 81), none⟩]) (.cond (.t 75) (.seq (.reg [⟨some 4, .mv (.c (.int .i64 8)), none⟩]) .ret) (.seq (.dreg [(⟨some 83, .mv (.t 0), none⟩, none), (⟨some 84, .fldA 0 (.t 83), none⟩, none), (⟨some 85, .fldA 0 (.t 84), none⟩, none), (⟨some 86, .ld 2 true (.t 85), none⟩, none), (⟨some 87, .fldA 1 (.t 3), none⟩, none), (⟨some 88, .ld 1 false (.t 87), none⟩, none), (⟨some 91, .mv (.t 0), none⟩, none), (⟨some 92, .fldA 2 (.t 3), none⟩, none), (⟨some 93, .ld 1 false (.t 92), none⟩, none), (⟨some 89, .call (.c (.fn 91 [] [])) [.t 86, .t 88], none⟩, (some [86, 88])), (⟨some 90, .bin .add (.t 89) (.c (.int .i64 1)), none⟩, none), (⟨some 94, .call (.c (.fn 182 [] [])) [.t 91, .t 93], none⟩, (some [93, 86, 88])), (⟨some 95, .bin .add (.t 90) (.t 94), none⟩, none), (⟨some 96, .bin .gtr (.t 95) (.c (.int .i64 40)), none⟩, none), (⟨some 82, .mv (.t 96), none⟩, none)]) (.cond (.t 82) (.seq (.reg [⟨some 4, .mv (.c (.int .i64 2)), none⟩]) .ret) .skip))))))) c149_s6)
def c149 : SFun := ⟨.seq (.reg [⟨some 3, .boxF 42 12 (.t 1), none⟩, ⟨some 4, .mv (.c (.int .i64 0)), none⟩]) (.seq (.dreg [(⟨some 8, .mv (.t 0), none⟩, none), (⟨some 9, .fldA 1 (.t 3), none⟩, none), (⟨some 10, .ld 1 false (.t 9), none⟩, none), (⟨some 12, .mv (.t 0), none⟩, none), (⟨some 13, .fldA 2 (.t 3), none⟩, none), (⟨some 14, .ld 1 false (.t 13), none⟩, none), (⟨some 11, .call (.c (.fn 180 [] [])) [.t 8, .t 10], none⟩, (some [10])), (⟨some 15, .call (.c (.fn 180 [] [])) [.t 12, .t 14], none⟩, (some [14, 10])), (⟨some 5, .mv (.t 11), none⟩, none), (⟨some 6, .mv (.t 15), none⟩, none)]) (.seq (.block 0 (.seq (.reg [⟨some 17, .mv (.t 5), none⟩, ⟨some 18, .isnil 1 false (.t 17), none⟩, ⟨some 19, .mv (.t 18), none⟩, ⟨some 20, .mv (.t 6), some (19, false)⟩, ⟨some 21, .isnil 1 false (.t 20), some (19, false)⟩, ⟨some 22, .pick (.t 19) (.c (.bool true)) (.t 21), none⟩, ⟨some 16, .mv (.t 22), none⟩]) (.cond (.t 16) (.seq (.reg [⟨some 4, .mv (.c (.int .i64 5)), none⟩]) .ret) (.seq (.reg [⟨some 24, .mv (.t 5), none⟩, ⟨some 25, .fldA 0 (.t 24), none⟩, ⟨some 26, .fldA 0 (.t 25), none⟩, ⟨some 27, .ld 1 false (.t 26), none⟩, ⟨some 28, .pcall 157 [.t 27], none⟩, ⟨some 29, .un .not (.t 28), none⟩, ⟨some 30, .mv (.t 29), none⟩, ⟨some 31, .mv (.t 6), some (30, false)⟩, ⟨some 32, .fldA 0 (.t 31), some (30, false)⟩, ⟨some 33, .fldA 0 (.t 32), some (30, false)⟩, ⟨some 34, .ld 1 false (.t 33), some (30, false)⟩, ⟨some 35, .bin .eql (.t 34) (.c (.int .i64 1)), some (30, false)⟩, ⟨some 36, .pick (.t 30) (.c (.bool true)) (.t 35), none⟩, ⟨some 37, .mv (.t 36), none⟩, ⟨some 38, .mv (.t 5), some (37, false)⟩, ⟨some 39, .fldA 0 (.t 38), some (37, false)⟩, ⟨some 40, .fldA 0 (.t 39), some (37, false)⟩, ⟨some 41, .ld 1 false (.t 40), some (37, false)⟩, ⟨some 42, .bin .eql (.t 41) (.c (.int .i64 1)), some (37, false)⟩, ⟨some 43, .mv (.t 42), some (37, false)⟩, ⟨some 44, .mv (.t 6), some (43, true)⟩, ⟨some 45, .fldA 0 (.t 44), some (43, true)⟩, ⟨some 46, .fldA 0 (.t 45), some (43, true)⟩, ⟨some 47, .ld 1 false (.t 46), some (43, true)⟩, ⟨some 48, .bin .eql (.t 47) (.c (.int .i64 3)), some (43, true)⟩, ⟨some 49, .pick (.t 43) (.t 48) (.c (.bool false)), some (37, false)⟩, ⟨some 50, .pick (.t 37) (.c (.bool true)) (.t 49), none⟩, ⟨some 23, .mv (.t 50), none⟩]) (.cond (.t 23) (.seq (.reg [⟨some 4, .mv (.c (.int .i64 7)), none⟩]) .ret) (.seq (.reg [⟨some 52, .mv (.t 6), none⟩, ⟨some 53, .fldA 0 (.t 52), none⟩, ⟨some 54, .fldA 4 (.t 53), none⟩, ⟨some 55, .ld 1 false (.t 54), none⟩, ⟨some 56, .bin .geq (.t 55) (.c (.int .i64 0)), none⟩, ⟨some 51, .mv (.t 56), none⟩]) (.cond (.t 51) (.seq (.reg [⟨some 4, .mv (.c (.int .i64 9)), none⟩]) .ret) .skip))))))) (.seq (.reg [⟨some 57, .mv (.t 5), none⟩, ⟨some 58, .fldA 0 (.t 57), none⟩, ⟨some 59, .fldA 5 (.t 58), none⟩, ⟨some 60, .ld 1 false (.t 59), none⟩, ⟨some 61, .len (.t 60), none⟩, ⟨some 7, .mv (.t 61), none⟩]) (.seq (.seq (.reg [⟨some 62, .fldA 3 (.t 3), none⟩, ⟨some 63, .ld 1 false (.t 62), none⟩, ⟨some 64, .bin .neq (.t 63) (.c (.int .i64 (-1))), none⟩]) (.cond (.t 64) (.dreg [(⟨some 65, .mv (.t 5), none⟩, none), (⟨some 66, .fldA 0 (.t 65), none⟩, none), (⟨some 67, .fldA 5 (.t 66), none⟩, none), (⟨some 68, .ld 1 false (.t 67), none⟩, none), (⟨some 69, .fldA 3 (.t 3), none⟩, none), (⟨some 70, .ld 1 false (.t 69), none⟩, none), (⟨some 71, .call (.c (.fn 80 [] [])) [.t 68, .t 70], none⟩, (some [68, 70])), (⟨some 7, .mv (.t 71), none⟩, none)]) .skip)) c149_s5)))), [.tmp 4]⟩
theorem hc149 : toSF Tryz.prog {pure := [157], how := [(105, 2)]} Tryz.f149 = some c149 := by kernel_rfl
theorem hn149 : (Tryz.f149.name == "runtime.NumGoroutine") = false := by kernel_rfl
theorem einsert_ok {h0 h : Heap} {re rN : Nat} {d : HDoc} {sl : Nat → AVal} {made : Int} (E : Ed h0 h re rN d sl made) (V : DV d) (sm : DocSm d) (e : HEdit) (he : EditSm e) (hdo : e.do' = 5) : DCalls (Pg G) 149 [.vp re 0, .agg (eEdit e)] h (EdR h0 h re d e made) := by
  have gN := E.dw.nodes
  have gE := E.ed
  have ner := E.ne
  have vl := V.len
  have hE1 := enode_ok (G := G) E e.at'
  have hE2 := enode_ok (G := G) E e.to
  unfold nodeP at hE1 hE2
  have eE : editE d e = if ¬ inD d e.at' ∨ ¬ inD d e.to then 5
    else if ¬ ((nd d e.at').kind = 1 ∨ (nd d e.at').kind = 2) ∨ (nd d e.to).kind = 1 ∨ ((nd d e.at').kind = 1 ∧ (nd d e.to).kind = 3) then 7
    else if 0 ≤ (nd d e.to).parent then 9 else if e.before ≠ -1 ∧ e.before ∉ (nd d e.at').kids then 5 else if e.to ∈ chain d e.at' then 8
    else if 40 < up d e.at' + 1 + low d e.to then 2 else 0 := by unfold editE; rw [if_neg (by omega), if_neg (by omega), if_neg (by omega), if_neg (by omega), if_pos hdo]
  have eD : editD d e = hung d e.at' e.to (insAt d e) := by unfold editD; rw [if_neg (by omega), if_neg (by omega), if_neg (by omega), if_neg (by omega), if_pos hdo]
  have hm4 : made = if e.do' = 4 then (d.nodes.length : Int) else made := by rw [if_neg (by omega)]
  have s5 : inD d e.at' → inD d e.to → ((nd d e.at').kind = 1 ∨ (nd d e.at').kind = 2) → ¬ (nd d e.to).kind = 1 → ¬ 0 ≤ (nd d e.to).parent → ¬ (e.before ≠ -1 ∧ e.before ∉ (nd d e.at').kids) →
      editE d e = (if e.to ∈ chain d e.at' then 8 else if 40 < up d e.at' + 1 + low d e.to then 2 else 0) → ∀ env : Env, env 0 = .vp re 0 → env 3 = .pin (eEdit e) → env 5 = .ptr rN e.at'.toNat 0 → env 6 = .ptr rN e.to.toNat 0 → env 7 = aInt (insAt d e) →
      vc (Pg G) c149_s5 (retK [.tmp 4] (EdR h0 h re d e made)) env h := by
    intro ha ht hp h71 h9 hb eE env v0 v3 v5 v6 v7
    have ha' := ha.nat.1
    have ht' := ht.nat.1
    have a0 := ha.1
    have t0 := ht.1
    have hBe := (ebelow_ok (G := G) d V made e.at' e.to ha t0)
    have hBe2 : DCalls (Pg G) 181 [.vp re 0, aInt e.at', aInt e.to] h fun r h' => r = .bool (decide (e.to ∈ chain d e.at')) ∧ h' = h := DCalls.bor hBe (.bool _) (.cons E.vw (.cons (.refl _) (.cons (.refl _) .nil)))
    have hUp : DCalls (Pg G) 91 [.agg [.osl rN 6 0 d.nodes.length, .bool d.quirks], aInt e.at'] h fun r h' => r = aInt (up d e.at') ∧ h' = h := DCalls.bor (up_ok (G := G) d sm (fun n hn hp => (V.par_in hn hp).1) e.at' ha) (.int _ _) (.cons E.vwD (.cons (.refl _) .nil))
    have hDe : DCalls (Pg G) 182 [.vp re 0, aInt e.to] h fun r h' => r = aInt (low d e.to) ∧ h' = h := DCalls.bor (edeep_ok (G := G) d V sm made e.to ht) (.int _ _) (.cons E.vw (.cons (.refl _) .nil))
    have u40 := V.deep e.at' ha
    have l40 := low_40 V ht
    have s6 : e.to ∉ chain d e.at' → editE d e = 0 → ∀ env : Env, env 3 = .pin (eEdit e) → env 5 = .ptr rN e.at'.toNat 0 → env 6 = .ptr rN e.to.toNat 0 → env 7 = aInt (insAt d e) →
        vc (Pg G) c149_s6 (retK [.tmp 4] (EdR h0 h re d e made)) env h := by
      intro hc eE env v3 v5 v6 v7
      unfold c149_s6
      skip
      have ga := rowsA_get (sl := sl) ha'
      have gt := rowsA_get (sl := sl) ht'
      have rl := rowsA_len d sl
      have e0 : nth d.nodes e.at'.toNat = nd d e.at' := rfl
      have e1 : nth d.nodes e.to.toNat = nd d e.to := rfl
      rw [e0] at ga
      rw [e1] at gt
      unfold rowA at ga gt
      have kl := (sm.nd e.at').kids
      have lv := E.live (2 * e.at'.toNat + 1) (by omega)
      have hne : e.at' ≠ e.to := fun h => hc (by rw [h]; exact chain_self _ _)
      have hnn : e.at'.toNat ≠ e.to.toNat := by omega
      have hIl : insAt d e ≤ (nd d e.at').kids.length := by
        unfold insAt
        have := idxM_leK (nd d e.at').kids e.before
        split <;> omega
      have nr0 : ∀ t, rootOf (sl (2 * e.at'.toNat + 1)) = some t → t ≠ rN := fun t ht => (E.root_ne (by omega) ht).1
      have kb : (nd d e.at').kids.length ≤ 100000 := by
        have := nodup_len d.nodes.length (nd d e.at').kids (V.nodup _ ha) (fun k hk => (V.kid _ ha k hk).1)
        omega
      simp -dsimp -implicitDefEqProofs (disch := omega) only [VCA, Nat.reduceEqDiff, Nat.reduceBEq, Nat.reduceAdd, Nat.reduceLeDiff, ↓reduceIte, rsOf, rootsOf, SOp.rd, SI.rd, SX.rd, rdL, okParts, forall_const, exists_eq_left', rootL, lit_eq, v3, v5, v7, gN, ga, rl, eEdit]
      refine ⟨by omega, fun r hr => ?_⟩
      have nr : ¬ rN = r := fun h => by rw [← h, gN] at hr; cases hr
      have S1 := (Sub.refl h).upd (x := some ⟨.t 3, 1, [eInt e.to]⟩) hr
      have E1 := E.mono S1
      obtain ⟨oA, oK⟩ := E1.dw.own _ ha'
      rw [e0] at oK
      have hIns := insertI_ok (G := G) (x := e.to) (i := insAt d e) oK lv hIl kb (upd_same _ _ _) (fun h => by obtain ⟨o, ho⟩ := E.dw.slot (k := 2 * e.at'.toNat + 1) (by omega) h; rw [hr] at ho; cases ho)
      have gN1 := E1.dw.nodes
      have keepN : ∀ h9 : Heap, (∀ t o, upd h r (some ⟨.t 3, 1, [eInt e.to]⟩) t = some o → rootOf (sl (2 * e.at'.toNat + 1)) ≠ some t → h9 t = some o) → h9 rN = some ⟨.t 40, 6, rowsA d sl⟩ := fun h9 kp => kp rN _ gN1 (fun h => nr0 _ h rfl)
      unfold eInt at hIns
      simp -dsimp -implicitDefEqProofs (disch := omega) only [VCA, ↓reduceIte, nr]
      refine DCalls.of hIns ?_
      rintro _ h9 ⟨r', rfl, hr', hf, kp⟩
      have gN9 := keepN h9 kp
      have gne := fun (x : List AVal) => getD_set_ne (es := rowsA d sl) (x := x) hnn
      repeat' (first | ((with_reducible refine brC (fun _ => ?_) fun _ => ?_) <;> try (exfalso; omega)) | (with_reducible refine And.intro ?_ ?_; · omega) | simp -dsimp -implicitDefEqProofs (disch := omega) only [VCA, Nat.reduceEqDiff, Nat.reduceBEq, Nat.reduceAdd, Nat.reduceLeDiff, ↓reduceIte, rsOf, rootsOf, SOp.rd, SI.rd, SX.rd, rdL, setAt, implies_true, exists_eq_left', rootL, v3, v6, gN, gN9, ga, gt, rl, nr, gne, List.length_set, eEdit])
      have ln := ins_len (nd d e.at').kids (insAt d e) e.to hIl
      have hO : OwnS h9 3 1 (((nd d e.at').kids.take (insAt d e) ++ e.to :: (nd d e.at').kids.drop (insAt d e)).map eInt) (.osl r' 1 0 ((nd d e.at').kids.length + 1)) :=
        .inr (.inr ⟨r', _, by rw [List.length_map, ln], hr', Nat.le_refl _, List.take_length⟩)
      have E2 := E1.slotK ha' kp hO (fun es e => by cases e) (fun t ht => by cases ht; exact hf)
      rw [e0] at E2
      have nn := E2.dw.rows_eq
      have n1 : nth (d.nodes.set e.at'.toNat { nd d e.at' with kids := (nd d e.at').kids.take (insAt d e) ++ e.to :: (nd d e.at').kids.drop (insAt d e) }) e.to.toNat = nd d e.to := by
        rw [nth_set _ _ _ _ ha', if_neg (fun h => hnn h.symm)]; rfl
      have E3 := E2.cells (i := e.to.toNat) (by simpa using ht') (x' := { nd d e.to with parent := e.at' }) (by show _ = (nth (d.nodes.set _ _) _).attrs; rw [n1]) (by show _ = (nth (d.nodes.set _ _) _).kids; rw [n1])
      rw [← nn] at E3
      have v1 : upd sl (2 * e.at'.toNat + 1) (AVal.osl r' 1 0 ((nd d e.at').kids.length + 1)) (2 * e.to.toNat) = sl (2 * e.to.toNat) := upd_ne _ _ (by omega)
      have v2 : upd sl (2 * e.at'.toNat + 1) (AVal.osl r' 1 0 ((nd d e.at').kids.length + 1)) (2 * e.to.toNat + 1) = sl (2 * e.to.toNat + 1) := upd_ne _ _ (by omega)
      rw [v1, v2, upd_upd] at E3
      exact ⟨_, Sub.refl _, EdR.good eE hm4 (by rw [eD]; exact E3)⟩
    unfold c149_s5
    skip
    simp -dsimp -implicitDefEqProofs (disch := omega) only [VCA, ↓reduceIte, v7]
    by_cases hc : e.to ∈ chain d e.at'
    · rw [if_pos hc] at eE
      rw [decide_eq_true hc] at hBe2
      repeat' (first | ((with_reducible refine brC (fun _ => ?_) fun _ => ?_) <;> try (exfalso; omega)) | ((refine DCalls.of hBe2 ?_; rintro _ hh ⟨rfl, rfl⟩)) | (with_reducible refine And.intro ?_ ?_; · omega) | simp -dsimp -implicitDefEqProofs (disch := omega) only [VCA, Nat.reduceEqDiff, Nat.reduceAdd, Nat.reduceLeDiff, ↓reduceIte, reduceCtorEq, v0, v3, eEdit])
      all_goals first | (exfalso; omega) | exact ⟨_, Sub.refl _, EdR.bad eE (by decide)⟩ | trace_state
    · rw [if_neg hc] at eE
      rw [decide_eq_false hc] at hBe2
      by_cases h2 : 40 < up d e.at' + 1 + low d e.to
      · rw [if_pos h2] at eE
        repeat' (first | ((with_reducible refine brC (fun _ => ?_) fun _ => ?_) <;> try (exfalso; omega)) | ((refine DCalls.of hBe2 ?_; rintro _ hh ⟨rfl, rfl⟩)) | ((refine DCalls.of hUp ?_; rintro _ hh ⟨rfl, rfl⟩)) | ((refine DCalls.of hDe ?_; rintro _ hh ⟨rfl, rfl⟩)) | (with_reducible refine And.intro ?_ ?_; · omega) | simp -dsimp -implicitDefEqProofs (disch := omega) only [VCA, Nat.reduceEqDiff, Nat.reduceBEq, Nat.reduceAdd, Nat.reduceLT, Nat.reduceLeDiff, ↓reduceIte, reduceCtorEq, rsOf, rootsOf, SOp.rd, SI.rd, SX.rd, rdL, implies_true, exists_eq_left', rootL, v0, v3, gE, eEdit])
        all_goals first | (exfalso; omega) | exact ⟨_, Sub.refl _, EdR.bad eE (by decide)⟩ | trace_state
      · rw [if_neg h2] at eE
        repeat' (first | ((with_reducible refine brC (fun _ => ?_) fun _ => ?_) <;> try (exfalso; omega)) | ((refine DCalls.of hBe2 ?_; rintro _ hh ⟨rfl, rfl⟩)) | ((refine DCalls.of hUp ?_; rintro _ hh ⟨rfl, rfl⟩)) | ((refine DCalls.of hDe ?_; rintro _ hh ⟨rfl, rfl⟩)) | (with_reducible refine And.intro ?_ ?_; · omega) | simp -dsimp -implicitDefEqProofs (disch := omega) only [VCA, Nat.reduceEqDiff, Nat.reduceBEq, Nat.reduceAdd, Nat.reduceLT, Nat.reduceLeDiff, ↓reduceIte, reduceCtorEq, rsOf, rootsOf, SOp.rd, SI.rd, SX.rd, rdL, implies_true, exists_eq_left', rootL, v0, v3, gE, eEdit])
        all_goals first | (exfalso; omega) | exact s6 hc eE _ v3 v5 v6 v7 | trace_state
  have s5b : editE d e = 5 → ∀ (env : Env) (v : Int), v < 0 → env 7 = aInt v → vc (Pg G) c149_s5 (retK [.tmp 4] (EdR h0 h re d e made)) env h := by
    intro eE env v hv v7
    unfold c149_s5
    skip
    simp -dsimp -implicitDefEqProofs (disch := omega) only [VCA, ↓reduceIte, v7]
    repeat' (first | ((with_reducible refine brC (fun _ => ?_) fun _ => ?_) <;> try (exfalso; omega)) | (with_reducible refine And.intro ?_ ?_; · omega) | simp -dsimp -implicitDefEqProofs (disch := omega) only [VCA, ↓reduceIte])
    all_goals first | (exfalso; omega) | exact ⟨_, Sub.refl _, EdR.bad eE (by decide)⟩
  refine dcalls_of_vc Tryz.func149 hn149 hc149 (by rw [Tryz.ntmps149]; simp) (by rw [Tryz.ntmps149]; decide) ?_
  simp -dsimp -implicitDefEqProofs (disch := omega) only [VCA, Nat.reduceEqDiff, Nat.reduceAdd, Nat.reduceLeDiff, ↓reduceIte, reduceCtorEq, rsOf, rootsOf, rootL, c149, eEdit]
  by_cases ha : inD d e.at'
  · rw [if_pos ha] at hE1
    by_cases ht : inD d e.to
    · rw [if_pos ht] at hE2
      rw [if_neg (by simp [ha, ht])] at eE
      have ha' := ha.nat.1
      have ht' := ht.nat.1
      have ga := rowsA_get (sl := sl) ha'
      have gt := rowsA_get (sl := sl) ht'
      have rl := rowsA_len d sl
      have e0 : nth d.nodes e.at'.toNat = nd d e.at' := rfl
      have e1 : nth d.nodes e.to.toNat = nd d e.to := rfl
      rw [e0] at ga
      rw [e1] at gt
      unfold rowA at ga gt
      obtain ⟨oA, oK⟩ := E.dw.own _ ha'
      rw [e0] at oK
      have kl := (sm.nd e.at').kids
      have oL := oK.len.1
      have oL2 := oK.len.2
      rw [List.length_map] at oL
      have hPa := parent_ok (G := G) (nd d e.at').kind
      by_cases h7 : ¬ ((nd d e.at').kind = 1 ∨ (nd d e.at').kind = 2) ∨ (nd d e.to).kind = 1 ∨ ((nd d e.at').kind = 1 ∧ (nd d e.to).kind = 3)
      · rw [if_pos h7] at eE
        by_cases hp : (nd d e.at').kind = 1 ∨ (nd d e.at').kind = 2
        · rw [show (decide ((nd d e.at').kind = 1) || decide ((nd d e.at').kind = 2)) = true by simpa using hp] at hPa
          repeat' (first | ((with_reducible refine brC (fun _ => ?_) fun _ => ?_) <;> try (exfalso; omega)) | ((refine DCalls.of hE1 ?_; rintro _ hh ⟨rfl, rfl⟩)) | ((refine DCalls.of hE2 ?_; rintro _ hh ⟨rfl, rfl⟩)) | (with_reducible apply pcallE.of; · exact hPa) | (with_reducible refine And.intro ?_ ?_; · omega) | simp -dsimp -implicitDefEqProofs (disch := omega) only [↓vcOps_sp 19, ↓vcOps_sp 30, ↓vcOps_sp 37, ↓vcOps_sp 43, VCA, Nat.reduceEqDiff, Nat.reduceAdd, Nat.reduceLeDiff, ↓reduceIte, rsOf, rootsOf, SOp.rd, SI.rd, SX.rd, rdL, exists_eq_left', rootL, gN, ga, gt, rl])
          all_goals first | (exfalso; omega) | exact ⟨_, Sub.refl _, EdR.bad eE (by decide)⟩ | trace_state
        · rw [show (decide ((nd d e.at').kind = 1) || decide ((nd d e.at').kind = 2)) = false by simpa using hp] at hPa
          repeat' (first | ((with_reducible refine brC (fun _ => ?_) fun _ => ?_) <;> try (exfalso; omega)) | ((refine DCalls.of hE1 ?_; rintro _ hh ⟨rfl, rfl⟩)) | ((refine DCalls.of hE2 ?_; rintro _ hh ⟨rfl, rfl⟩)) | (with_reducible apply pcallE.of; · exact hPa) | (with_reducible refine And.intro ?_ ?_; · omega) | simp -dsimp -implicitDefEqProofs (disch := omega) only [↓vcOps_sp 19, ↓vcOps_sp 30, ↓vcOps_sp 37, ↓vcOps_sp 43, VCA, Nat.reduceEqDiff, Nat.reduceAdd, Nat.reduceLeDiff, ↓reduceIte, rsOf, rootsOf, SOp.rd, SI.rd, SX.rd, rdL, exists_eq_left', rootL, gN, ga, rl])
          all_goals first | (exfalso; omega) | exact ⟨_, Sub.refl _, EdR.bad eE (by decide)⟩ | trace_state
      · rw [if_neg h7] at eE
        have hp : (nd d e.at').kind = 1 ∨ (nd d e.at').kind = 2 := Classical.not_not.1 fun h => h7 (.inl h)
        have h71 : ¬ (nd d e.to).kind = 1 := fun h => h7 (.inr (.inl h))
        have h72 : ¬ ((nd d e.at').kind = 1 ∧ (nd d e.to).kind = 3) := fun h => h7 (.inr (.inr h))
        rw [show (decide ((nd d e.at').kind = 1) || decide ((nd d e.at').kind = 2)) = true by simpa using hp] at hPa
        by_cases h9 : 0 ≤ (nd d e.to).parent
        · rw [if_pos h9] at eE
          repeat' (first | ((with_reducible refine brC (fun _ => ?_) fun _ => ?_) <;> try (exfalso; omega)) | ((refine DCalls.of hE1 ?_; rintro _ hh ⟨rfl, rfl⟩)) | ((refine DCalls.of hE2 ?_; rintro _ hh ⟨rfl, rfl⟩)) | (with_reducible apply pcallE.of; · exact hPa) | (with_reducible refine And.intro ?_ ?_; · omega) | simp -dsimp -implicitDefEqProofs (disch := omega) only [↓vcOps_sp 19, ↓vcOps_sp 30, ↓vcOps_sp 37, ↓vcOps_sp 43, VCA, Nat.reduceEqDiff, Nat.reduceAdd, Nat.reduceLeDiff, ↓reduceIte, rsOf, rootsOf, SOp.rd, SI.rd, SX.rd, rdL, exists_eq_left', rootL, gN, ga, gt, rl])
          all_goals first | (exfalso; omega) | exact ⟨_, Sub.refl _, EdR.bad eE (by decide)⟩ | trace_state
        · rw [if_neg h9] at eE
          have hIx := index_own (G := G) oK e.before kl
          have i1 := idxM_leK (nd d e.at').kids e.before
          have im := idx_mem (nd d e.at').kids e.before
          by_cases hb : e.before ≠ -1 ∧ e.before ∉ (nd d e.at').kids
          · rw [if_pos hb] at eE
            have hb1 : ¬ 0 ≤ idxM (· == e.before) (nd d e.at').kids := fun h => hb.2 (im.1 h)
            repeat' (first | ((with_reducible refine brC (fun _ => ?_) fun _ => ?_) <;> try (exfalso; omega)) | ((refine DCalls.of hE1 ?_; rintro _ hh ⟨rfl, rfl⟩)) | ((refine DCalls.of hE2 ?_; rintro _ hh ⟨rfl, rfl⟩)) | (with_reducible apply pcallE.of; · exact hPa) | ((refine DCalls.of hIx ?_; rintro _ hh ⟨rfl, rfl⟩)) | (with_reducible refine And.intro ?_ ?_; · omega) | simp -dsimp -implicitDefEqProofs (disch := omega) only [↓vcOps_sp 19, ↓vcOps_sp 30, ↓vcOps_sp 37, ↓vcOps_sp 43, VCA, Nat.reduceEqDiff, Nat.reduceBEq, Nat.reduceAdd, Nat.reduceLeDiff, ↓reduceIte, rsOf, rootsOf, SOp.rd, SI.rd, SX.rd, rdL, implies_true, exists_eq_left', rootL, gN, ga, gt, rl, oL, oL2])
            all_goals first | (exfalso; omega) | exact ⟨_, Sub.refl _, EdR.bad eE (by decide)⟩ | exact s5b eE _ _ (by omega) rfl
          · rw [if_neg hb] at eE
            by_cases hb1 : e.before = -1
            · have hI : insAt d e = (nd d e.at').kids.length := by unfold insAt; rw [if_pos hb1]
              rw [hI] at s5
              repeat' (first | ((with_reducible refine brC (fun _ => ?_) fun _ => ?_) <;> try (exfalso; omega)) | ((refine DCalls.of hE1 ?_; rintro _ hh ⟨rfl, rfl⟩)) | ((refine DCalls.of hE2 ?_; rintro _ hh ⟨rfl, rfl⟩)) | (with_reducible apply pcallE.of; · exact hPa) | (with_reducible refine And.intro ?_ ?_; · omega) | simp -dsimp -implicitDefEqProofs (disch := omega) only [↓vcOps_sp 19, ↓vcOps_sp 30, ↓vcOps_sp 37, ↓vcOps_sp 43, VCA, Nat.reduceEqDiff, Nat.reduceAdd, Nat.reduceLeDiff, ↓reduceIte, rsOf, rootsOf, SOp.rd, SI.rd, SX.rd, rdL, exists_eq_left', rootL, gN, ga, gt, rl, oL, oL2])
              all_goals first | (exfalso; omega) | refine s5 ha ht hp h71 h9 hb eE _ ?_ ?_ ?_ ?_ ?_ <;> rfl
            · have hbm : e.before ∈ (nd d e.at').kids := Classical.not_not.1 fun h => hb ⟨hb1, h⟩
              have i0 := im.2 hbm
              have hI : (insAt d e : Int) = idxM (· == e.before) (nd d e.at').kids := by unfold insAt; rw [if_neg hb1]; omega
              rw [← hI] at hIx
              repeat' (first | ((with_reducible refine brC (fun _ => ?_) fun _ => ?_) <;> try (exfalso; omega)) | ((refine DCalls.of hE1 ?_; rintro _ hh ⟨rfl, rfl⟩)) | ((refine DCalls.of hE2 ?_; rintro _ hh ⟨rfl, rfl⟩)) | (with_reducible apply pcallE.of; · exact hPa) | ((refine DCalls.of hIx ?_; rintro _ hh ⟨rfl, rfl⟩)) | (with_reducible refine And.intro ?_ ?_; · omega) | simp -dsimp -implicitDefEqProofs (disch := omega) only [↓vcOps_sp 19, ↓vcOps_sp 30, ↓vcOps_sp 37, ↓vcOps_sp 43, VCA, Nat.reduceEqDiff, Nat.reduceBEq, Nat.reduceAdd, Nat.reduceLeDiff, ↓reduceIte, rsOf, rootsOf, SOp.rd, SI.rd, SX.rd, rdL, implies_true, exists_eq_left', rootL, gN, ga, gt, rl, oL, oL2])
              all_goals first | (exfalso; omega) | refine s5 ha ht hp h71 h9 hb eE _ ?_ ?_ ?_ ?_ ?_ <;> rfl
    · rw [if_neg ht] at hE2
      rw [if_pos (.inr ht)] at eE
      repeat' (first | ((with_reducible refine brC (fun _ => ?_) fun _ => ?_) <;> try (exfalso; omega)) | ((refine DCalls.of hE1 ?_; rintro _ hh ⟨rfl, rfl⟩)) | ((refine DCalls.of hE2 ?_; rintro _ hh ⟨rfl, rfl⟩)) | (with_reducible refine And.intro ?_ ?_; · omega) | simp -dsimp -implicitDefEqProofs (disch := omega) only [↓vcOps_sp 19, VCA, Nat.reduceEqDiff, ↓reduceIte, rsOf, rootsOf, SOp.rd, SI.rd, SX.rd, rdL, rootL])
      all_goals first | (exfalso; omega) | exact ⟨_, Sub.refl _, EdR.bad eE (by decide)⟩ | trace_state
  · rw [if_neg ha] at hE1
    rw [if_pos (.inl ha)] at eE
    by_cases ht : inD d e.to
    · rw [if_pos ht] at hE2
      repeat' (first | ((with_reducible refine brC (fun _ => ?_) fun _ => ?_) <;> try (exfalso; omega)) | ((refine DCalls.of hE1 ?_; rintro _ hh ⟨rfl, rfl⟩)) | ((refine DCalls.of hE2 ?_; rintro _ hh ⟨rfl, rfl⟩)) | (with_reducible refine And.intro ?_ ?_; · omega) | simp -dsimp -implicitDefEqProofs (disch := omega) only [↓vcOps_sp 19, VCA, Nat.reduceEqDiff, ↓reduceIte, rsOf, rootsOf, SOp.rd, SI.rd, SX.rd, rdL, rootL])
      all_goals first | (exfalso; omega) | exact ⟨_, Sub.refl _, EdR.bad eE (by decide)⟩ | trace_state
    · rw [if_neg ht] at hE2
      repeat' (first | ((with_reducible refine brC (fun _ => ?_) fun _ => ?_) <;> try (exfalso; omega)) | ((refine DCalls.of hE1 ?_; rintro _ hh ⟨rfl, rfl⟩)) | ((refine DCalls.of hE2 ?_; rintro _ hh ⟨rfl, rfl⟩)) | (with_reducible refine And.intro ?_ ?_; · omega) | simp -dsimp -implicitDefEqProofs (disch := omega) only [↓vcOps_sp 19, VCA, Nat.reduceEqDiff, ↓reduceIte, rsOf, rootsOf, SOp.rd, SI.rd, SX.rd, rdL, rootL])
      all_goals first | (exfalso; omega) | exact ⟨_, Sub.refl _, EdR.bad eE (by decide)⟩ | trace_state
end Go.Proofs.K
end
section
set_option linter.unusedSimpArgs false
set_option linter.unusedVariables false
namespace Go.Proofs.K
open Go Go.Sim Go.Proofs
variable {G : Glob}
theorem rowsA_add {d : HDoc} {x : HNode} {sl : Nat → AVal} {a : AVal} : rowsA (addN d x) (upd (upd sl (2 * d.nodes.length) a) (2 * d.nodes.length + 1) .emp) = rowsA d sl ++ [rowA x a .emp] := by
  unfold rowsA
  rw [addN_len, List.range_succ, List.map_append, List.map_cons, List.map_nil]
  congr 1
  · refine List.map_congr_left fun i hi => ?_
    have hi := List.mem_range.1 hi
    rw [upd_ne _ _ (by omega), upd_ne _ _ (by omega), upd_ne _ _ (by omega), upd_ne _ _ (by omega)]
    have : nth (addN d x).nodes i = nth d.nodes i := by
      unfold addN nth; rw [List.getD_eq_getElem?_getD, List.getD_eq_getElem?_getD, List.getElem?_append_left hi]
    rw [this]
  · rw [upd_same, upd_ne _ _ (by omega), upd_same]
    have : nth (addN d x).nodes d.nodes.length = x := by unfold addN nth; rw [List.getD_eq_getElem?_getD]; simp
    rw [this]
theorem Ed.add {h0 h h2 : Heap} {re rN rN' : Nat} {d : HDoc} {sl : Nat → AVal} {made made' : Int} (E : Ed h0 h re rN d sl made) {x : HNode} {a' : AVal} (hk : x.kids = [])
    (hN : h2 rN' = some ⟨.t 40, 6, rowsA d sl ++ [rowA x a' .emp]⟩) (hre : h2 re = some ⟨.t 118, 3, [[.osl rN' 6 0 (d.nodes.length + 1), .bool d.quirks, aInt made']]⟩)
    (kp : ∀ r o, h r = some o → r ≠ rN → r ≠ re → h2 r = some o) (O : OwnS h2 96 2 (x.attrs.map eAttr) a') (M : Mut a') (fr : ∀ r, rootOf a' = some r → h r = none ∧ r ≠ rN') (fN : rN' = rN ∨ h rN' = none) :
    Ed h0 h2 re rN' (addN d x) (upd (upd sl (2 * d.nodes.length) a') (2 * d.nodes.length + 1) .emp) made' := by
  have hold : ∀ k, k < 2 * d.nodes.length → upd (upd sl (2 * d.nodes.length) a') (2 * d.nodes.length + 1) .emp k = sl k := fun k hk => by rw [upd_ne _ _ (by omega), upd_ne _ _ (by omega)]
  have hnew : upd (upd sl (2 * d.nodes.length) a') (2 * d.nodes.length + 1) .emp (2 * d.nodes.length) = a' := by rw [upd_ne _ _ (by omega), upd_same]
  have hnew2 : upd (upd sl (2 * d.nodes.length) a') (2 * d.nodes.length + 1) AVal.emp (2 * d.nodes.length + 1) = .emp := upd_same _ _ _
  have some_ne : ∀ r o, h r = some o → r ≠ rN → r ≠ rN' := fun r o ho hne e => by
    rcases fN with h1 | h1
    · exact hne (e.trans h1)
    · rw [e, h1] at ho; cases ho
  have ren : re ≠ rN' := some_ne re _ E.ed E.ne
  generalize hs : upd (upd sl (2 * d.nodes.length) a') (2 * d.nodes.length + 1) .emp = sl' at *
  have rws : rowsA (addN d x) sl' = rowsA d sl ++ [rowA x a' .emp] := by rw [← hs]; exact rowsA_add
  have fa : ∀ r, rootOf a' = some r → h0 r = none ∧ r ≠ rN' ∧ r ≠ re := fun r hr => ⟨E.dw.sub.none (fr r hr).1, (fr r hr).2, fun e => by have := (fr r hr).1; rw [e, E.ed] at this; cases this⟩
  have ks : ∀ k, k < 2 * (d.nodes.length + 1) → k < 2 * d.nodes.length ∨ k = 2 * d.nodes.length ∨ k = 2 * d.nodes.length + 1 := fun k hk => by omega
  refine ⟨⟨fun t o ht => ?_, by rw [hN, rws], ⟨?_, by simp only [List.mem_singleton]; exact fun e => ren e.symm⟩, fun i hi => ?_, fun k hk' r hr => ?_, fun j k hj hk' hne r hr => ?_, fun r hr => ?_⟩, by rw [addN_len]; exact hre, E.new, fun k hk' => ?_⟩
  · refine kp t o (E.dw.sub t o ht) (fun e => by rw [e, E.dw.new.1] at ht; cases ht) (fun e => by rw [e, E.new] at ht; cases ht)
  · rcases fN with h1 | h1
    · rw [h1]; exact E.dw.new.1
    · exact E.dw.sub.none h1
  · rw [addN_len] at hi
    by_cases hl : i < d.nodes.length
    · have e1 : nth (addN d x).nodes i = nth d.nodes i := by
        unfold addN nth; rw [List.getD_eq_getElem?_getD, List.getD_eq_getElem?_getD, List.getElem?_append_left hl]
      rw [e1, hold _ (by omega), hold _ (by omega)]
      obtain ⟨g1, g2⟩ := E.dw.own i hl
      exact ⟨g1.keep fun r o hr ho => kp r o ho (E.root_ne (by omega) hr).1 (E.root_ne (by omega) hr).2, g2.keep fun r o hr ho => kp r o ho (E.root_ne (by omega) hr).1 (E.root_ne (by omega) hr).2⟩
    · have e0 : i = d.nodes.length := by omega
      subst e0
      have e1 : nth (addN d x).nodes d.nodes.length = x := by unfold addN nth; rw [List.getD_eq_getElem?_getD]; simp
      rw [e1, hnew, hnew2, hk]
      exact ⟨O, .inl ⟨rfl, rfl⟩⟩
  · rw [addN_len] at hk'
    simp only [List.mem_singleton]
    rcases ks k hk' with h1 | h1 | h1
    · rw [hold k h1] at hr
      have := E.dw.fresh k h1 r hr
      obtain ⟨o, ho⟩ := E.dw.slot h1 hr
      exact ⟨this.1, some_ne r o ho this.2.1, fun e => this.2.2 (by simp [e])⟩
    · rw [h1, hnew] at hr; exact fa r hr
    · rw [h1, hnew2] at hr; cases hr
  · rw [addN_len] at hj hk'
    rcases ks j hj with h1 | h1 | h1
    · rw [hold j h1] at hr
      rcases ks k hk' with h2 | h2 | h2
      · rw [hold k h2]; exact E.dw.sep j k h1 h2 hne r hr
      · rw [h2, hnew]; intro h3
        obtain ⟨o, ho⟩ := E.dw.slot h1 hr
        have := (fr r h3).1; rw [ho] at this; cases this
      · rw [h2, hnew2]; intro h3; cases h3
    · rw [h1, hnew] at hr
      rcases ks k hk' with h2 | h2 | h2
      · rw [hold k h2]; intro h3
        obtain ⟨o, ho⟩ := E.dw.slot h2 h3
        have := (fr r hr).1; rw [ho] at this; cases this
      · omega
      · rw [h2, hnew2]; intro h3; cases h3
    · rw [h1, hnew2] at hr; cases hr
  · simp only [List.mem_singleton] at hr
    exact ⟨_, by rw [hr]; exact hre⟩
  · rw [addN_len] at hk'
    rcases ks k hk' with h1 | h1 | h1
    · rw [hold k h1]; exact E.live k h1
    · rw [h1, hnew]; exact M
    · rw [h1, hnew2]; exact fun es e => by cases e
def c148 : SFun := ⟨.seq (.reg [⟨some 3, .boxF 42 12 (.t 1), none⟩, ⟨some 4, .mv (.c (.int .i64 0)), none⟩]) (.seq (.reg [⟨some 7, .fldA 6 (.t 3), none⟩, ⟨some 8, .ld 6 true (.t 7), none⟩, ⟨some 5, .new 40 6 [.int .i64 0, .str [], .emp, .str [], .int .i64 0, .emp], none⟩, ⟨none, .st 6 (.t 5) (.t 8), none⟩]) (.seq (.block 0 (.seq (.reg [⟨some 10, .fldA 5 (.t 5), none⟩, ⟨some 11, .ld 1 false (.t 10), none⟩, ⟨some 12, .len (.t 11), none⟩, ⟨some 13, .bin .gtr (.t 12) (.c (.int .i64 0)), none⟩, ⟨some 9, .mv (.t 13), none⟩]) (.cond (.t 9) (.seq (.reg [⟨some 4, .mv (.c (.int .i64 3)), none⟩]) .ret) (.seq (.reg [⟨some 15, .fldA 0 (.t 5), none⟩, ⟨some 16, .ld 1 false (.t 15), none⟩, ⟨some 17, .bin .eql (.t 16) (.c (.int .i64 1)), none⟩, ⟨some 14, .mv (.t 17), none⟩]) (.cond (.t 14) (.seq (.reg [⟨some 4, .mv (.c (.int .i64 7)), none⟩]) .ret) .skip))))) (.seq (.seq (.reg [⟨some 18, .ld 6 true (.t 5), none⟩, ⟨some 19, .pcall 89 [.t 18], none⟩, ⟨some 6, .mv (.t 19), none⟩]) (.seq (.reg [⟨some 20, .mv (.t 6), none⟩, ⟨some 21, .bin .neq (.t 20) (.c (.int .i64 0)), none⟩]) (.cond (.t 21) (.seq (.reg [⟨some 22, .mv (.t 6), none⟩, ⟨some 4, .mv (.t 22), none⟩]) .ret) .skip))) (.seq (.seq (.reg [⟨some 23, .mv (.t 0), none⟩, ⟨some 24, .fldA 0 (.t 23), none⟩, ⟨some 25, .fldA 0 (.t 24), none⟩, ⟨some 26, .fldA 0 (.t 25), none⟩, ⟨some 27, .ld 1 false (.t 26), none⟩, ⟨some 28, .len (.t 27), none⟩, ⟨some 29, .bin .eql (.t 28) (.c (.int .i64 200)), none⟩]) (.cond (.t 29) (.seq (.reg [⟨some 4, .mv (.c (.int .i64 2)), none⟩]) .ret) .skip)) (.seq (.reg [⟨some 30, .mv (.t 0), none⟩, ⟨some 31, .mv (.t 0), none⟩, ⟨some 32, .fldA 0 (.t 31), none⟩, ⟨some 33, .fldA 0 (.t 32), none⟩, ⟨some 34, .fldA 0 (.t 33), none⟩, ⟨some 35, .ld 1 false (.t 34), none⟩, ⟨some 36, .len (.t 35), none⟩, ⟨some 37, .fldA 0 (.t 30), none⟩, ⟨some 38, .fldA 2 (.t 37), none⟩, ⟨none, .st 1 (.t 38) (.t 36), none⟩]) (.seq (.dreg [(⟨some 39, .mv (.t 0), none⟩, none), (⟨some 40, .mv (.t 0), none⟩, none), (⟨some 41, .fldA 0 (.t 40), none⟩, none), (⟨some 42, .fldA 0 (.t 41), none⟩, none), (⟨some 43, .fldA 0 (.t 42), none⟩, none), (⟨some 44, .ld 1 false (.t 43), none⟩, none), (⟨some 45, .fldA 0 (.t 5), none⟩, none), (⟨some 46, .ld 1 false (.t 45), none⟩, none), (⟨some 47, .fldA 1 (.t 5), none⟩, none), (⟨some 48, .ld 1 false (.t 47), none⟩, none), (⟨some 49, .fldA 2 (.t 5), none⟩, none), (⟨some 50, .ld 1 false (.t 49), none⟩, none), (⟨some 52, .fldA 3 (.t 5), none⟩, none), (⟨some 53, .ld 1 false (.t 52), none⟩, none), (⟨some 51, .call (.c (.fn 69 [] [])) [.t 50], none⟩, (some [50])), (⟨some 54, .bld [.int .i64 0, .str [], .emp, .str [], .int .i64 0, .emp] [(0, (1, (.t 46))), (1, (1, (.t 48))), (2, (1, (.t 51))), (3, (1, (.t 53))), (4, (1, (.c (.int .i64 (-1)))))], none⟩, none), (⟨some 55, .bldF 40 6 [.t 54], none⟩, none), (⟨some 56, .app 40 6 96 (.t 44) (.t 55), none⟩, (some [44, 46, 48, 53, 50])), (⟨some 57, .fldA 0 (.t 39), none⟩, none), (⟨some 58, .fldA 0 (.t 57), none⟩, none), (⟨some 59, .fldA 0 (.t 58), none⟩, none), (⟨none, .st 1 (.t 59) (.t 56), none⟩, (some [44, 46, 48, 53, 50]))]) (.seq (.reg [⟨some 4, .mv (.c (.int .i64 0)), none⟩]) .ret))))))), [.tmp 4]⟩
theorem hc148 : toSF Tryz.prog {pure := [89]} Tryz.f148 = some c148 := by kernel_rfl
theorem hn148 : (Tryz.f148.name == "runtime.NumGoroutine") = false := by kernel_rfl
theorem emake_ok {h0 h : Heap} {re rN : Nat} {d : HDoc} {sl : Nat → AVal} {made : Int} (E : Ed h0 h re rN d sl made) (hl200 : d.nodes.length ≤ 200) (e : HEdit) (he : EditSm e) (hdo : e.do' = 4) : DCalls (Pg G) 148 [.vp re 0, .agg (eEdit e)] h (EdR h0 h re d e made) := by
  have gN := E.dw.nodes
  have gE := E.ed
  have ner := E.ne
  have hO := one_ok' (G := G) e.node he.node
  unfold eNode at hO
  have eE : editE d e = if e.node.kids ≠ [] then 3 else if e.node.kind = 1 then 7 else if nodeE e.node ≠ 0 then nodeE e.node else if d.nodes.length = 200 then 2 else 0 := by unfold editE; rw [if_neg (by omega), if_neg (by omega), if_neg (by omega), if_pos hdo]
  have eD : editD d e = addN d (madeM e.node) := by unfold editD; rw [if_neg (by omega), if_neg (by omega), if_neg (by omega), if_pos hdo]
  have hm4 : (d.nodes.length : Int) = if e.do' = 4 then (d.nodes.length : Int) else made := by rw [if_pos hdo]
  have rl := rowsA_len d sl
  refine dcalls_of_vc Tryz.func148 hn148 hc148 (by rw [Tryz.ntmps148]; simp) (by rw [Tryz.ntmps148]; decide) ?_
  simp -dsimp -implicitDefEqProofs (disch := omega) only [VCA, Nat.reduceEqDiff, Nat.reduceAdd, Nat.reduceLT, ↓reduceIte, setAt, exists_eq_left', c148, eEdit]
  intro r5 hr5
  have n5 : ¬ re = r5 := fun h => by rw [← h, gE] at hr5; cases hr5
  have n5N : ¬ rN = r5 := fun h => by rw [← h, gN] at hr5; cases hr5
  have n5' : ¬ r5 = re := fun h => n5 h.symm
  have n5N' : ¬ r5 = rN := fun h => n5N h.symm
  have ner' : ¬ rN = re := fun h => ner h.symm
  have S5 : ∀ x, Sim.Sub h (upd h r5 (some x)) := fun x => (Sub.refl h).upd hr5
  by_cases hk : e.node.kids = []
  · have hk0 : ¬ 0 < e.node.kids.length := by rw [hk]; simp
    rw [if_neg (by simpa using hk)] at eE
    by_cases hk1 : e.node.kind = 1
    · rw [if_pos hk1] at eE
      repeat' (first | ((with_reducible refine brC (fun _ => ?_) fun _ => ?_) <;> try (exfalso; omega)) | (with_reducible refine And.intro ?_ ?_; · omega) | simp -dsimp -implicitDefEqProofs (disch := omega) only [VCA, Nat.reduceEqDiff, Nat.reduceAdd, Nat.reduceLT, Nat.reduceLeDiff, ↓reduceIte, exists_eq_left'])
      all_goals first | (exfalso; omega) | exact ⟨_, S5 _, EdR.bad eE (by decide)⟩
    · rw [if_neg hk1] at eE
      by_cases hz : nodeE e.node = 0
      · rw [if_neg (by simpa using hz)] at eE
        rw [hz] at hO
        by_cases h200 : d.nodes.length = 200
        · rw [if_pos h200] at eE
          repeat' (first | ((with_reducible refine brC (fun _ => ?_) fun _ => ?_) <;> try (exfalso; omega)) | (with_reducible apply pcallE.of; · exact hO) | (with_reducible refine And.intro ?_ ?_; · omega) | simp -dsimp -implicitDefEqProofs (disch := omega) only [VCA, Nat.reduceEqDiff, Nat.reduceAdd, Nat.reduceLT, Nat.reduceLeDiff, ↓reduceIte, reduceCtorEq, exists_eq_left', n5, gE])
          all_goals first | (exfalso; omega) | exact ⟨_, S5 _, EdR.bad eE (by decide)⟩
        · rw [if_neg h200] at eE
          have hC := fun (hp : Heap) => cloneA_own (G := G) (h := hp) e.node.attrs he.node.attrs
          repeat' (first | ((with_reducible refine brC (fun _ => ?_) fun _ => ?_) <;> try (exfalso; omega)) | (with_reducible apply pcallE.of; · exact hO) | (with_reducible refine And.intro ?_ ?_; · omega) | simp -dsimp -implicitDefEqProofs (disch := omega) only [VCA, Nat.reduceEqDiff, Nat.reduceAdd, Nat.reduceLT, Nat.reduceLeDiff, ↓reduceIte, reduceCtorEq, rsOf, rootsOf, setAt, exists_eq_left', rootL, n5, n5', gE])
          all_goals try (exfalso; omega)
          refine DCalls.of (hC _) ?_
          rintro a h9 ⟨A9, S9⟩
          have gE9 := S9 re _ (upd_same _ _ _)
          have gN9 := S9 rN ⟨40, 6, rowsA d sl⟩ (by simp [upd, ner', n5N, gN])
          have g59 := S9 r5 ⟨40, 6, [[aInt e.node.kind, .str e.node.name, Sim.sl eAttr e.node.attrs, .str e.node.text, aInt e.node.parent, Sim.sl eInt e.node.kids]]⟩ (by simp [upd, n5'])
          obtain ⟨O9, f9, M9⟩ := OwnS.of_acc A9
          obtain ⟨v9, c9⟩ := O9.isV
          repeat' (first | ((with_reducible refine brC (fun _ => ?_) fun _ => ?_) <;> try (exfalso; omega)) | (with_reducible refine And.intro ?_ ?_; · omega) | simp -dsimp -implicitDefEqProofs (disch := omega) only [VCA, Nat.reduceEqDiff, Nat.reduceBEq, Nat.reduceAdd, Nat.reduceLeDiff, ↓reduceIte, rsOf, rootsOf, SOp.rd, SI.rd, SX.rd, rdL, okParts, fillA, okFill, setAt, implies_true, forall_eq, exists_eq_left, exists_eq_left', rootL, n5', gE9, gN9, g59, v9, c9])
          intro r' hr'
          have fr' : r' = rN ∨ h9 r' = none := by
            unfold del at hr'
            split at hr'
            · rename_i h1; exact .inl h1
            · exact .inr hr'
          have nre : ¬ re = r' := fun h1 => by
            rcases fr' with h2 | h2
            · exact ner (h1.trans h2)
            · rw [← h1, gE9] at h2; cases h2
          have nre' : ¬ r' = re := fun h1 => nre h1.symm
          have dE : del h9 rN re = some ⟨.t 118, 3, [[.osl rN 6 0 d.nodes.length, .bool d.quirks, aInt d.nodes.length]]⟩ := by
            unfold del; rw [if_neg ner, gE9]
          repeat' (first | ((with_reducible refine brC (fun _ => ?_) fun _ => ?_) <;> try (exfalso; omega)) | (with_reducible refine And.intro ?_ ?_; · omega) | simp -dsimp -implicitDefEqProofs (disch := omega) only [VCA, Nat.reduceAdd, Nat.reduceLT, Nat.reduceLeDiff, ↓reduceIte, exists_eq_left', nre, dE])
          have X0 : ∀ (x y : AObj) t, upd (upd h r5 (some x)) re (some y) t = none → h t = none ∧ t ≠ re ∧ t ≠ r5 := fun x y t ht => by
            unfold upd at ht
            split at ht
            · cases ht
            · rename_i h1
              split at ht
              · cases ht
              · rename_i h2; exact ⟨ht, h1, h2⟩
          have ra : ∀ t, rootOf a = some t → h t = none ∧ t ≠ re ∧ t ≠ r5 ∧ t ≠ rN ∧ t ≠ r' := fun t ht => by
            obtain ⟨x1, x2, x3⟩ := X0 _ _ t (f9 t ht)
            refine ⟨x1, x2, x3, (fun e => by rw [e, gN] at x1; cases x1), fun e => ?_⟩
            rcases fr' with h2 | h2
            · rw [e, h2, gN] at x1; cases x1
            · obtain ⟨o, ho⟩ := O9.root ht
              rw [e, h2] at ho; cases ho
          refine ⟨_, Sub.refl _, EdR.good eE hm4 (by
            rw [eD]
            refine E.add (rN' := r') (a' := a) (x := madeM e.node) rfl ?_ ?_ (fun t o ho h1 h2 => ?_) (O9.keep fun t o ht ho => ?_) M9 (fun t ht => ⟨(ra t ht).1, (ra t ht).2.2.2.2⟩) ?_
            · rw [upd_ne _ _ nre', upd_same, List.take_of_length_le (by rw [rl]; exact Nat.le_refl _)]; rfl
            · exact upd_same _ _ _
            · have h5 : t ≠ r5 := fun e => by rw [e, hr5] at ho; cases ho
              have h9t := S9 t o (by rw [upd_ne _ _ h2, upd_ne _ _ h5]; exact ho)
              rw [upd_ne _ _ h2, upd_ne _ _ (fun e => by
                rcases fr' with h3 | h3
                · exact h1 (e.trans h3)
                · rw [e, h3] at h9t; cases h9t)]
              unfold del; rw [if_neg h1]; exact h9t
            · obtain ⟨y1, y2, y3, y4, y5⟩ := ra t ht
              rw [upd_ne _ _ y2, upd_ne _ _ y5]
              unfold del; rw [if_neg y4]; exact ho
            · rcases fr' with h2 | h2
              · exact .inl h2
              · exact .inr (X0 _ _ r' (S9.none h2)).1)⟩
      · rw [if_pos hz] at eE
        repeat' (first | ((with_reducible refine brC (fun _ => ?_) fun _ => ?_) <;> try (exfalso; omega)) | (with_reducible apply pcallE.of; · exact hO) | (with_reducible refine And.intro ?_ ?_; · omega) | simp -dsimp -implicitDefEqProofs (disch := omega) only [VCA, Nat.reduceEqDiff, Nat.reduceAdd, Nat.reduceLT, Nat.reduceLeDiff, ↓reduceIte, exists_eq_left'])
        all_goals first | (exfalso; omega) | exact ⟨_, S5 _, EdR.bad eE hz⟩
  · have hk0 : 0 < e.node.kids.length := List.length_pos_iff.2 hk
    rw [if_pos hk] at eE
    repeat' (first | ((with_reducible refine brC (fun _ => ?_) fun _ => ?_) <;> try (exfalso; omega)) | (with_reducible refine And.intro ?_ ?_; · omega) | simp -dsimp -implicitDefEqProofs (disch := omega) only [VCA, ↓reduceIte])
    all_goals first | (exfalso; omega) | exact ⟨_, S5 _, EdR.bad eE (by decide)⟩
end Go.Proofs.K
end
section
set_option linter.unusedSimpArgs false
set_option linter.unusedVariables false
namespace Go.Proofs.K
open Go Go.Sim Go.Proofs
variable {G : Glob}
def doesF (re : Nat) (n : Int) : AVal :=
  if n = 1 then .fn 145 [.vp re 0] [] else if n = 2 then .fn 146 [.vp re 0] [] else if n = 3 then .fn 147 [.vp re 0] []
  else if n = 4 then .fn 148 [.vp re 0] [] else if n = 5 then .fn 149 [.vp re 0] [] else if n = 6 then .fn 150 [.vp re 0] [] else .prim .nilFunc
def c112 : SFun := ⟨.seq (.reg [⟨some 4, .mv (.c (.prim .nilFunc)), none⟩]) (.seq (.seq (.reg [⟨some 5, .mv (.t 1), none⟩]) (.block 0 (.seq (.reg [⟨some 7, .bin .eql (.t 5) (.c (.int .i64 1)), none⟩, ⟨some 6, .mv (.t 7), none⟩]) (.cond (.t 6) (.seq (.reg [⟨some 8, .mv (.t 0), none⟩, ⟨some 9, .mkf 145 [.t 8] [], none⟩, ⟨some 4, .mv (.t 9), none⟩]) .ret) (.seq (.reg [⟨some 11, .bin .eql (.t 5) (.c (.int .i64 2)), none⟩, ⟨some 10, .mv (.t 11), none⟩]) (.cond (.t 10) (.seq (.reg [⟨some 12, .mv (.t 0), none⟩, ⟨some 13, .mkf 146 [.t 12] [], none⟩, ⟨some 4, .mv (.t 13), none⟩]) .ret) (.seq (.reg [⟨some 15, .bin .eql (.t 5) (.c (.int .i64 3)), none⟩, ⟨some 14, .mv (.t 15), none⟩]) (.cond (.t 14) (.seq (.reg [⟨some 16, .mv (.t 0), none⟩, ⟨some 17, .mkf 147 [.t 16] [], none⟩, ⟨some 4, .mv (.t 17), none⟩]) .ret) (.seq (.reg [⟨some 19, .bin .eql (.t 5) (.c (.int .i64 4)), none⟩, ⟨some 18, .mv (.t 19), none⟩]) (.cond (.t 18) (.seq (.reg [⟨some 20, .mv (.t 0), none⟩, ⟨some 21, .mkf 148 [.t 20] [], none⟩, ⟨some 4, .mv (.t 21), none⟩]) .ret) (.seq (.reg [⟨some 23, .bin .eql (.t 5) (.c (.int .i64 5)), none⟩, ⟨some 22, .mv (.t 23), none⟩]) (.cond (.t 22) (.seq (.reg [⟨some 24, .mv (.t 0), none⟩, ⟨some 25, .mkf 149 [.t 24] [], none⟩, ⟨some 4, .mv (.t 25), none⟩]) .ret) (.seq (.reg [⟨some 27, .bin .eql (.t 5) (.c (.int .i64 6)), none⟩, ⟨some 26, .mv (.t 27), none⟩]) (.cond (.t 26) (.seq (.reg [⟨some 28, .mv (.t 0), none⟩, ⟨some 29, .mkf 150 [.t 28] [], none⟩, ⟨some 4, .mv (.t 29), none⟩]) .ret) .skip)))))))))))))) (.seq (.reg [⟨some 4, .mv (.c (.prim .nilFunc)), none⟩]) .ret)), [.tmp 4]⟩
theorem hc112 : toSF Tryz.prog {} Tryz.f112 = some c112 := by kernel_rfl
theorem hn112 : (Tryz.f112.name == "runtime.NumGoroutine") = false := by kernel_rfl
theorem edoes_ok (h : Heap) (re : Nat) (n : Int) : DCalls (Pg G) 112 [.vp re 0, aInt n] h fun r h' => r = doesF re n ∧ h' = h := by
  refine dcalls_of_vc Tryz.func112 hn112 hc112 (by rw [Tryz.ntmps112]; simp) (by rw [Tryz.ntmps112]; decide) ?_
  simp -dsimp -implicitDefEqProofs (disch := omega) only [VCA, Nat.reduceEqDiff, ↓reduceIte, c112]
  unfold doesF
  repeat' (first | ((with_reducible refine brC (fun _ => ?_) fun _ => ?_) <;> try (exfalso; omega)) | (with_reducible refine And.intro ?_ ?_; · omega) | simp -dsimp -implicitDefEqProofs (disch := omega) only [VCA, Nat.reduceEqDiff, ↓reduceIte, reduceCtorEq, exists_eq_right_right])
  all_goals first
    | (refine ⟨Sub.refl _, ?_⟩; simp_all; done)
    | (simp_all; done)
def c78 : SFun := ⟨.seq (.reg [⟨some 3, .boxF 42 12 (.t 1), none⟩, ⟨some 4, .mv (.c (.int .i64 0)), none⟩]) (.seq (.reg [⟨some 6, .mv (.t 0), none⟩, ⟨some 7, .fldA 0 (.t 3), none⟩, ⟨some 8, .ld 1 false (.t 7), none⟩, ⟨some 9, .call (.c (.fn 112 [] [])) [.t 6, .t 8], none⟩, ⟨some 5, .mv (.t 9), none⟩]) (.seq (.seq (.reg [⟨some 10, .mv (.t 5), none⟩, ⟨some 11, .isnil 2 false (.t 10), none⟩]) (.cond (.t 11) (.seq (.reg [⟨some 4, .mv (.c (.int .i64 1)), none⟩]) .ret) .skip)) (.seq (.reg [⟨some 12, .mv (.t 5), none⟩, ⟨some 13, .ld 12 true (.t 3), none⟩, ⟨some 14, .call (.t 12) [.t 13], none⟩, ⟨some 4, .mv (.t 14), none⟩]) .ret))), [.tmp 4]⟩
theorem hc78 : toSF Tryz.prog {} Tryz.f78 = some c78 := by kernel_rfl
theorem hn78 : (Tryz.f78.name == "runtime.NumGoroutine") = false := by kernel_rfl
theorem eedit_ok {h0 h : Heap} {re rN : Nat} {d : HDoc} {sl : Nat → AVal} {made : Int} (E : Ed h0 h re rN d sl made) (V : DV d) (sm : DocSm d) (e : HEdit) (he : EditSm e) : DCalls (Pg G) 78 [.vp re 0, .agg (eEdit e)] h (EdR h0 h re d e made) := by
  have hD := edoes_ok (G := G) h re e.do'
  have a12 : ∀ n, inD d n → (nd d n).attrs.length ≤ 12 := fun n hn => ((attrsE_iff _).1 ((nodeE_iff _).1 (V.node n hn)).2.2.2.1).1
  have key : ∀ f, DCalls (Pg G) f [.vp re 0, .agg (eEdit e)] h (EdR h0 h re d e made) → doesF re e.do' = .fn f [.vp re 0] [] → DCalls (Pg G) 78 [.vp re 0, .agg (eEdit e)] h (EdR h0 h re d e made) := fun f hf hd => by
    rw [hd] at hD
    unfold eEdit at hf
    refine dcalls_of_vc Tryz.func78 hn78 hc78 (by rw [Tryz.ntmps78]; simp) (by rw [Tryz.ntmps78]; decide) ?_
    simp -dsimp -implicitDefEqProofs (disch := omega) only [VCA, Nat.reduceEqDiff, Nat.reduceAdd, Nat.reduceLeDiff, ↓reduceIte, reduceCtorEq, c78, eEdit]
    refine DCalls.of hD ?_
    rintro _ _ ⟨rfl, rfl⟩
    simp -dsimp -implicitDefEqProofs (disch := omega) only [VCA, Nat.reduceEqDiff, Nat.reduceAdd, ↓reduceIte]
    refine DCalls.of hf ?_
    intro r h9 hr
    simp -dsimp -implicitDefEqProofs (disch := omega) only [VCA, ↓reduceIte]
    exact ⟨_, Sub.refl _, hr⟩
  by_cases h1 : e.do' = 1
  · exact key _ (eattr_ok E sm a12 e he h1) (by unfold doesF; rw [if_pos h1])
  by_cases h2 : e.do' = 2
  · exact key _ (edrop_ok E sm e he h2) (by unfold doesF; rw [if_neg h1, if_pos h2])
  by_cases h3 : e.do' = 3
  · exact key _ (etext_ok E e he h3) (by unfold doesF; rw [if_neg h1, if_neg h2, if_pos h3])
  by_cases h4 : e.do' = 4
  · exact key _ (emake_ok E V.len e he h4) (by unfold doesF; rw [if_neg h1, if_neg h2, if_neg h3, if_pos h4])
  by_cases h5 : e.do' = 5
  · exact key _ (einsert_ok E V sm e he h5) (by unfold doesF; rw [if_neg h1, if_neg h2, if_neg h3, if_neg h4, if_pos h5])
  by_cases h6 : e.do' = 6
  · exact key _ (eremove_ok E V sm e he h6) (by unfold doesF; rw [if_neg h1, if_neg h2, if_neg h3, if_neg h4, if_neg h5, if_pos h6])
  have hd : doesF re e.do' = .prim .nilFunc := by unfold doesF; rw [if_neg h1, if_neg h2, if_neg h3, if_neg h4, if_neg h5, if_neg h6]
  have eE : editE d e = 1 := by unfold editE; rw [if_neg h1, if_neg h2, if_neg h3, if_neg h4, if_neg h5, if_neg h6]
  rw [hd] at hD
  refine dcalls_of_vc Tryz.func78 hn78 hc78 (by rw [Tryz.ntmps78]; simp) (by rw [Tryz.ntmps78]; decide) ?_
  simp -dsimp -implicitDefEqProofs (disch := omega) only [VCA, Nat.reduceEqDiff, Nat.reduceAdd, Nat.reduceLeDiff, ↓reduceIte, reduceCtorEq, c78, eEdit]
  refine DCalls.of hD ?_
  rintro _ _ ⟨rfl, rfl⟩
  simp -dsimp -implicitDefEqProofs (disch := omega) only [VCA, ↓reduceIte]
  all_goals exact ⟨_, Sub.refl _, EdR.bad eE (by decide)⟩
end Go.Proofs.K
end
section
set_option linter.unusedSimpArgs false
set_option linter.unusedVariables false
namespace Go.Proofs.K
open Go Go.Sim Go.Proofs
variable {G : Glob}
theorem eDoc_len (d : HDoc) : (eDoc d).length = 2 := rfl
theorem eDoc_take (d : HDoc) : (eDoc d).take 2 = eDoc d := rfl
theorem docE_DV {d : HDoc} (h : docE d = 0) : DV d := (docE_iff d).1 h
end Go.Proofs.K
end
section
set_option linter.unusedSimpArgs false
set_option linter.unusedVariables false
namespace Go.Proofs.K
open Go Go.Sim Go.Proofs
variable {G : Glob}
theorem eDoc_dr (d : HDoc) : (eDoc d).drop 2 = [] := rfl
def noDoc : HDoc := ⟨[], false⟩
def applyE (d : HDoc) (e : HEdit) : Int := if docE d ≠ 0 then docE d else editE d e
def applyD (d : HDoc) (e : HEdit) : HDoc := if applyE d e = 0 then editD d e else noDoc
def applyN (d : HDoc) (e : HEdit) : Int := if applyE d e = 0 then editN d e else 0
theorem Dw.new' {X : List Nat} {h0 h : Heap} {rN : Nat} {d : HDoc} {sl : Nat → AVal} (E : Dw X h0 h rN d sl) : Dw [] (fun _ => none) (newH h0 h) rN d sl :=
  ⟨(fun t o ht => by cases ht), by rw [newH_none E.new.1]; exact E.nodes, ⟨rfl, by simp⟩, fun i hi => ⟨(E.own i hi).1.keep fun r o hr ho => by rw [newH_none (E.fresh _ (by omega) r hr).1]; exact ho, (E.own i hi).2.keep fun r o hr ho => by rw [newH_none (E.fresh _ (by omega) r hr).1]; exact ho⟩,
    fun k hk r hr => ⟨rfl, (E.fresh k hk r hr).2.1, by simp⟩, E.sep, fun r hr => by cases hr⟩
theorem Dw.base {X : List Nat} {h0 h00 h : Heap} {rN : Nat} {d : HDoc} {sl : Nat → AVal} (E : Dw X h0 h rN d sl) (S : Sim.Sub h00 h0) : Dw X h00 h rN d sl :=
  ⟨S.trans E.sub, E.nodes, ⟨S.none E.new.1, E.new.2⟩, E.own, fun k hk r hr => ⟨S.none (E.fresh k hk r hr).1, (E.fresh k hk r hr).2⟩, E.sep, E.keep⟩
theorem Dw.beside {X : List Nat} {h0 h00 h : Heap} {rN r : Nat} {d : HDoc} {sl : Nat → AVal} {x : AObj} (E : Dw X h0 h rN d sl) (S : Sim.Sub h00 h0) (h1 : h0 r = some x) (h2 : h00 r = none) (hX : r ∉ X) (y : AObj) : Dw X h00 (upd h r (some y)) rN d sl := by
  have ne : ∀ t, h0 t = none → t ≠ r := fun t ht e => by rw [e, h1] at ht; cases ht
  refine ⟨(S.trans E.sub).upd h2, by rw [upd_ne _ _ (ne _ E.new.1)]; exact E.nodes, ⟨S.none E.new.1, E.new.2⟩, fun i hi => ?_, fun k hk t ht => ⟨S.none (E.fresh k hk t ht).1, (E.fresh k hk t ht).2⟩, E.sep, fun t ht => ?_⟩
  · obtain ⟨g1, g2⟩ := E.own i hi
    exact ⟨g1.keep fun t o ht ho => by rw [upd_ne _ _ (ne t (E.fresh _ (by omega) t ht).1)]; exact ho, g2.keep fun t o ht ho => by rw [upd_ne _ _ (ne t (E.fresh _ (by omega) t ht).1)]; exact ho⟩
  · obtain ⟨o, ho⟩ := E.keep t ht
    exact ⟨o, by rw [upd_ne _ _ (fun e => hX (by rw [← e]; exact ht))]; exact ho⟩
theorem Ed.begin {h h1 : Heap} {rN re : Nat} {d : HDoc} {sl : Nat → AVal} (E : Dw [] h h1 rN d sl) (M : ∀ k, k < 2 * d.nodes.length → Mut (sl k)) (hr : h1 re = none) :
    Ed h (upd h1 re (some ⟨.t 118, 3, [[.osl rN 6 0 d.nodes.length, .bool d.quirks, aInt 0]]⟩)) re rN d sl 0 := ⟨E.more hr _, upd_same _ _ _, E.sub.none hr, M⟩
theorem vw_noDoc (h : Heap) : Vw h (.agg [.emp, .bool false]) (.agg (eDoc noDoc)) := Vw.agg' (.cons .emp (.cons (.refl _) .nil))
end Go.Proofs.K
end
section
set_option linter.unusedSimpArgs false
set_option linter.unusedVariables false
namespace Go.Proofs.K
open Go Go.Sim Go.Proofs
variable {G : Glob}
def c61 : SFun := ⟨.seq (.reg [⟨some 4, .mv (.c .emp), none⟩]) (.seq (.dreg [(⟨some 5, .bldF 3 1 [], none⟩, none), (⟨some 6, .mv (.t 0), none⟩, none), (⟨some 7, .mv (.t 1), none⟩, none), (⟨some 8, .slA 1 (.t 6) none (some (.t 7)), none⟩, none), (⟨some 10, .mv (.t 0), none⟩, none), (⟨some 11, .mv (.t 1), none⟩, none), (⟨some 12, .bin .add (.t 11) (.c (.int .i64 1)), none⟩, none), (⟨some 13, .slA 1 (.t 10) (some (.t 12)) none, none⟩, none), (⟨some 9, .app 3 1 8 (.t 5) (.t 8), none⟩, (some [])), (⟨some 14, .app 3 1 8 (.t 9) (.t 13), none⟩, (some [])), (⟨some 4, .mv (.t 14), none⟩, none)]) .ret), [.tmp 4]⟩
theorem hc61 : toSF Tryz.prog {} Tryz.f61 = some c61 := by kernel_rfl
theorem hn61 : (Tryz.f61.name == "runtime.NumGoroutine") = false := by kernel_rfl
theorem without_ok (l : List Int) (i : Nat) (hi : i < l.length) (hl : l.length ≤ 1073741824) : PCalls (Pg G) 61 [sl eInt l, aInt i] (sl eInt (l.take i ++ l.drop (i + 1))) := PCalls.acc (ty := 3) (sz := 1) fun h => by
  refine dcalls_of_vc Tryz.func61 hn61 hc61 (by rw [Tryz.ntmps61]; simp) (by rw [Tryz.ntmps61]; decide) ?_
  simp -dsimp -implicitDefEqProofs (disch := omega) only [VCA, Nat.reduceEqDiff, ↓reduceIte, reduceCtorEq, rsOf, rootsOf, SOp.rd, SI.rd, SX.rd, okParts, exists_eq_left, exists_eq_left', rootL, c61]
  refine ⟨by omega, by omega, by rw [List.length_take]; omega, by rw [List.length_take]; omega, fun r hr => ⟨by rw [List.length_take, List.length_drop]; omega, by rw [List.length_take, List.length_drop]; omega, fun r' hr' => ?_⟩⟩
  have dd : ∀ x, del (upd h r (some x)) r = h := fun x => by
    funext t
    by_cases e : t = r
    · subst e; rw [hr]; simp [del]
    · simp [del, upd, e]
  rw [dd] at hr' ⊢
  refine ⟨_, Sub.refl _, ?_, (Sub.refl h).upd hr'⟩
  have A := Acc.root (ty := 3) (sz := 1) (cells := (l.take i ++ l.drop (i + 1)).map eInt) hr' (upd_same h r' (some ⟨.t 3, 1, (l.take i ++ l.drop (i + 1)).map eInt⟩))
  rw [List.length_map, List.length_append] at A
  rw [← List.map_append]
  exact A
structure Fresh (h h' : Heap) (ty sz : Nat) (cells : List (List AVal)) (a : AVal) : Prop where
  acc : Acc h ty sz cells a h'
theorem Fresh.own {h h' : Heap} {ty sz : Nat} {cells : List (List AVal)} {a : AVal} (F : Fresh h h' ty sz cells a) : OwnS h' ty sz cells a := (OwnS.of_acc F.acc).1
theorem Fresh.live {h h' : Heap} {ty sz : Nat} {cells : List (List AVal)} {a : AVal} (F : Fresh h h' ty sz cells a) : Mut a := (OwnS.of_acc F.acc).2.2
theorem Fresh.new {h h' : Heap} {ty sz : Nat} {cells : List (List AVal)} {a : AVal} (F : Fresh h h' ty sz cells a) : ∀ r, rootOf a = some r → h r = none := (OwnS.of_acc F.acc).2.1
theorem Fresh.keep {h h' h2 : Heap} {ty sz : Nat} {cells : List (List AVal)} {a : AVal} (F : Fresh h h' ty sz cells a) (hk : ∀ r o, rootOf a = some r → h' r = some o → h2 r = some o) : Fresh h h2 ty sz cells a := ⟨by
  rcases F.acc with h1 | ⟨r, h0, h1, h2⟩
  · exact .inl h1
  · exact .inr ⟨r, h0, hk r _ (by rw [h2]; rfl) h1, h2⟩⟩
def c59 : SFun := ⟨.seq (.reg [⟨some 1, .boxF 24 2 (.t 0), none⟩, ⟨some 2, .new 24 2 [.emp, .bool false], none⟩]) (.seq (.reg [⟨some 6, .fldA 1 (.t 1), none⟩, ⟨some 7, .ld 1 false (.t 6), none⟩, ⟨some 8, .bld [.emp, .bool false] [(1, (1, (.t 7)))], none⟩, ⟨some 3, .new 24 2 [.emp, .bool false], none⟩, ⟨none, .st 2 (.t 3) (.t 8), none⟩]) (.seq (.seq (.reg [⟨some 4, .mv (.c (.int .i64 0)), none⟩]) (.block 0 (.loop (.seq (.seq (.reg [⟨some 9, .mv (.t 4), none⟩, ⟨some 10, .fldA 0 (.t 1), none⟩, ⟨some 11, .ld 1 false (.t 10), none⟩, ⟨some 12, .len (.t 11), none⟩, ⟨some 13, .bin .lss (.t 9) (.t 12), none⟩]) (.cond (.t 13) .skip (.exit 0))) (.seq (.block 1 (.seq (.reg [⟨some 16, .fldA 0 (.t 1), none⟩, ⟨some 17, .ld 1 false (.t 16), none⟩, ⟨some 18, .mv (.t 4), none⟩, ⟨some 19, .idxA 6 (.t 17) (.t 18), none⟩, ⟨some 20, .ld 6 true (.t 19), none⟩, ⟨some 5, .new 40 6 [.int .i64 0, .str [], .emp, .str [], .int .i64 0, .emp], none⟩, ⟨none, .st 6 (.t 5) (.t 20), none⟩]) (.seq (.reg [⟨some 21, .bldF 96 2 [], none⟩, ⟨some 22, .fldA 2 (.t 5), none⟩, ⟨some 23, .ld 1 false (.t 22), none⟩, ⟨some 24, .appF 96 2 32 (.t 21) (.t 23), none⟩, ⟨some 25, .fldA 2 (.t 5), none⟩, ⟨none, .st 1 (.t 25) (.t 24), none⟩]) (.seq (.reg [⟨some 26, .bldF 3 1 [], none⟩, ⟨some 27, .fldA 5 (.t 5), none⟩, ⟨some 28, .ld 1 false (.t 27), none⟩, ⟨some 29, .appF 3 1 8 (.t 26) (.t 28), none⟩, ⟨some 30, .fldA 5 (.t 5), none⟩, ⟨none, .st 1 (.t 30) (.t 29), none⟩]) (.reg [⟨some 31, .fldA 0 (.t 3), none⟩, ⟨some 32, .ld 1 false (.t 31), none⟩, ⟨some 33, .ld 6 true (.t 5), none⟩, ⟨some 34, .bldF 40 6 [.t 33], none⟩, ⟨some 35, .app 40 6 96 (.t 32) (.t 34), none⟩, ⟨some 36, .fldA 0 (.t 3), none⟩, ⟨none, .st 1 (.t 36) (.t 35), none⟩]))))) (.reg [⟨some 14, .mv (.t 4), none⟩, ⟨some 15, .bin .add (.t 14) (.c (.int .i64 1)), none⟩, ⟨some 4, .mv (.t 15), none⟩])))))) (.seq (.reg [⟨some 37, .ld 2 true (.t 3), none⟩, ⟨none, .st 2 (.t 2) (.t 37), none⟩]) .ret))), [.cell 2 2 true]⟩
theorem hc59 : toSF Tryz.prog {how := [(24, 8), (29, 8)]} Tryz.f59 = some c59 := by kernel_rfl
theorem hn59 : (Tryz.f59.name == "runtime.NumGoroutine") = false := by kernel_rfl
theorem copyDoc_ok (d : HDoc) (sm : DocSm d) (h : Heap) : DCalls (Pg G) 59 [.agg (eDoc d)] h fun a h' => ∃ b, a = .agg [b, .bool d.quirks] ∧ Fresh h h' 40 6 (d.nodes.map eNode) b ∧ Sub h h' := by
  have hl := sm.len
  refine dcalls_of_vc Tryz.func59 hn59 hc59 (by rw [Tryz.ntmps59]; simp) (by rw [Tryz.ntmps59]; decide) ?_
  simp -dsimp -implicitDefEqProofs (disch := omega) only [VCA, ↓upd_none, Nat.reduceEqDiff, Nat.reduceAdd, Nat.reduceLT, ↓reduceIte, fillA, okFill, setAt, ne_eq, exists_eq_left', eDoc, c59, eDoc]
  intro r2 hr2 r3 hr3
  have S0 : ∀ x y, Sim.Sub h (upd (upd h r2 (some x)) r3 (some y)) := fun x y => ((Sub.refl h).upd hr2).upd hr3.2
  have g2 : ∀ x y, (upd (upd h r2 (some x)) r3 (some y)) r2 = some x := fun x y => by rw [upd_ne _ _ (fun e => hr3.1 e.symm), upd_same]
  refine LoopVC.intro (fun m e h' => ∃ (k : Nat) (a : AVal), k ≤ d.nodes.length ∧ m = d.nodes.length - k ∧ e 1 = .pin (eDoc d) ∧ e 2 = .vp r2 0 ∧ e 3 = .vp r3 0 ∧ e 4 = aInt k ∧ Fresh h h' 40 6 ((d.nodes.take k).map eNode) a ∧ Sim.Sub h h' ∧
    h' r2 = some ⟨.t 24, 2, [[.emp, .bool false]]⟩ ∧ h' r3 = some ⟨.t 24, 2, [[a, .bool d.quirks]]⟩ ∧ rootOf a ≠ some r2 ∧ rootOf a ≠ some r3) d.nodes.length
    ⟨0, .emp, by omega, by omega, rfl, rfl, rfl, rfl, ⟨.inl ⟨rfl, rfl⟩⟩, S0 _ _, g2 _ _, upd_same _ _ _, (fun e => by cases e), (fun e => by cases e)⟩ ?_
  rintro m e h' ⟨k, a, hk, rfl, he1, he2, he3, he4, A, S, k2, k3, n2, n3⟩
  simp -dsimp -implicitDefEqProofs (disch := omega) only [VCA, Nat.reduceEqDiff, Nat.reduceAdd, Nat.reduceLeDiff, ↓reduceIte, ne_eq, eDoc, he1, he4]
  refine Br.dec (fun hlt => ?_) (fun hge => ?_)
  · have hk' : k < d.nodes.length := by omega
    have sx := sm.nth k
    have sa := sx.attrs
    have sk := sx.kids
    simp -dsimp -implicitDefEqProofs (disch := omega) only [VCA, Nat.reduceEqDiff, Nat.reduceAdd, Nat.reduceLT, Nat.reduceLeDiff, ↓reduceIte, okParts, setAt, forall_eq, exists_eq_left, exists_eq_left', eDoc, he1, he3, he4, k3, eNode]
    refine ⟨by omega, fun r5 hr5 => ⟨by omega, by omega, by omega, by omega, ?_⟩⟩
    have n53 : ¬ r3 = r5 := fun e => by rw [← e, k3] at hr5; cases hr5
    have n52 : ¬ r2 = r5 := fun e => by rw [← e, k2] at hr5; cases hr5
    have n35 : ¬ r5 = r3 := fun e => n53 e.symm
    have n25 : ¬ r5 = r2 := fun e => n52 e.symm
    simp -dsimp -implicitDefEqProofs (disch := omega) only [VCA, Nat.reduceAdd, Nat.reduceLT, Nat.reduceLeDiff, ↓reduceIte, exists_eq_left', n53]
    have O5 := A.own.keep (h2 := upd h' r5 (some ⟨.t 40, 6, [eNode (nth d.nodes k)]⟩)) fun r o hr ho => by rw [upd_ne _ _ (fun e => by rw [e, hr5] at ho; cases ho)]; exact ho
    have ll : ((d.nodes.take k).map eNode).length = k := by rw [List.length_map, List.length_take]; omega
    refine O5.app A.live (by rw [ll, List.length_singleton]; omega) (by rw [ll, List.length_singleton]; omega) fun r' h2 q1 q2 q3 => ?_
    rw [ll, List.length_singleton]
    have k5 := fun r o (hr : h' r = some o) (hn : rootOf a ≠ some r) => q3 r o (by rw [upd_ne _ _ (fun e => by rw [e, hr5] at hr; cases hr)]; exact hr) hn
    have k32 := k5 _ _ k3 n3
    have k22 := k5 _ _ k2 n2
    have hr' : h r' = none := by
      rcases q2 with e | e
      · exact A.new _ e
      · by_cases e5 : r' = r5
        · rw [e5]; exact S.none hr5
        · rw [upd_ne _ _ e5] at e; exact S.none e
    have m3 : ¬ r' = r3 := fun e => by
      rcases q2 with e' | e'
      · exact n3 (by rw [e', e])
      · rw [e, upd_ne _ _ n53, k3] at e'; cases e'
    have m2 : ¬ r' = r2 := fun e => by
      rcases q2 with e' | e'
      · exact n2 (by rw [e', e])
      · rw [e, upd_ne _ _ n52, k2] at e'; cases e'
    simp -dsimp -implicitDefEqProofs (disch := omega) only [VCA, Nat.reduceEqDiff, Nat.reduceAdd, Nat.reduceLT, Nat.reduceLeDiff, ↓reduceIte, setAt, exists_eq_left', eDoc, he1, he2, he3, he4, k32, k22]
    have em : (d.nodes.take (k + 1)).map eNode = (d.nodes.take k).map eNode ++ [eNode (nth d.nodes k)] := by rw [take_snoc hk', List.map_append]; rfl
    have el : ((d.nodes.take (k + 1)).map eNode).length = k + 1 := by rw [List.length_map, List.length_take]; omega
    refine ⟨_, by omega, k + 1, .osl r' 6 0 (k + 1), by omega, rfl, by omega, ⟨.inr ⟨r', hr', ?_, by rw [el]⟩⟩, ?_, ?_, ?_, ?_⟩
    · rw [upd_ne _ _ m3, em]; exact q1
    · refine Sub.upd (fun t o ht => ?_) hr3.2
      exact k5 t o (S _ _ ht) (fun e => by rw [A.new t e] at ht; cases ht)
    · rw [if_neg (fun e => hr3.1 e.symm)]
    · rfl
    · exact ⟨fun e => m2 (by cases e; rfl), fun e => m3 (by cases e; rfl)⟩
  · simp -dsimp -implicitDefEqProofs (disch := omega) only [VCA, Nat.reduceEqDiff, Nat.reduceAdd, Nat.reduceLT, ↓reduceIte, setAt, exists_eq_left', he2, he3, k2, k3]
    obtain rfl : k = d.nodes.length := by omega
    rw [List.take_length] at A
    refine ⟨_, Sub.refl _, _, rfl, A.keep fun r o hr ho => by rw [upd_ne _ _ (fun e => n2 (by rw [hr, e]))]; exact ho, S.upd hr2⟩
end Go.Proofs.K
end
