/- Ways through a tree: the plain law. -/
import Derived.Test.YtmfechcelhchcaaDoorDom1
set_option linter.unusedSimpArgs false
set_option linter.unusedVariables false
namespace Go.Proofs.K
open Go Go.Sim Go.Proofs

/-- a kid: the first one, or the last one; -1: there is none -/
def kidW (d : HDoc) (n : Int) (last : Bool) : Int := if last = true then (nd d n).kids.getLastD (-1) else (nd d n).kids.headD (-1)
/-- beside a node, so many on; -1: there is none -/
def besideW (d : HDoc) (n by' : Int) : Int :=
  if (nd d n).parent < 0 then -1
  else let l := (nd d (nd d n).parent).kids
    let i := idxM (· == n) l + by'
    if i < 0 ∨ (l.length : Int) ≤ i then -1 else nth l i.toNat
/-- over a node, and all below it -/
def overF : Nat → HDoc → Int → Int
  | 0, d, n => besideW d n 1
  | f + 1, d, n => if 0 ≤ besideW d n 1 then besideW d n 1 else if 0 ≤ (nd d n).parent then overF f d (nd d n).parent else -1
def overW (d : HDoc) (n : Int) : Int := overF 40 d n
def nextW (d : HDoc) (n : Int) : Int := if 0 ≤ kidW d n false then kidW d n false else overW d n
def downF : Nat → HDoc → Int → Int
  | 0, _, n => n
  | f + 1, d, n => if 0 ≤ kidW d n true then downF f d (kidW d n true) else n
def downW (d : HDoc) (n : Int) : Int := downF 40 d n
def lastW (d : HDoc) (n : Int) : Int := if besideW d n (-1) < 0 then (nd d n).parent else downW d (besideW d n (-1))
def stepW (d : HDoc) (n how : Int) : Int :=
  if how = 1 then nextW d n else if how = 2 then lastW d n else if how = 3 then overW d n else if how = 4 then kidW d n false else if how = 5 then kidW d n true
  else if how = 6 then besideW d n 1 else if how = 7 then besideW d n (-1) else (nd d n).parent

section
variable {d : HDoc}
theorem kid_no {n : Int} {b : Bool} (h : (nd d n).kids = []) : kidW d n b = -1 := by unfold kidW; rw [h]; cases b <;> rfl
theorem kid_yes (V : DV d) {n : Int} {b : Bool} (hn : inD d n) (h : (nd d n).kids ≠ []) : kidW d n b ∈ (nd d n).kids ∧ inD d (kidW d n b) := by
  have : kidW d n b ∈ (nd d n).kids := by
    unfold kidW
    cases hk : (nd d n).kids with
    | nil => exact absurd hk h
    | cons x r => cases b
                  · simp
                  · simp only [if_true]
                    rw [List.getLastD_eq_getLast?, List.getLast?_eq_some_getLast (by simp), Option.getD_some]
                    exact List.getLast_mem _
  exact ⟨this, (V.kid n hn _ this).1⟩
theorem kid_ge (V : DV d) {n : Int} {b : Bool} (hn : inD d n) : 0 ≤ kidW d n b ↔ (nd d n).kids ≠ [] := by
  by_cases h : (nd d n).kids = []
  · rw [kid_no h]; simp [h]
  · have := (kid_yes V (b := b) hn h).2.1
    simp [h]; omega
theorem idx_nodup {l : List Int} (hn : l.Nodup) {A B : List Int} {x : Int} (h : l = A ++ x :: B) : idxM (· == x) l = A.length := by
  have hl : A.length < l.length := by rw [h]; simp
  refine idxM_some hl (fun j hj => ?_) (by rw [h]; simp [nth, List.getD_eq_getElem?_getD])
  have : nth l j ∈ A := by
    have e : nth l j = nth A j := by rw [h]; unfold nth; rw [List.getD_eq_getElem?_getD, List.getElem?_append_left hj, ← List.getD_eq_getElem?_getD]
    rw [e]; exact nth_mem' hj
  rw [beq_eq_false_iff_ne]
  intro e
  rw [h, List.nodup_append] at hn
  exact hn.2.2 (nth l j) this x List.mem_cons_self e
theorem beside_is (V : DV d) {p n : Int} {K1 K2 : List Int} (hp : inD d p) (hk : (nd d p).kids = K1 ++ n :: K2) : besideW d n 1 = K2.headD (-1) ∧ besideW d n (-1) = K1.getLastD (-1) := by
  have hm : n ∈ (nd d p).kids := by rw [hk]; simp
  have h1 := (V.kid p hp n hm).2
  have hi := idx_nodup (V.nodup p hp) hk
  have hp0 := hp.1
  have hl : (nd d p).kids.length = K1.length + 1 + K2.length := by rw [hk]; simp; omega
  constructor
  · unfold besideW
    rw [h1, if_neg (by omega)]
    simp only
    rw [hi]
    cases K2 with
    | nil => rw [if_pos (.inr (by rw [hl]; simp))]; rfl
    | cons y r =>
      rw [if_neg (by rw [hl]; simp; omega)]
      have : ((K1.length : Int) + 1).toNat = K1.length + 1 := by omega
      rw [this, hk]
      simp [nth, List.getD_eq_getElem?_getD]
  · unfold besideW
    rw [h1, if_neg (by omega)]
    simp only
    rw [hi]
    by_cases h0 : K1 = []
    · subst h0; simp
    · have hpos := List.length_pos_iff.2 h0
      rw [if_neg (by rw [hl]; omega)]
      have : ((K1.length : Int) + -1).toNat = K1.length - 1 := by omega
      rw [this, hk]
      unfold nth
      rw [List.getD_eq_getElem?_getD, List.getElem?_append_left (by omega), ← List.getLast?_eq_getElem?, List.getLastD_eq_getLast?]
      rw [List.getLast?_eq_some_getLast h0]; rfl
theorem beside_top (V : DV d) {n : Int} (h : (nd d n).parent < 0) (b : Int) : besideW d n b = -1 := by unfold besideW; rw [if_pos h]
/-- what lies ahead of a node and all below it in the tree's order, and what lies behind -/
inductive Ctx (d : HDoc) : Int → List Int → List Int → Prop
  | root : Ctx d 0 [] []
  | kid {n k : Int} {A B K1 K2 : List Int} (c : Ctx d n A B) (hk : (nd d n).kids = K1 ++ k :: K2) : Ctx d k (A ++ n :: K1.flatMap (below d)) (K2.flatMap (below d) ++ B)
theorem ctx_inD (V : DV d) {n : Int} {A B : List Int} (c : Ctx d n A B) : inD d n := by
  induction c with
  | root => exact V.zero
  | kid c hk ih => exact (V.kid _ ih _ (by rw [hk]; simp)).1
theorem ctx_eq (V : DV d) {n : Int} {A B : List Int} (c : Ctx d n A B) : below d 0 = A ++ (below d n ++ B) := by
  induction c with
  | root => simp
  | kid c hk ih =>
    rw [ih, below_eq V (ctx_inD V c), hk]
    simp [List.flatMap_append]
theorem ctx_of (V : DV d) : ∀ n, inD d n → 0 ∈ chain d n → ∃ A B, Ctx d n A B := V.rise fun n hn ih h => by
  by_cases hp : 0 ≤ (nd d n).parent
  · rw [chain_up V hn hp] at h
    rcases List.mem_cons.1 h with h | h
    · subst h; have := V.root; omega
    · obtain ⟨A, B, c⟩ := ih hp h
      obtain ⟨K1, K2, hk⟩ := List.append_of_mem (V.par_in hn hp).2
      exact ⟨_, _, c.kid hk⟩
  · rw [chain_top V hp] at h
    simp at h; subst h
    exact ⟨[], [], .root⟩
theorem overF_eq (V : DV d) : ∀ (f g : Nat) (n : Int), inD d n → up d n ≤ f → up d n ≤ g → overF f d n = overF g d n := by
  have z : ∀ (g : Nat) (n : Int), inD d n → up d n = 0 → overF g d n = besideW d n 1 := fun g n hn h0 => by
    have hp : ¬ 0 ≤ (nd d n).parent := fun hp => by have := V.up_par hn hp; omega
    cases g with
    | zero => rfl
    | succ g => unfold overF; rw [beside_top V (by omega)]; simp [hp]
  intro f
  induction f with
  | zero => intro g n hn hf hg; rw [z 0 n hn (by omega), z g n hn (by omega)]
  | succ f ih =>
    intro g n hn hf hg
    cases g with
    | zero => rw [z _ n hn (by omega), z 0 n hn (by omega)]
    | succ g =>
      unfold overF
      split
      · rfl
      · split
        · rename_i hp
          exact ih g _ (V.par_in hn hp).1 (by have := V.up_par hn hp; omega) (by have := V.up_par hn hp; omega)
        · rfl
theorem over_eq (V : DV d) {n : Int} (hn : inD d n) : overW d n = if 0 ≤ besideW d n 1 then besideW d n 1 else if 0 ≤ (nd d n).parent then overW d (nd d n).parent else -1 := by
  have h40 := V.deep n hn
  have : overW d n = overF 41 d n := overF_eq V 40 41 n hn (by omega) (by omega)
  rw [this, overF]
  rfl
theorem headD_ge {l : List Int} (h : ∀ x ∈ l, 0 ≤ x) : (0 ≤ l.headD (-1) ↔ l ≠ []) := by
  cases l with
  | nil => simp
  | cons x r => have := h x List.mem_cons_self; simp; omega
theorem below_head (V : DV d) {n : Int} (hn : inD d n) (x : Int) (r : List Int) : (below d n ++ r).headD x = n := by rw [below_eq V hn]; rfl
theorem ctx_over (V : DV d) {n : Int} {A B : List Int} (c : Ctx d n A B) : overW d n = B.headD (-1) := by
  induction c with
  | root => rw [over_eq V V.zero, beside_top V (by have := V.root; omega), if_neg (by omega), if_neg (by have := V.root; omega)]; rfl
  | @kid n k A B K1 K2 c hk ih =>
    have hn := ctx_inD V c
    have hkd := (V.kid n hn k (by rw [hk]; simp))
    have hb := (beside_is V hn hk).1
    cases K2 with
    | nil =>
      have hb : besideW d k 1 = -1 := hb
      rw [over_eq V hkd.1, hb, if_neg (by omega), hkd.2, if_pos hn.1, ih]; rfl
    | cons y r =>
      have hb : besideW d k 1 = y := hb
      have hy := (V.kid n hn y (by rw [hk]; simp)).1
      rw [over_eq V hkd.1, hb, if_pos hy.1, List.flatMap_cons, List.append_assoc, below_head V hy]
theorem ctx_next (V : DV d) {n : Int} {A B : List Int} (c : Ctx d n A B) : nextW d n = ((nd d n).kids.flatMap (below d) ++ B).headD (-1) := by
  have hn := ctx_inD V c
  unfold nextW
  by_cases h : (nd d n).kids = []
  · rw [if_neg (by rw [kid_ge V hn]; simp [h]), ctx_over V c, h]; rfl
  · rw [if_pos ((kid_ge V hn).2 h)]
    unfold kidW
    obtain ⟨x, r, hx⟩ := List.exists_cons_of_ne_nil h
    have hxd := (V.kid n hn x (by rw [hx]; simp)).1
    rw [hx, List.flatMap_cons, List.append_assoc, below_head V hxd]; rfl
theorem getLastD_append {l m : List Int} (h : m ≠ []) (x : Int) : (l ++ m).getLastD x = m.getLastD x := by
  rw [List.getLastD_eq_getLast?, List.getLastD_eq_getLast?, List.getLast?_append, List.getLast?_eq_some_getLast h]; rfl
theorem flatMap_last {l : List Int} {f : Int → List Int} {x : Int} (h : f x ≠ []) : (List.flatMap f (l ++ [x])).getLastD (-1) = (f x).getLastD (-1) := by
  rw [List.flatMap_append, List.flatMap_cons, List.flatMap_nil, List.append_nil, getLastD_append h]
theorem snoc_of {l : List Int} (h : l ≠ []) : l = l.dropLast ++ [l.getLastD (-1)] := by
  rw [List.getLastD_eq_getLast?, List.getLast?_eq_some_getLast h]
  exact (List.dropLast_concat_getLast h).symm
theorem last_mem {l : List Int} (h : l ≠ []) : l.getLastD (-1) ∈ l := by
  rw [List.getLastD_eq_getLast?, List.getLast?_eq_some_getLast h]; exact List.getLast_mem h
theorem flat_ne (V : DV d) {l : List Int} {x : Int} (hm : x ∈ l) (hx : inD d x) : l.flatMap (below d) ≠ [] := fun e => by
  have : x ∈ l.flatMap (below d) := List.mem_flatMap.2 ⟨x, hm, below_self V hx⟩
  rw [e] at this; cases this
theorem below_ne (V : DV d) {n : Int} (hn : inD d n) : below d n ≠ [] := by rw [below_eq V hn]; simp
theorem down_last (V : DV d) : ∀ (f : Nat) (n : Int), inD d n → 40 ≤ f + up d n → downF f d n = (below d n).getLastD (-1)
  | f, n, hn, hf => by
    have h40 := V.deep n hn
    rw [below_eq V hn]
    by_cases h : (nd d n).kids = []
    · have : downF f d n = n := by
        cases f with
        | zero => rfl
        | succ f => unfold downF; rw [if_neg (by rw [kid_ge V hn]; simp [h])]
      rw [this, h]; rfl
    · obtain ⟨h1, h2⟩ := kid_yes V (b := true) hn h
      have hu := V.up_kid hn h1
      have hd := V.deep _ h2
      cases f with
      | zero => omega
      | succ f =>
        unfold downF
        rw [if_pos ((kid_ge V hn).2 h), down_last V f _ h2 (by omega)]
        have e : kidW d n true = (nd d n).kids.getLastD (-1) := rfl
        have hs := snoc_of h
        rw [← e] at hs
        rw [show n :: (nd d n).kids.flatMap (below d) = [n] ++ (nd d n).kids.flatMap (below d) from rfl, getLastD_append]
        · rw [hs, flatMap_last (below_ne V h2)]
        · rw [hs, List.flatMap_append]
          simp [below_ne V h2]
theorem ctx_last (V : DV d) {n : Int} {A B : List Int} (c : Ctx d n A B) : lastW d n = A.getLastD (-1) := by
  unfold lastW
  cases c with
  | root =>
    have := V.root
    rw [beside_top V (by omega), if_pos (by omega), this]; rfl
  | @kid p _ A B K1 K2 c hk =>
    have hn := ctx_inD V c
    have hkd := V.kid p hn n (by rw [hk]; simp)
    rw [(beside_is V hn hk).2]
    by_cases h : K1 = []
    · subst h
      simp [hkd.2]
    · have hs := snoc_of h
      have hm : K1.getLastD (-1) ∈ (nd d p).kids := by
        rw [hk, List.mem_append]; left
        exact last_mem h
      have hl := (V.kid p hn _ hm).1
      rw [if_neg (by have := hl.1; omega)]
      unfold downW
      rw [down_last V 40 _ hl (by omega)]
      rw [getLastD_append (by simp), show p :: K1.flatMap (below d) = [p] ++ K1.flatMap (below d) from rfl, getLastD_append]
      · conv => rhs; rw [hs]
        rw [flatMap_last (below_ne V hl)]
      · exact flat_ne V (last_mem h) hl
end
end Go.Proofs.K
