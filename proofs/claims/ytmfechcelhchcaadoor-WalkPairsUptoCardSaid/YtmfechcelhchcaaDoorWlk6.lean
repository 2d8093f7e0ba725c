/- Ways through a tree: pairs of nodes, plain law. -/
import Derived.Test.YtmfechcelhchcaaDoorWlk4
set_option linter.unusedSimpArgs false
set_option linter.unusedVariables false
namespace Go.Proofs.K
open Go Go.Sim Go.Proofs
section
variable {d : HDoc}
def path (d : HDoc) (n : Int) : List Int := (chain d n).reverse
theorem path_len (V : DV d) {n : Int} (hn : inD d n) : (path d n).length = up d n + 1 := by unfold path; rw [List.length_reverse, chain_len V n hn]
theorem path_up (V : DV d) {n : Int} (hn : inD d n) (hp : 0 ≤ (nd d n).parent) : path d n = path d (nd d n).parent ++ [n] := by unfold path; rw [chain_up V hn hp, List.reverse_cons]
theorem path_top (V : DV d) {n : Int} (hp : ¬ 0 ≤ (nd d n).parent) : path d n = [n] := by unfold path; rw [chain_top V hp]; rfl
theorem nth_snoc_lt {l : List Int} {x : Int} {j : Nat} (h : j < l.length) : nth (l ++ [x]) j = nth l j := by
  unfold nth; rw [List.getD_eq_getElem?_getD, List.getElem?_append_left h, ← List.getD_eq_getElem?_getD]
theorem nth_snoc_eq {l : List Int} {x : Int} : nth (l ++ [x]) l.length = x := by simp [nth, List.getD_eq_getElem?_getD]
theorem path_at (V : DV d) : ∀ n, inD d n → ∀ j, j ≤ up d n → nth (path d n) j ∈ chain d n ∧ up d (nth (path d n) j) = j := V.rise fun n hn ih j hj => by
  by_cases hp : 0 ≤ (nd d n).parent
  · have hu := V.up_par hn hp
    have hl := path_len V (V.par_in hn hp).1
    rw [path_up V hn hp]
    by_cases h1 : j = up d n
    · have : j = (path d (nd d n).parent).length := by omega
      rw [this, nth_snoc_eq]; exact ⟨chain_self _ _, by omega⟩
    · obtain ⟨h2, h3⟩ := ih hp j (by omega)
      rw [nth_snoc_lt (by omega)]
      exact ⟨by rw [chain_up V hn hp]; exact List.mem_cons_of_mem _ h2, h3⟩
  · have hu := V.up_top hp
    obtain rfl : j = 0 := by omega
    rw [path_top V hp]; exact ⟨chain_self _ _, hu⟩
theorem path_mem (V : DV d) {n y : Int} (hn : inD d n) (hy : y ∈ chain d n) : nth (path d n) (up d y) = y := by
  have h1 := path_at V n hn (up d y) (chain_le V n hn y hy).1
  exact chain_one V n hn _ h1.1 _ hy h1.2
theorem path_kid (V : DV d) {n : Int} (hn : inD d n) {j : Nat} (hj : j + 1 ≤ up d n) : nth (path d n) (j + 1) ∈ (nd d (nth (path d n) j)).kids := by
  obtain ⟨h1, h2⟩ := path_at V n hn (j + 1) hj
  have hz := chain_in V n hn _ h1
  have hp : 0 ≤ (nd d (nth (path d n) (j + 1))).parent := by
    refine Classical.byContradiction fun hp => ?_
    have := V.up_top hp; omega
  have hu := V.up_par hz hp
  have hc : (nd d (nth (path d n) (j + 1))).parent ∈ chain d n := chain_trans V n hn _ h1 _ (by rw [chain_up V hz hp]; exact List.mem_cons_of_mem _ (chain_self _ _))
  have := path_mem V hn hc
  rw [show up d (nd d (nth (path d n) (j + 1))).parent = j by omega] at this
  rw [this]
  exact (V.par_in hz hp).2
theorem chain_zero (V : DV d) {a c : Int} (ha : inD d a) (h0 : 0 ∈ chain d a) (hc : c ∈ chain d a) : 0 ∈ chain d c := by
  have hci := chain_in V a ha c hc
  obtain ⟨h1, h2⟩ := path_at V c hci 0 (by omega)
  have h3 := chain_trans V a ha c hc _ h1
  have : nth (path d c) 0 = 0 := chain_one V a ha _ h3 _ h0 (by rw [h2, V.up_top (by have := V.root; omega)])
  rw [← this]; exact h1
theorem idx_lt {L A B C : List Int} {a b : Int} (hn : L.Nodup) (h : L = A ++ a :: (B ++ b :: C)) : idxM (· == a) L < idxM (· == b) L := by
  rw [idx_nodup hn h, idx_nodup hn (A := A ++ a :: B) (B := C) (x := b) (by rw [h]; simp)]
  simp; omega
/-- where the ways down to two nodes part -/
structure Part (d : HDoc) (a b : Int) (i : Nat) : Prop where
  pos : 1 ≤ i
  la : i ≤ (path d a).length
  lb : i ≤ (path d b).length
  eq : ∀ j, j < i → nth (path d a) j = nth (path d b) j
  ne : ¬ (i < (path d a).length ∧ i < (path d b).length ∧ nth (path d a) i = nth (path d b) i)
variable {a b : Int} {i : Nat}
theorem Part.node (V : DV d) (ha : inD d a) (hb : inD d b) (p : Part d a b i) : nth (path d a) (i - 1) ∈ chain d a ∧ nth (path d a) (i - 1) ∈ chain d b ∧ up d (nth (path d a) (i - 1)) = i - 1 := by
  have h1 := path_at V a ha (i - 1) (by have := p.la; rw [path_len V ha] at this; omega)
  have h2 := path_at V b hb (i - 1) (by have := p.lb; rw [path_len V hb] at this; omega)
  exact ⟨h1.1, by rw [p.eq _ (by have := p.pos; omega)]; exact h2.1, h1.2⟩
theorem flat_lt (V : DV d) {c x y u v : Int} {A B K1 K3 K4 : List Int} (cx : Ctx d c A B) (hk : (nd d c).kids = K1 ++ x :: (K3 ++ y :: K4)) (hu : u ∈ below d x) (hv : v ∈ below d y) : idxM (· == u) (below d 0) < idxM (· == v) (below d 0) := by
  have hc := ctx_inD V cx
  obtain ⟨U1, U2, hU⟩ := List.append_of_mem hu
  obtain ⟨W1, W2, hW⟩ := List.append_of_mem hv
  refine idx_lt (A := A ++ c :: (K1.flatMap (below d) ++ U1)) (B := U2 ++ (K3.flatMap (below d) ++ W1)) (C := W2 ++ (K4.flatMap (below d) ++ B)) (below_nodup V 0 V.zero) ?_
  rw [ctx_eq V cx, below_eq V hc, hk]
  simp [List.flatMap_append, hU, hW]
theorem top_lt (V : DV d) {c v : Int} {A B : List Int} (cx : Ctx d c A B) (hv : v ∈ below d c) (hne : v ≠ c) : idxM (· == c) (below d 0) < idxM (· == v) (below d 0) := by
  have hc := ctx_inD V cx
  rw [below_eq V hc] at hv
  have hv := (List.mem_cons.1 hv).resolve_left hne
  obtain ⟨W1, W2, hW⟩ := List.append_of_mem hv
  refine idx_lt (A := A) (B := W1) (C := W2 ++ B) (below_nodup V 0 V.zero) ?_
  rw [ctx_eq V cx, below_eq V hc, hW]
  simp
/-- what Before says where the ways part -/
theorem before_eq (V : DV d) (ha : inD d a) (hb : inD d b) (h0 : 0 ∈ chain d a) (p : Part d a b i) :
    (if i < (path d a).length ∧ i < (path d b).length then decide (idxM (· == nth (path d a) i) (nd d (nth (path d a) (i - 1))).kids < idxM (· == nth (path d b) i) (nd d (nth (path d a) (i - 1))).kids)
      else decide ((path d a).length < (path d b).length)) = decide (idxM (· == a) (below d 0) < idxM (· == b) (below d 0)) := by
  obtain ⟨c1, c2, c3⟩ := p.node V ha hb
  have hla := path_len V ha
  have hlb := path_len V hb
  have p1 := p.pos
  have pa := p.la
  have pb := p.lb
  have hc := chain_in V a ha _ c1
  obtain ⟨A, B, cx⟩ := ctx_of V _ hc (chain_zero V ha h0 c1)
  by_cases hab : i < (path d a).length ∧ i < (path d b).length
  · rw [if_pos hab]
    have hx := path_kid V ha (j := i - 1) (by omega)
    have hy := path_kid V hb (j := i - 1) (by omega)
    rw [← p.eq (i - 1) (by omega)] at hy
    rw [show i - 1 + 1 = i by omega] at hx hy
    have hxa := (path_at V a ha i (by omega)).1
    have hyb := (path_at V b hb i (by omega)).1
    have hne : nth (path d a) i ≠ nth (path d b) i := fun e => p.ne ⟨hab.1, hab.2, e⟩
    have ua := (mem_below V ha (chain_in V a ha _ hxa)).2 hxa
    have ub := (mem_below V hb (chain_in V b hb _ hyb)).2 hyb
    generalize nth (path d a) (i - 1) = c at *
    generalize nth (path d a) i = x at *
    generalize nth (path d b) i = y at *
    have hnd := V.nodup c hc
    obtain ⟨K1, K2, hk⟩ := List.append_of_mem hx
    rw [hk] at hy
    rcases List.mem_append.1 hy with hy | hy
    · obtain ⟨K3, K4, hk2⟩ := List.append_of_mem hy
      have hk3 : (nd d c).kids = K3 ++ y :: (K4 ++ x :: K2) := by rw [hk, hk2]; simp
      have h1 := idx_lt hnd hk3
      have h2 := flat_lt V cx hk3 ub ua
      rw [decide_eq_false (by omega), decide_eq_false (by omega)]
    · have hy := (List.mem_cons.1 hy).resolve_left (fun e => hne e.symm)
      obtain ⟨K3, K4, hk2⟩ := List.append_of_mem hy
      have hk3 : (nd d c).kids = K1 ++ x :: (K3 ++ y :: K4) := by rw [hk, hk2]
      have h1 := idx_lt hnd hk3
      have h2 := flat_lt V cx hk3 ua ub
      rw [decide_eq_true h1, decide_eq_true h2]
  · rw [if_neg hab]
    have ba := (mem_below V ha hc).2 c1
    have bb := (mem_below V hb hc).2 c2
    by_cases h1 : i < (path d a).length
    · have h2 : up d b = i - 1 := by omega
      have e2 : nth (path d b) (up d b) = b := path_mem V hb (chain_self _ _)
      rw [h2, ← p.eq _ (by omega)] at e2
      rw [e2] at cx ba
      have hne : a ≠ b := fun e => by subst e; omega
      have := top_lt V cx ba hne
      rw [decide_eq_false (by omega), decide_eq_false (by omega)]
    · have h2 : up d a = i - 1 := by omega
      have e2 : nth (path d a) (up d a) = a := path_mem V ha (chain_self _ _)
      rw [h2] at e2
      rw [e2] at cx bb
      by_cases h3 : i < (path d b).length
      · have hne : b ≠ a := fun e => by subst e; omega
        have := top_lt V cx bb hne
        rw [decide_eq_true this, decide_eq_true (by omega)]
      · have e3 : nth (path d b) (up d b) = b := path_mem V hb (chain_self _ _)
        rw [show up d b = i - 1 by omega, ← p.eq _ (by omega), e2] at e3
        subst e3
        simp
def lastM (p : Int → Bool) (l : List Int) : Int := (l.filter p).getLastD 0
theorem lastM_snoc {p : Int → Bool} {l : List Int} {x : Int} : lastM p (l ++ [x]) = if p x = true then x else lastM p l := by
  unfold lastM
  rw [List.filter_append]
  by_cases h : p x = true
  · rw [if_pos h, List.filter_cons_of_pos h]; simp [List.getLastD_eq_getLast?]
  · rw [if_neg h, List.filter_cons_of_neg h]; simp
theorem lastM_is {p : Int → Bool} {A R : List Int} {c : Int} (h1 : p c = true) (h2 : ∀ y ∈ R, ¬ p y = true) : lastM p (A ++ c :: R) = c := by
  unfold lastM
  rw [List.filter_append, List.filter_cons_of_pos h1, List.filter_eq_nil_iff.2 h2]
  simp [List.getLastD_eq_getLast?]
/-- the common node is the last one above both -/
theorem common_is (V : DV d) (ha : inD d a) (hb : inD d b) (h0 : 0 ∈ chain d a) (p : Part d a b i) :
    lastM (fun y => decide (y ∈ chain d a) && decide (y ∈ chain d b)) (below d 0) = nth (path d a) (i - 1) := by
  obtain ⟨c1, c2, c3⟩ := p.node V ha hb
  have hla := path_len V ha
  have hlb := path_len V hb
  have p1 := p.pos
  have pa := p.la
  have pb := p.lb
  have hc := chain_in V a ha _ c1
  obtain ⟨A, B, cx⟩ := ctx_of V _ hc (chain_zero V ha h0 c1)
  have hnd := below_nodup V 0 V.zero
  have he := ctx_eq V cx
  rw [below_eq V hc] at he
  rw [he] at hnd ⊢
  refine lastM_is (R := (nd d (nth (path d a) (i - 1))).kids.flatMap (below d) ++ B) (by simp [c1, c2]) fun y hy hh => ?_
  simp only [Bool.and_eq_true, decide_eq_true_eq] at hh
  obtain ⟨y1, y2⟩ := hh
  have hyi := chain_in V a ha y y1
  -- not so deep
  have hle : up d y < i := by
    refine Classical.byContradiction fun hge => ?_
    have ya := (chain_le V a ha y y1).1
    have yb := (chain_le V b hb y y2).1
    obtain ⟨z1, z2⟩ := path_at V y hyi i (by omega)
    have za := path_mem V ha (chain_trans V a ha y y1 _ z1)
    have zb := path_mem V hb (chain_trans V b hb y y2 _ z1)
    rw [z2] at za zb
    exact p.ne ⟨by omega, by omega, by rw [za, zb]⟩
  have hyc : y ∈ chain d (nth (path d a) (i - 1)) := by
    obtain ⟨z1, z2⟩ := path_at V _ hc (up d y) (by omega)
    have := chain_one V a ha _ (chain_trans V a ha _ c1 _ z1) _ y1 z2
    rw [← this]; exact z1
  by_cases hyn : y = nth (path d a) (i - 1)
  · rw [List.nodup_append] at hnd
    have := (List.nodup_cons.1 hnd.2.1).1
    rw [← hyn] at this
    exact this (by rw [← hyn] at hy; exact hy)
  · obtain ⟨A', B', cy⟩ := ctx_of V y hyi (chain_zero V ha h0 y1)
    have h1 := top_lt V cy ((mem_below V hc hyi).2 hyc) (fun e => hyn e.symm)
    obtain ⟨R1, R2, hR⟩ := List.append_of_mem hy
    have h2 := idx_lt (L := below d 0) (A := A) (a := nth (path d a) (i - 1)) (B := R1) (b := y) (C := R2) (below_nodup V 0 V.zero) (by rw [he]; simp only [List.cons_append]; rw [hR])
    omega
theorem part_of (V : DV d) (ha : inD d a) (hb : inD d b) (h0a : 0 ∈ chain d a) (h0b : 0 ∈ chain d b) (la : i ≤ (path d a).length) (lb : i ≤ (path d b).length)
    (eq : ∀ j, j < i → nth (path d a) j = nth (path d b) j) (ne : ¬ (i < (path d a).length ∧ i < (path d b).length ∧ nth (path d a) i = nth (path d b) i)) : Part d a b i :=
  ⟨by
    cases i with
    | zero =>
      exfalso
      refine ne ⟨by rw [path_len V ha]; omega, by rw [path_len V hb]; omega, ?_⟩
      unfold path
      rw [(chain_rev0 V a ha).2 h0a, (chain_rev0 V b hb).2 h0b]
    | succ i => omega, la, lb, eq, ne⟩
end
end Go.Proofs.K
