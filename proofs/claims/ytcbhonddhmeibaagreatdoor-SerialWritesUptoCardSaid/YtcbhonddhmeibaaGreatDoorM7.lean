/- Texts of this claim, one behind the other. -/
import Derived.Test.YtcbhonddhmeibaaGreatDoorM6
import Derived.Test.YtcbhonddhmeibaaGreatDoorM5
import Derived.Test.YtcbhonddhmeibaaGreatDoorM3
import Derived.Test.YtcbhonddhmeibaaGreatDoorM4
set_option maxHeartbeats 4000000
set_option maxRecDepth 100000
section
set_option linter.unusedSimpArgs false
set_option linter.unusedVariables false
namespace Go.Proofs.K
open Go Go.Sim Go.Proofs
theorem attrL_eq (a : HAttr) (r : List UInt8) : attrL a ++ r = 32 :: (a.name ++ 61 :: (K8 a.value ++ r)) := by
 unfold attrL; simp
theorem ats_in : ∀ (f : Nat) (t : List UInt8) (l : List HAttr), (t = [] \/ t.head? = some 32) -> atsS f t = some l -> t = l.flatMap attrL /\ ∀ u, t = 32 :: u -> atsP f u = l
 | 0, _, _, _, h => by cases h
 | f + 1, [], l, _, h => by
  unfold atsS at h; cases h
  exact ⟨rfl, fun u hu => by cases hu⟩
 | f + 1, c :: u, l, hc, h => by
  have hc : c = 32 := by
   rcases hc with hc | hc
   ·cases hc
   ·simpa using hc
  subst hc
  unfold atsS at h
  simp only at h
  split at h
  ·cases h
  ·rename_i nm v hcut
   split at h
   ·cases h
   ·rename_i x r hin
    obtain ⟨h1, h2⟩ := inq_uq hin
    have hu := (cutB_is (b := 61) u).2
    rw [hcut] at hu
    simp only at hu
    have hP : atsP (f + 1) u = ⟨nm, x⟩ :: (match (Y8 32 r).2 with | none => [] | some u' => atsP f u') := by
     rw [atsP, hcut]
     simp only [Option.getD_some]
     rw [h1]
     first | done | rfl
    split at h
    ·rename_i hr
     subst hr
     cases h
     refine ⟨?_, fun u' hu' => ?_⟩
     ·rw [List.flatMap_cons, List.flatMap_nil, attrL_eq, <- h2, <- hu]
     ·cases hu'; rw [hP]; rfl
    ·rename_i hr
     split at h
     ·rename_i hh
      obtain ⟨hh1, hh2⟩ := hh
      rw [Option.map_eq_some_iff] at h
      obtain ⟨l', hl', rfl⟩ := h
      obtain ⟨g1, g2⟩ := ats_in f r l' (.inr hh1) hl'
      refine ⟨?_, fun u' hu' => ?_⟩
      ·rw [List.flatMap_cons, attrL_eq, <- g1, <- h2, <- hu]
      ·cases hu'
       rw [hP]
       cases r with
       | nil => exact absurd rfl hr
       | cons b r' =>
        simp only [List.head?_cons, Option.some.injEq] at hh1
        subst hh1
        have : Y8 32 ((32 : UInt8) :: r') = ([], some r') := by unfold Y8; rw [if_pos rfl]
        rw [this]
        simp only
        rw [g2 r' rfl]
     ·cases h
theorem nodeS_in {t : List UInt8} {x : HNode} (h : nodeS t = some x) : nodeU t = x /\ lineM x = t /\ x.parent = 0 /\ x.kids = [] := by
 unfold nodeS at h
 unfold nodeU
 split at h
 ·cases h
 rename_i h0
 split at h
 ·rename_i h33
  rw [if_pos h33]
  cases t with
  | nil => exact absurd rfl h0
  | cons c t =>
   simp only [List.head?_cons, Option.some.injEq] at h33
   subst h33
   rw [List.drop_succ_cons, List.drop_zero] at h ⊢
   split at h
   ·rename_i y hy
    cases h
    obtain ⟨h1, h2⟩ := inq_uq hy
    rw [h1]
    refine ⟨rfl, ?_, rfl, rfl⟩
    rw [List.append_nil] at h2
    rw [h2]; rfl
   ·cases h
 ·rename_i h33
  rw [if_neg h33]
  split at h
  ·rename_i h34
   rw [if_pos h34]
   split at h
   ·rename_i y hy
    cases h
    obtain ⟨h1, h2⟩ := inq_uq hy
    rw [h1]
    refine ⟨rfl, ?_, rfl, rfl⟩
    rw [List.append_nil] at h2
    rw [h2]; rfl
   ·cases h
  ·rename_i h34
   rw [if_neg h34]
   split at h
   ·rename_i h45
    rw [if_pos h45]
    cases t with
    | nil => exact absurd rfl h0
    | cons c t =>
     simp only [List.head?_cons, Option.some.injEq] at h45
     subst h45
     rw [List.drop_succ_cons, List.drop_zero] at h ⊢
     split at h
     ·rename_i y hy
      cases h
      obtain ⟨h1, h2⟩ := inq_uq hy
      rw [h1]
      refine ⟨rfl, ?_, rfl, rfl⟩
      rw [List.append_nil] at h2
      rw [h2]; rfl
     ·cases h
   ·rename_i h45
    rw [if_neg h45]
    rw [Option.map_eq_some_iff] at h
    obtain ⟨l, hl, rfl⟩ := h
    have hc := (cutB_is (b := 32) t).2
    have hd := (congrArg (List.drop (Y8 32 t).1.length) hc).trans List.drop_left
    rw [hd] at hl
    cases hr : (Y8 32 t).2 with
    | none =>
     rw [hr] at hl hc
     simp only at hl hc
     have : l = [] := by unfold atsS at hl; cases hl; rfl
     subst this
     refine ⟨rfl, ?_, rfl, rfl⟩
     rw [List.append_nil] at hc
     conv => rhs; rw [hc]
     unfold lineM
     rw [if_neg (show ¬ (2 : Int) = 5 by decide), if_neg (show ¬ (2 : Int) = 3 by decide), if_neg (show ¬ (2 : Int) = 4 by decide)]; simp
    | some r =>
     rw [hr] at hl hc
     simp only at hl hc
     obtain ⟨g1, g2⟩ := ats_in _ _ l (.inr rfl) hl
     refine ⟨by rw [<- g2 r rfl]; rfl, ?_, rfl, rfl⟩
     conv => rhs; rw [hc, g1]
     unfold lineM
     rw [if_neg (show ¬ (2 : Int) = 5 by decide), if_neg (show ¬ (2 : Int) = 3 by decide), if_neg (show ¬ (2 : Int) = 4 by decide)]
theorem flatA_ge : ∀ l : List HAttr, l.length <= (l.flatMap attrL).length
 | [] => Nat.zero_le _
 | a :: l => by
  have := flatA_ge l
  rw [List.flatMap_cons, attrL_eq]
  simp only [List.length_cons, List.length_append]
  omega
theorem sign_no {l : List UInt8} (h : l.all signB = true) {b : UInt8} (hb : signB b = false) : b ∉ l := fun hm => by
 have := List.all_eq_true.1 h b hm
 rw [hb] at this; cases this
theorem name_no {el : Bool} {s : List UInt8} (h : K6 el s = true) : 32 ∉ s /\ 61 ∉ s /\ 10 ∉ s /\ s ≠ [] := by
 unfold K6 at h
 simp only [Bool.and_eq_true, decide_eq_true_eq] at h
 obtain ⟨h1, h2, h3, h4⟩ := h
 exact ⟨sign_no h4 (by decide), sign_no h4 (by decide), sign_no h4 (by decide), fun e => by rw [e] at h1; simp at h1⟩
theorem ats_out : ∀ (l : List HAttr) (f : Nat), l.length < f -> (∀ a ∈ l, K6 false a.name = true) -> atsS f (l.flatMap attrL) = some l
 | [], f + 1, _, _ => by unfold atsS; rfl
 | a :: l, f + 1, hf, hn => by
  simp only [List.length_cons] at hf
  obtain ⟨h1, h2, _, _⟩ := name_no (hn a List.mem_cons_self)
  have ih := ats_out l f (by omega) fun b hb => hn b (List.mem_cons_of_mem _ hb)
  rw [List.flatMap_cons, attrL_eq]
  unfold atsS
  simp only
  rw [cutB_at h2]
  simp only
  rw [inq_quote]
  simp only
  cases l with
  | nil => rw [List.flatMap_nil, if_pos rfl]
  | cons b l =>
   have e : (b :: l).flatMap attrL = 32 :: (b.name ++ 61 :: (K8 b.value ++ l.flatMap attrL)) := by rw [List.flatMap_cons, attrL_eq]
   rw [if_neg (by rw [e]; simp), if_pos (by rw [e]; refine ⟨rfl, ?_⟩; simp), ih]; rfl
theorem nodeS_out {t : List UInt8} (Z : NodeSz (nodeU t)) (h : lineM (nodeU t) = t) : nodeS t = some (nodeU t) := by
 unfold nodeS
 unfold nodeU at h Z ⊢
 split at h
 ·rename_i h33
  rw [if_pos h33] at Z ⊢
  rw [if_neg (fun e => by rw [e] at h33; cases h33), if_pos h33]
  cases t with
  | nil => cases h33
  | cons c t =>
   rw [List.drop_succ_cons, List.drop_zero] at h ⊢
   have h : (33 : UInt8) :: K8 (fstQ (inq uqL t)) = c :: t := h
   have e : t = K8 (fstQ (inq uqL t)) ++ [] := by rw [List.append_nil]; exact (List.cons.inj h).2.symm
   have e2 : inq qtL t = some (fstQ (inq uqL t), []) := by
    conv => lhs; rw [e]
    exact inq_quote _ _
   rw [e2]
 ·rename_i h33
  rw [if_neg h33] at Z ⊢
  split at h
  ·rename_i h34
   rw [if_pos h34] at Z ⊢
   rw [if_neg (fun e => by rw [e] at h34; cases h34), if_neg h33, if_pos h34]
   have h : K8 (fstQ (inq uqL t)) = t := h
   have e2 : inq qtL t = some (fstQ (inq uqL t), []) := by
    have := inq_quote (fstQ (inq uqL t)) []
    rw [List.append_nil, h] at this
    exact this
   rw [e2]
  ·rename_i h34
   rw [if_neg h34] at Z ⊢
   split at h
   ·rename_i h45
    rw [if_pos h45] at Z ⊢
    rw [if_neg (fun e => by rw [e] at h45; cases h45), if_neg h33, if_neg h34, if_pos h45]
    cases t with
    | nil => cases h45
    | cons c t =>
     rw [List.drop_succ_cons, List.drop_zero] at h ⊢
     have h : (45 : UInt8) :: K8 (fstQ (inq uqL t)) = c :: t := h
     have e : t = K8 (fstQ (inq uqL t)) ++ [] := by rw [List.append_nil]; exact (List.cons.inj h).2.symm
     have e2 : inq qtL t = some (fstQ (inq uqL t), []) := by
      conv => lhs; rw [e]
      exact inq_quote _ _
     rw [e2]
   ·rename_i h45
    rw [if_neg h45] at Z ⊢
    have hn := Z.elem rfl
    have hne := (name_no hn).2.2.2
    rw [if_neg (fun e => by subst e; exact hne rfl), if_neg h33, if_neg h34, if_neg h45]
    obtain ⟨l, hl⟩ : ∃ l, atsO (t.length + 1) (Y8 32 t).2 = l := ⟨_, rfl⟩
    rw [hl] at h Z ⊢
    have h : (Y8 32 t).1 ++ l.flatMap attrL = t := by
     unfold lineM at h
     rw [if_neg (show ¬ (2 : Int) = 5 by decide), if_neg (show ¬ (2 : Int) = 3 by decide), if_neg (show ¬ (2 : Int) = 4 by decide)] at h
     exact h
    have hd : t.drop (Y8 32 t).1.length = l.flatMap attrL := by
     conv => lhs; rw [<- h]
     rw [List.drop_left' (by rw [h])]
    have hlen : l.length < t.length + 1 := by
     have h1 := flatA_ge l
     have h2 := congrArg List.length h
     rw [List.length_append] at h2
     omega
    rw [hd, ats_out l _ hlen fun a ha => (Z.each a ha).2.2]; rfl
theorem quo_no10 (s : List UInt8) : 10 ∉ K8 s := by
 unfold K8
 intro h
 rcases List.mem_cons.1 h with h | h
 ·exact absurd h (by decide)
 ·rcases List.mem_append.1 h with h | h
  ·obtain ⟨b, _, hb⟩ := List.mem_flatMap.1 h
   have := u8_all (p := fun b => decide ((10 : UInt8) ∉ quoB b)) (by decide +kernel) b
   exact of_decide_eq_true this hb
  ·simp at h
theorem line_no10 {x : HNode} (Z : NodeSz x) : 10 ∉ lineM x := by
 unfold lineM
 have hq := quo_no10
 repeat' split
 ·intro h
  rcases List.mem_cons.1 h with h | h
  ·exact absurd h (by decide)
  ·exact hq _ h
 ·exact hq _
 ·intro h
  rcases List.mem_cons.1 h with h | h
  ·exact absurd h (by decide)
  ·exact hq _ h
 ·rename_i h5 h3 h4
  have hk := Z.kind
  intro h
  rcases List.mem_append.1 h with h | h
  ·by_cases h2 : x.kind = 2
   ·exact (name_no (Z.elem h2)).2.2.1 h
   ·have hb := hk.2.2
    have e : x.name = [] := by
     unfold bareM at hb
     simp only [Bool.and_eq_true, Bool.or_eq_true, decide_eq_true_eq] at hb
     rcases hb.1.1.1 with (h | h) | h
     ·exact absurd h h2
     ·exact absurd h h5
     ·exact h
    rw [e] at h; cases h
  ·obtain ⟨a, ha, hh⟩ := List.mem_flatMap.1 h
   have hn := name_no (Z.each a ha).2.2
   rw [show attrL a = attrL a ++ [] by simp, attrL_eq, List.append_nil] at hh
   rcases List.mem_cons.1 hh with h | h
   ·exact absurd h (by decide)
   ·rcases List.mem_append.1 h with h | h
    ·exact hn.2.2.1 h
    ·rcases List.mem_cons.1 h with h | h
     ·exact absurd h (by decide)
     ·exact hq _ h
def addKid (d : HDoc) (p : Int) (x : HNode) : HDoc :=
 ⟨d.nodes.set p.toNat { nd d p with kids := (nd d p).kids ++ [(d.nodes.length : Int)] } ++ [{ x with parent := p }], d.quirks⟩
theorem X7 (d : HDoc) (p : Int) (x : HNode) : (addKid d p x).nodes.length = d.nodes.length + 1 := by simp [addKid]
def same5 (x y : HNode) : Prop := x.kind = y.kind /\ x.name = y.name /\ x.attrs = y.attrs /\ x.text = y.text /\ x.parent = y.parent
theorem same5_refl (x : HNode) : same5 x x := ⟨rfl, rfl, rfl, rfl, rfl⟩
theorem same5.trans {x y z : HNode} (h : same5 x y) (k : same5 y z) : same5 x z := ⟨h.1.trans k.1, h.2.1.trans k.2.1, h.2.2.1.trans k.2.2.1, h.2.2.2.1.trans k.2.2.2.1, h.2.2.2.2.trans k.2.2.2.2⟩
theorem nth_app_lo {α : Type} [Inhabited α] {l m : List α} {i : Nat} (h : i < l.length) : nth (l ++ m) i = nth l i := by
 unfold nth; rw [List.getD_eq_getElem?_getD, List.getD_eq_getElem?_getD, List.getElem?_append_left h]
theorem nth_app_at {α : Type} [Inhabited α] {l : List α} {x : α} : nth (l ++ [x]) l.length = x := by
 unfold nth; rw [List.getD_eq_getElem?_getD]; simp
theorem addKid_new (d : HDoc) (p : Int) (x : HNode) : nth (addKid d p x).nodes d.nodes.length = { x with parent := p } := by
 unfold addKid
 have := nth_app_at (l := d.nodes.set p.toNat { nd d p with kids := (nd d p).kids ++ [(d.nodes.length : Int)] }) (x := { x with parent := p })
 rw [List.length_set] at this
 exact this
theorem addKid_old {d : HDoc} {p : Int} (x : HNode) (hp : p.toNat < d.nodes.length) {m : Nat} (hm : m < d.nodes.length) :
  nth (addKid d p x).nodes m = if m = p.toNat then { nd d p with kids := (nd d p).kids ++ [(d.nodes.length : Int)] } else nth d.nodes m := by
 unfold addKid
 rw [nth_app_lo (by rw [List.length_set]; exact hm), nth_set _ _ _ _ hp]
theorem addKid_same {d : HDoc} {p : Int} (x : HNode) (hp : p.toNat < d.nodes.length) {m : Nat} (hm : m < d.nodes.length) : same5 (nth (addKid d p x).nodes m) (nth d.nodes m) := by
 rw [addKid_old x hp hm]
 split
 ·rename_i e; subst e; exact same5_refl _
 ·exact same5_refl _
def Sk (d : HDoc) : Prop := ∀ m, m < d.nodes.length -> (nth d.nodes m).kids.Pairwise (· < ·) /\ ∀ k ∈ (nth d.nodes m).kids, k < d.nodes.length
theorem addKid_sk {d : HDoc} {p : Int} {x : HNode} (hp : p.toNat < d.nodes.length) (hx : x.kids = []) (S : Sk d) : Sk (addKid d p x) := fun m hm => by
 rw [X7] at hm ⊢
 by_cases hl : m < d.nodes.length
 ·obtain ⟨h1, h2⟩ := S m hl
  rw [addKid_old x hp hl]
  split
  ·rename_i e
   subst e
   refine ⟨List.pairwise_append.2 ⟨h1, List.pairwise_singleton _ _, fun a ha b hb => ?_⟩, fun k hk => ?_⟩
   ·rw [List.mem_singleton] at hb; subst hb; exact h2 a ha
   ·rcases List.mem_append.1 hk with hk | hk
    ·have := h2 k hk; omega
    ·rw [List.mem_singleton] at hk; omega
  ·exact ⟨h1, fun k hk => by have := h2 k hk; omega⟩
 ·obtain rfl : m = d.nodes.length := by omega
  rw [addKid_new]
  show x.kids.Pairwise _ /\ ∀ k ∈ x.kids, _
  rw [hx]
  exact ⟨List.Pairwise.nil, fun k hk => by cases hk⟩
def innerOf (one : List UInt8) : List UInt8 := one.dropWhile (· == 32)
def deepOf (one : List UInt8) : Nat := one.length - (innerOf one).length
theorem one_eq (one : List UInt8) : one = List.replicate (deepOf one) 32 ++ innerOf one := by
 unfold deepOf innerOf
 induction one with
 | nil => rfl
 | cons c r ih =>
  by_cases h : c = 32
  ·subst h
   have hle : (List.dropWhile (· == 32) r).length <= r.length := (List.dropWhile_sublist _).length_le
   rw [List.dropWhile_cons_of_pos (by simp), List.length_cons, show r.length + 1 - (List.dropWhile (· == 32) r).length = (r.length - (List.dropWhile (· == 32) r).length) + 1 by omega, List.replicate_succ, List.cons_append, <- ih]
  ·rw [List.dropWhile_cons_of_neg (by simpa using h)]; simp
def backF : Nat -> HDoc -> List Int -> List UInt8 -> Option HDoc
 | 0, d, _, _ => some d
 | f + 1, d, path, rest =>
  if rest = [] \/ 200 < d.nodes.length then some d
  else if path.length <= deepOf (Y8 10 rest).1 then none
  else backF f (addKid d (nth path (deepOf (Y8 10 rest).1)) (nodeU (innerOf (Y8 10 rest).1))) (path.take (deepOf (Y8 10 rest).1 + 1) ++ [(d.nodes.length : Int)]) ((Y8 10 rest).2.getD [])
def strF : Nat -> HDoc -> List Int -> List UInt8 -> Option HDoc
 | 0, d, _, _ => some d
 | f + 1, d, path, rest =>
  if rest = [] then some d
  else if (Y8 10 rest).2 = none \/ nodeS (innerOf (Y8 10 rest).1) = none \/ path.length <= deepOf (Y8 10 rest).1 \/ 200 < d.nodes.length then none
  else strF f (addKid d (nth path (deepOf (Y8 10 rest).1)) ((nodeS (innerOf (Y8 10 rest).1)).getD default)) (path.take (deepOf (Y8 10 rest).1 + 1) ++ [(d.nodes.length : Int)]) ((Y8 10 rest).2.getD [])
theorem str_back : ∀ (f : Nat) (d : HDoc) (path : List Int) (rest : List UInt8) {D : HDoc}, strF f d path rest = some D -> backF f d path rest = some D
 | 0, _, _, _, _, h => h
 | f + 1, d, path, rest, D, h => by
  unfold strF at h
  unfold backF
  split at h
  ·rename_i h0; rw [if_pos (.inl h0)]; exact h
  ·rename_i h0
   split at h
   ·cases h
   ·rename_i h1
    rw [if_neg (fun hh => hh.elim h0 fun h2 => h1 (.inr (.inr (.inr h2)))), if_neg (fun hh => h1 (.inr (.inr (.inl hh))))]
    cases hx : nodeS (innerOf (Y8 10 rest).1) with
    | none => exact absurd (.inr (.inl hx)) h1
    | some x =>
     rw [hx, Option.getD_some] at h
     rw [(nodeS_in hx).1]
     exact str_back f _ _ _ h
theorem nodeU_kids (t : List UInt8) : (nodeU t).kids = [] := by
 unfold nodeU
 repeat' split
 all_goals rfl
theorem cut_len10 {rest : List UInt8} (h : rest ≠ []) : ((Y8 10 rest).2.getD []).length < rest.length := by
 have h2 := congrArg List.length (cutB_is (b := 10) rest).2
 have hp := List.length_pos_iff.2 h
 cases hc : (Y8 10 rest).2 with
 | none => simpa using hp
 | some r =>
  rw [hc, List.length_append] at h2
  simp only [List.length_cons] at h2
  simp only [Option.getD_some]; omega
def PathIn (path : List Int) (n : Nat) : Prop := ∀ p ∈ path, 0 <= p /\ p < n
theorem path_next {path : List Int} {n k : Nat} (h : PathIn path n) : PathIn (path.take (k + 1) ++ [(n : Int)]) (n + 1) := fun p hp => by
 rcases List.mem_append.1 hp with hp | hp
 ·have := h p (List.mem_of_mem_take hp); omega
 ·rw [List.mem_singleton] at hp; omega
theorem back_ext : ∀ (f : Nat) (d : HDoc) (path : List Int) (rest : List UInt8) {D : HDoc}, backF f d path rest = some D -> PathIn path d.nodes.length ->
  d.nodes.length <= D.nodes.length /\ (∀ m, m < d.nodes.length -> same5 (nth D.nodes m) (nth d.nodes m)) /\ (Sk d -> Sk D) /\ D.quirks = d.quirks
 | 0, d, _, _, D, h, _ => by
  unfold backF at h; cases h
  exact ⟨Nat.le_refl _, fun m _ => same5_refl _, id, rfl⟩
 | f + 1, d, path, rest, D, h, hP => by
  unfold backF at h
  split at h
  ·cases h
   exact ⟨Nat.le_refl _, fun m _ => same5_refl _, id, rfl⟩
  ·split at h
   ·cases h
   ·rename_i hd
    have hp := hP _ (X9 (l := path) (k := deepOf (Y8 10 rest).1) (by omega))
    obtain ⟨h1, h2, h3, h4⟩ := back_ext f _ _ _ h (by rw [X7]; exact path_next hP)
    rw [X7] at h1 h2
    refine ⟨by omega, fun m hm => (h2 m (by omega)).trans (addKid_same _ (by omega) hm), fun S => h3 (addKid_sk (by omega) (nodeU_kids _) S), h4⟩
structure Rt (D : HDoc) (n : Nat) (path : List Int) : Prop where
 pos : 1 <= n
 len : 0 < path.length
 upp : ∀ j, j < path.length -> up D (nth path j) = j
 inn : PathIn path n
 chn : ∀ j, j < path.length -> nth path j ∈ chain D (n - 1 : Nat)
 two : ∀ i j, i <= j -> j < path.length -> nth path i ∈ chain D (nth path j)
def PreAt (D : HDoc) (m : Nat) : Prop := 0 <= (nth D.nodes m).parent /\ (nth D.nodes m).parent < m /\ (nth D.nodes m).parent ∈ chain D (m - 1 : Nat)
theorem Rt.next {D : HDoc} (V : DV D) {n : Nat} {path : List Int} (R : Rt D n path) (hn : n < D.nodes.length) {k : Nat} (hk : k < path.length) (hp : (nth D.nodes n).parent = nth path k) :
  Rt D (n + 1) (path.take (k + 1) ++ [(n : Int)]) /\ up D n = k + 1 /\ PreAt D n := by
 have hi : inD D (n : Int) := inD_nat.2 hn
 have hin := R.inn _ (X9 hk)
 have e : nd D (n : Int) = nth D.nodes n := nd_nat D n
 have hpar : 0 <= (nd D (n : Int)).parent := by rw [e, hp]; exact hin.1
 have hup := V.up_par hi hpar
 rw [e, hp, R.upp k hk] at hup
 have hch := chain_up V hi hpar
 rw [e, hp] at hch
 have hl : (path.take (k + 1)).length = k + 1 := by rw [List.length_take]; omega
 have lo : ∀ j, j <= k -> nth (path.take (k + 1) ++ [(n : Int)]) j = nth path j := fun j hj => by
  rw [nth_app_lo (by omega)]
  unfold nth; rw [List.getD_eq_getElem?_getD, List.getD_eq_getElem?_getD, List.getElem?_take, if_pos (by omega)]
 have hi2 : nth (path.take (k + 1) ++ [(n : Int)]) (k + 1) = n := by
  have := nth_app_at (l := path.take (k + 1)) (x := (n : Int))
  rw [hl] at this; exact this
 have hlen : (path.take (k + 1) ++ [(n : Int)]).length = k + 2 := by rw [List.length_append, hl]; rfl
 refine ⟨⟨by omega, by omega, fun j hj => ?_, path_next R.inn, fun j hj => ?_, fun i j hij hj => ?_⟩, hup, ?_⟩
 ·rw [hlen] at hj
  by_cases h : j <= k
  ·rw [lo j h]; exact R.upp j (by omega)
  ·obtain rfl : j = k + 1 := by omega
   rw [hi2]; exact hup
 ·rw [hlen] at hj
  show _ ∈ chain D ((n + 1 - 1 : Nat) : Int)
  rw [Nat.add_sub_cancel, hch]
  by_cases h : j <= k
  ·rw [lo j h]; exact List.mem_cons_of_mem _ (R.two j k h hk)
  ·obtain rfl : j = k + 1 := by omega
   rw [hi2]; exact List.mem_cons_self
 ·rw [hlen] at hj
  by_cases h : j <= k
  ·rw [lo j h, lo i (by omega)]; exact R.two i j hij (by omega)
  ·obtain rfl : j = k + 1 := by omega
   rw [hi2]
   by_cases h' : i <= k
   ·rw [lo i h', hch]; exact List.mem_cons_of_mem _ (R.two i k h' hk)
   ·obtain rfl : i = k + 1 := by omega
    rw [hi2]; exact chain_self _ _
 ·unfold PreAt
  rw [hp]
  exact ⟨hin.1, hin.2, R.chn k hk⟩
def ints (a b : Nat) : List Int := (List.range (b - a)).map fun i => ((a + i : Nat) : Int)
theorem ints_nil {a b : Nat} (h : b <= a) : ints a b = [] := by unfold ints; rw [show b - a = 0 by omega]; rfl
theorem ints_cons {a b : Nat} (h : a < b) : ints a b = (a : Int) :: ints (a + 1) b := by
 unfold ints
 obtain ⟨k, hk⟩ : ∃ k, b - a = k + 1 := ⟨b - a - 1, by omega⟩
 rw [hk, show b - (a + 1) = k by omega, List.range_succ_eq_map, List.map_cons, List.map_map]
 congr 1
 exact List.map_congr_left fun i _ => by show ((a + (i + 1) : Nat) : Int) = ((a + 1 + i : Nat) : Int); congr 1; omega
def rowU (D : HDoc) (m : Int) : List UInt8 := rowL D (up D m - 1) m
theorem line_same {x y : HNode} (h : same5 x y) : lineM x = lineM y := by
 unfold lineM; rw [h.1, h.2.1, h.2.2.1, h.2.2.2.1]
theorem step_at {f : Nat} {d D : HDoc} (V : DV D) {path : List Int} {k : Nat} {x : HNode} {rest' : List UInt8} (R : Rt D d.nodes.length path) (hk : k < path.length)
  (h : backF f (addKid d (nth path k) x) (path.take (k + 1) ++ [(d.nodes.length : Int)]) rest' = some D) :
  Rt D (d.nodes.length + 1) (path.take (k + 1) ++ [(d.nodes.length : Int)]) /\ up D d.nodes.length = k + 1 /\ PreAt D d.nodes.length /\ d.nodes.length < D.nodes.length /\ same5 (nth D.nodes d.nodes.length) { x with parent := nth path k } := by
 obtain ⟨h1, h2, _, _⟩ := back_ext f _ _ _ h (by rw [X7]; exact path_next R.inn)
 rw [X7] at h1 h2
 have hs := h2 d.nodes.length (by omega)
 rw [addKid_new] at hs
 obtain ⟨g1, g2, g3⟩ := R.next V (by omega) hk hs.2.2.2.2
 exact ⟨g1, g2, g3, by omega, hs⟩
theorem back_pre {D : HDoc} (V : DV D) : ∀ (f : Nat) (d : HDoc) (path : List Int) (rest : List UInt8), backF f d path rest = some D -> Rt D d.nodes.length path -> ∀ m, d.nodes.length <= m -> m < D.nodes.length -> PreAt D m
 | 0, d, _, _, h, _, m, h1, h2 => by unfold backF at h; cases h; omega
 | f + 1, d, path, rest, h, R, m, h1, h2 => by
  unfold backF at h
  split at h
  ·cases h; omega
  ·split at h
   ·cases h
   ·rename_i hd
    obtain ⟨g1, g2, g3, g4, _⟩ := step_at V R (by omega) h
    by_cases e : m = d.nodes.length
    ·rw [e]; exact g3
    ·exact back_pre V f _ _ _ h (by rw [X7]; exact g1) m (by rw [X7]; omega) h2
theorem str_rows {D : HDoc} (V : DV D) : ∀ (f : Nat) (d : HDoc) (path : List Int) (rest : List UInt8), strF f d path rest = some D -> rest.length < f -> Rt D d.nodes.length path -> rest = (ints d.nodes.length D.nodes.length).flatMap (rowU D)
 | 0, d, _, _, h, hf, _ => by omega
 | f + 1, d, path, rest, h, hf, R => by
  unfold strF at h
  split at h
  ·rename_i h0
   cases h
   rw [h0, ints_nil (Nat.le_refl _)]; rfl
  ·rename_i h0
   split at h
   ·cases h
   ·rename_i h1
    cases hx : nodeS (innerOf (Y8 10 rest).1) with
    | none => exact absurd (.inr (.inl hx)) h1
    | some x =>
     cases hr : (Y8 10 rest).2 with
     | none => exact absurd (.inl hr) h1
     | some r =>
      rw [hx, hr, Option.getD_some, Option.getD_some] at h
      have hk : deepOf (Y8 10 rest).1 < path.length := Nat.lt_of_not_le fun hh => h1 (.inr (.inr (.inl hh)))
      obtain ⟨g1, g2, g3, g4, g5⟩ := step_at V R hk (str_back f _ _ _ h)
      have hl := cut_len10 h0
      rw [hr, Option.getD_some] at hl
      have ih := str_rows V f _ _ _ h (by omega) (by rw [X7]; exact g1)
      rw [X7] at ih
      obtain ⟨_, hli, _, _⟩ := nodeS_in hx
      have e1 : lineM (nd D d.nodes.length) = innerOf (Y8 10 rest).1 := by rw [nd_nat, line_same g5, <- hli]; rfl
      rw [ints_cons g4, List.flatMap_cons, <- ih]
      show _ = List.replicate (up D d.nodes.length - 1) 32 ++ lineM (nd D d.nodes.length) ++ [10] ++ r
      rw [g2, e1, Nat.add_sub_cancel, <- one_eq]
      have := (cutB_is (b := 10) rest).2
      rw [hr] at this
      simp only at this
      rw [List.append_assoc]
      exact this
theorem sz_kids {x y : HNode} (Z : NodeSz x) (h : same5 x y) (hk : y.kids = []) : NodeSz y := by
 obtain ⟨h1, h2, h3, h4, _⟩ := h
 refine ⟨h2 ▸ Z.name, h3 ▸ Z.attrs, h3 ▸ Z.each, h4 ▸ Z.text, fun e => h2 ▸ Z.elem (h1.trans e), ?_⟩
 have hz := Z.kind
 refine ⟨h1 ▸ hz.1, h1 ▸ hz.2.1, ?_⟩
 have hb := hz.2.2
 unfold bareM at hb ⊢
 rw [<- h1, <- h2, <- h3, <- h4, hk]
 simp only [Bool.and_eq_true, Bool.or_eq_true, decide_eq_true_eq] at hb ⊢
 exact ⟨hb.1, .inr trivial⟩
theorem back_str {D : HDoc} (V : DV D) : ∀ (f : Nat) (d : HDoc) (path : List Int) (rest : List UInt8), backF f d path rest = some D -> rest.length < f -> Rt D d.nodes.length path -> rest = (ints d.nodes.length D.nodes.length).flatMap (rowU D) -> strF f d path rest = some D
 | 0, d, _, _, h, hf, _, _ => by omega
 | f + 1, d, path, rest, h, hf, R, hw => by
  have hle := V.len
  unfold backF at h
  unfold strF
  split at h
  ·rename_i h0
   cases h
   by_cases hr : rest = []
   ·rw [if_pos hr]
   ·exact absurd (h0.resolve_left hr) (by omega)
  ·rename_i h0
   have h0' : rest ≠ [] := fun e => h0 (.inl e)
   have h200 : ¬ 200 < d.nodes.length := fun e => h0 (.inr e)
   rw [if_neg h0']
   split at h
   ·cases h
   ·rename_i hd
    have hk : deepOf (Y8 10 rest).1 < path.length := by omega
    obtain ⟨g1, g2, g3, g4, g5⟩ := step_at V R hk h
    have hin : inD D (d.nodes.length : Int) := inD_nat.2 g4
    have Z := nodeE_sz (V.node _ hin)
    have hrow : rest = (List.replicate (up D d.nodes.length - 1) 32 ++ lineM (nd D d.nodes.length)) ++ 10 :: (ints (d.nodes.length + 1) D.nodes.length).flatMap (rowU D) := by
     rw [ints_cons g4, List.flatMap_cons] at hw
     conv => lhs; rw [hw]
     unfold rowU rowL
     simp
    have hno : 10 ∉ List.replicate (up D d.nodes.length - 1) (32 : UInt8) ++ lineM (nd D d.nodes.length) := fun hm => by
     rcases List.mem_append.1 hm with hm | hm
     ·exact absurd (List.eq_of_mem_replicate hm) (by decide)
     ·exact line_no10 Z hm
    have hcut : Y8 10 rest = (List.replicate (up D d.nodes.length - 1) 32 ++ lineM (nd D d.nodes.length), some ((ints (d.nodes.length + 1) D.nodes.length).flatMap (rowU D))) := by
     conv => lhs; rw [hrow]
     exact cutB_at hno
    have hone := one_eq (Y8 10 rest).1
    have hone2 : (Y8 10 rest).1 = List.replicate (deepOf (Y8 10 rest).1) 32 ++ lineM (nd D d.nodes.length) := by
     conv => lhs; rw [hcut, g2]
     rfl
    have hinn : innerOf (Y8 10 rest).1 = lineM (nd D d.nodes.length) := List.append_cancel_left (hone.symm.trans hone2)
    have e1 : lineM (nodeU (innerOf (Y8 10 rest).1)) = innerOf (Y8 10 rest).1 := by
     conv => rhs; rw [hinn, nd_nat, line_same g5]
     rfl
    have Z' : NodeSz (nodeU (innerOf (Y8 10 rest).1)) := by
     rw [nd_nat] at Z
     have Z2 := sz_kids Z g5 (nodeU_kids _)
     exact ⟨Z2.name, Z2.attrs, Z2.each, Z2.text, Z2.elem, Z2.kind⟩
    have hS := nodeS_out Z' e1
    rw [if_neg (fun hh => by
     rcases hh with hh | hh | hh | hh
     ·rw [hcut] at hh; cases hh
     ·rw [hS] at hh; cases hh
     ·exact hd hh
     ·exact h200 hh), hS, Option.getD_some]
    refine back_str V f _ _ _ h (by have := cut_len10 h0'; omega) (by rw [X7]; exact g1) ?_
    rw [X7, hcut]; rfl
section
variable {D : HDoc}
theorem pre_at (hp : ∀ m, 1 <= m -> m < D.nodes.length -> PreAt D m) {m : Int} (h1 : 1 <= m) (hm : inD D m) : 0 <= (nd D m).parent /\ (nd D m).parent < m /\ (nd D m).parent ∈ chain D (m - 1) := by
 have h := hp m.toNat (by have := hm.1; omega) hm.nat.1
 unfold PreAt at h
 have e : ((m.toNat : Nat) : Int) = m := hm.nat.2
 have e2 : ((m.toNat - 1 : Nat) : Int) = m - 1 := by omega
 rw [e, e2] at h
 exact h
theorem chain_ge (V : DV D) (hp : ∀ m, 1 <= m -> m < D.nodes.length -> PreAt D m) : ∀ m, inD D m -> ∀ a ∈ chain D m, a <= m := V.rise fun m hm ih a ha => by
 by_cases h0 : 0 <= (nd D m).parent
 ·rw [chain_up V hm h0] at ha
  rcases List.mem_cons.1 ha with rfl | ha
  ·exact Int.le_refl _
  ·have h1 := ih h0 a ha
   have hm1 : 1 <= m := by
    apply Classical.byContradiction; intro hc
    have : m = 0 := by have := hm.1; omega
    rw [this, V.root] at h0; omega
   have := (pre_at hp hm1 hm).2.1
   omega
 ·rw [chain_top V h0, List.mem_singleton] at ha
  omega
theorem kid_ahead (V : DV D) (hp : ∀ m, 1 <= m -> m < D.nodes.length -> PreAt D m) {n k1 k2 : Int} (hn : inD D n) (h1 : k1 ∈ (nd D n).kids) (h2 : k2 ∈ (nd D n).kids) (hlt : k1 < k2) :
  ∀ (j : Nat) (m : Int), m = j -> inD D m -> k1 ∈ chain D m -> m < k2 := by
 intro j
 induction j using Nat.strongRecOn with
 | ind j ih =>
  intro m hmj hm hk
  apply Classical.byContradiction; intro hge
  have hk1 := V.kid n hn k1 h1
  have hk2 := V.kid n hn k2 h2
  have u1 := V.up_kid hn h1
  have u2 := V.up_kid hn h2
  have hne : m ≠ k2 := fun e => by
   subst e
   have := chain_one V m hm k1 hk m (chain_self _ _) (by omega)
   omega
  have hm1 : 1 <= m := by have := hk1.1.1; omega
  obtain ⟨p0, p1, p2⟩ := pre_at hp hm1 hm
  have hk' : k1 ∈ chain D (nd D m).parent := by
   rw [chain_up V hm p0] at hk
   rcases List.mem_cons.1 hk with e | hk
   ·omega
   ·exact hk
  have hin : inD D (m - 1) := by have := hm.2; unfold inD; omega
  have hk3 := chain_trans V (m - 1) hin _ p2 _ hk'
  have := ih (m - 1).toNat (by omega) (m - 1) (by omega) hin hk3
  omega
theorem flat_pw {α β : Type} {R : β -> β -> Prop} {f : α -> List β} : ∀ {l : List α} {S : α -> α -> Prop}, l.Pairwise S -> (∀ a ∈ l, (f a).Pairwise R) -> (∀ a ∈ l, ∀ b ∈ l, S a b -> ∀ x ∈ f a, ∀ y ∈ f b, R x y) -> (l.flatMap f).Pairwise R
 | [], S, _, _, _ => List.Pairwise.nil
 | a :: l, S, h, h1, h2 => by
  rw [List.pairwise_cons] at h
  rw [List.flatMap_cons]
  refine List.pairwise_append.2 ⟨h1 a List.mem_cons_self, flat_pw h.2 (fun b hb => h1 b (List.mem_cons_of_mem _ hb)) (fun b hb c hc => h2 b (List.mem_cons_of_mem _ hb) c (List.mem_cons_of_mem _ hc)), fun x hx y hy => ?_⟩
  obtain ⟨b, hb, hy⟩ := List.mem_flatMap.1 hy
  exact h2 a List.mem_cons_self b (List.mem_cons_of_mem _ hb) (h.1 b hb) x hx y hy
theorem below_pw (V : DV D) (S : Sk D) (hp : ∀ m, 1 <= m -> m < D.nodes.length -> PreAt D m) : ∀ n, inD D n -> (below D n).Pairwise (· < ·) := V.down fun n hn ih => by
 rw [below_eq V hn, List.pairwise_cons]
 have e : nd D n = nth D.nodes n.toNat := rfl
 constructor
 ·intro a ha
  obtain ⟨k, hk, ha⟩ := List.mem_flatMap.1 ha
  have hki := (V.kid n hn k hk).1
  have hai := below_in V k hki a ha
  have h1 := chain_ge V hp a hai k ((mem_below V hai hki).1 ha)
  have h2 : n < k := by
   have hk1 : 1 <= k := by
    apply Classical.byContradiction; intro hc
    have : k = 0 := by have := hki.1; omega
    have hp := (V.kid n hn k hk).2
    rw [this, V.root] at hp
    have := hn.1; omega
   have := (pre_at hp hk1 hki).2.1
   rw [(V.kid n hn k hk).2] at this
   exact this
  omega
 ·refine flat_pw (S := (· < ·)) (by rw [e]; exact (S _ hn.nat.1).1) (fun k hk => ih k hk) fun a ha b hb hab x hx y hy => ?_
  have hai := (V.kid n hn a ha).1
  have hbi := (V.kid n hn b hb).1
  have hxi := below_in V a hai x hx
  have hyi := below_in V b hbi y hy
  have h1 := kid_ahead V hp hn ha hb hab x.toNat x hxi.nat.2.symm hxi ((mem_below V hxi hai).1 hx)
  have h2 := chain_ge V hp y hyi b ((mem_below V hyi hbi).1 hy)
  omega
theorem root_all (V : DV D) (hp : ∀ m, 1 <= m -> m < D.nodes.length -> PreAt D m) : ∀ m, inD D m -> 0 ∈ chain D m := V.rise fun m hm ih => by
 by_cases h0 : 0 <= (nd D m).parent
 ·rw [chain_up V hm h0]; exact List.mem_cons_of_mem _ (ih h0)
 ·have : m = 0 := by
   apply Classical.byContradiction; intro hc
   have := (pre_at hp (by have := hm.1; omega) hm).1
   exact h0 this
  rw [this]; exact chain_self _ _
theorem sorted_eq : ∀ {l m : List Int}, l.Pairwise (· < ·) -> m.Pairwise (· < ·) -> (∀ x, x ∈ l ↔ x ∈ m) -> l = m
 | [], [], _, _, _ => rfl
 | [], b :: m, _, _, h => absurd ((h b).2 List.mem_cons_self) (by simp)
 | a :: l, [], _, _, h => absurd ((h a).1 List.mem_cons_self) (by simp)
 | a :: l, b :: m, h1, h2, h => by
  rw [List.pairwise_cons] at h1 h2
  have hab : a = b := by
   rcases List.mem_cons.1 ((h a).1 List.mem_cons_self) with e | ha
   ·exact e
   ·rcases List.mem_cons.1 ((h b).2 List.mem_cons_self) with e | hb
    ·exact e.symm
    ·have := h1.1 b hb
     have := h2.1 a ha
     omega
  subst hab
  refine congrArg (a :: ·) (sorted_eq h1.2 h2.2 fun x => ⟨fun hx => ?_, fun hx => ?_⟩)
  ·rcases List.mem_cons.1 ((h x).1 (List.mem_cons_of_mem _ hx)) with e | hx'
   ·have := h1.1 x hx; omega
   ·exact hx'
  ·rcases List.mem_cons.1 ((h x).2 (List.mem_cons_of_mem _ hx)) with e | hx'
   ·have := h2.1 x hx; omega
   ·exact hx'
theorem ints_mem {a b : Nat} {x : Int} : x ∈ ints a b ↔ a <= x /\ x < b := by
 unfold ints
 rw [List.mem_map]
 constructor
 ·rintro ⟨i, hi, rfl⟩
  rw [List.mem_range] at hi; omega
 ·intro h
  exact ⟨(x - a).toNat, List.mem_range.2 (by omega), by omega⟩
theorem ints_pw (a b : Nat) : (ints a b).Pairwise (· < ·) := by
 unfold ints
 rw [List.pairwise_map]
 exact List.pairwise_lt_range.imp fun h => by omega
theorem below_all (V : DV D) (S : Sk D) (hp : ∀ m, 1 <= m -> m < D.nodes.length -> PreAt D m) : below D 0 = ints 0 D.nodes.length :=
 sorted_eq (below_pw V S hp 0 V.zero) (ints_pw _ _) fun x => by
  rw [ints_mem]
  constructor
  ·intro h; have := below_in V 0 V.zero x h; unfold inD at this; omega
  ·intro h
   have hx : inD D x := by unfold inD; omega
   exact (mem_below V hx V.zero).2 (root_all V hp x hx)
theorem tree_rows (V : DV D) (S : Sk D) (hp : ∀ m, 1 <= m -> m < D.nodes.length -> PreAt D m) : linesM D 0 0 = (ints 1 D.nodes.length).flatMap (rowU D) := by
 have hu : up D 0 = 0 := V.up_top (by rw [V.root]; omega)
 rw [lines_below V 0 V.zero 0 hu.symm, below_all V S hp, ints_cons V.pos, List.drop_succ_cons, List.drop_zero]
 rfl
end
def rootD (q : Bool) : HDoc := ⟨[⟨1, [], [], [], -1, []⟩], q⟩
def quirkS (s : List UInt8) : Bool := hasPre s [126, 10]
def restS (s : List UInt8) : List UInt8 := if quirkS s = true then s.drop 2 else s
theorem rest_eq (s : List UInt8) : s = (if quirkS s = true then [126, 10] else []) ++ restS s := by
 unfold restS
 split
 ·rename_i h
  unfold quirkS hasPre at h
  rw [Bool.and_eq_true, beq_iff_eq] at h
  conv => lhs; rw [<- List.take_append_drop 2 s]
  rw [show s.take 2 = [126, 10] from h.2]
 ·rfl
def backV (s : List UInt8) : Option HDoc := match backF (s.length + 1) (rootD (quirkS s)) [0] (restS s) with
 | none => none
 | some D => if docE D = 0 /\ treeM D = s then some D else none
def strV (s : List UInt8) : Option HDoc := match strF (s.length + 1) (rootD (quirkS s)) [0] (restS s) with
 | none => none
 | some D => if docE D = 0 then some D else none
theorem rest_len (s : List UInt8) : (restS s).length <= s.length := by
 unfold restS; split
 ·rw [List.length_drop]; omega
 ·exact Nat.le_refl _
theorem root_path : PathIn [0] 1 := fun p hp => by rw [List.mem_singleton] at hp; omega
theorem root_sk (q : Bool) : Sk (rootD q) := fun m hm => by
 have : m = 0 := by simp [rootD] at hm; exact hm
 subst this
 exact ⟨List.Pairwise.nil, fun k hk => by cases hk⟩
theorem root_rt {D : HDoc} (V : DV D) : Rt D 1 [0] := by
 have hu : up D 0 = 0 := V.up_top (by rw [V.root]; omega)
 refine ⟨Nat.le_refl _, by decide, fun j hj => ?_, root_path, fun j hj => ?_, fun i j hij hj => ?_⟩
 ·have : j = 0 := by simpa using hj
  subst this; exact hu
 ·have : j = 0 := by simpa using hj
  subst this; exact chain_self _ _
 ·have : j = 0 := by simpa using hj
  subst this
  have : i = 0 := by omega
  subst this; exact chain_self _ _
theorem back_law (s : List UInt8) : backV s = strV s := by
 have key : ∀ D, backF (s.length + 1) (rootD (quirkS s)) [0] (restS s) = some D -> docE D = 0 -> (treeM D = s ↔ restS s = (ints 1 D.nodes.length).flatMap (rowU D)) := fun D hb hd => by
  have V := (docE_iff D).1 hd
  obtain ⟨_, _, h3, h4⟩ := back_ext _ _ _ _ hb root_path
  have hp := back_pre V _ _ _ _ hb (root_rt V)
  have ht := tree_rows V (h3 (root_sk _)) hp
  have e := rest_eq s
  unfold treeM
  rw [ht, h4]
  constructor
  ·intro h
   rw [e] at h
   exact (List.append_cancel_left (h.trans (by rw [<- e]; exact e))).symm
  ·intro h
   rw [<- h]; exact e.symm
 have hf := rest_len s
 unfold backV strV
 cases hs : strF (s.length + 1) (rootD (quirkS s)) [0] (restS s) with
 | some D =>
  have hb := str_back _ _ _ _ hs
  rw [hb]
  simp only
  by_cases hd : docE D = 0
  ·have V := (docE_iff D).1 hd
   have := str_rows V _ _ _ _ hs (by omega) (root_rt V)
   rw [if_pos hd, if_pos ⟨hd, (key D hb hd).2 this⟩]
  ·rw [if_neg hd, if_neg fun h => hd h.1]
 | none =>
  cases hb : backF (s.length + 1) (rootD (quirkS s)) [0] (restS s) with
  | none => rfl
  | some D =>
   simp only
   rw [if_neg]
   rintro ⟨hd, ht⟩
   have V := (docE_iff D).1 hd
   have := back_str V _ _ _ _ hb (by omega) (root_rt V) ((key D hb hd).1 ht)
   rw [hs] at this; cases this
end Go.Proofs.K
end
section
set_option linter.unusedSimpArgs false
set_option linter.unusedVariables false
namespace Go.Proofs.K
open Go Go.Sim Go.Proofs
variable {G : Glob}
theorem hexX_is (c : UInt8) : Lib.indexByte hexS c = hexX c := of_decide_eq_true (u8_all (p := fun c => decide (Lib.indexByte hexS c = hexX c)) (by decide +kernel) c)
theorem uq_other {c : UInt8} {t : List UInt8} (h1 : c ≠ 34) (h2 : c ≠ 92 \/ t.length < 2) : uqL (c :: t) = (uqL t).map fun q => (c :: q.1, q.2) := by
 by_cases h : c = 92
 ·subst h
  have hl := h2.resolve_left (fun h => h rfl)
  match t, hl with
  | [], _ => rfl
  | [a], _ =>
   unfold uqL
   rw [if_neg (by decide)]
   by_cases ha : a = 34
   ·rw [if_pos ha, if_pos ha]; rfl
   ·rw [if_neg ha, if_neg ha]; rfl
 ·exact uq_cons h1 h
theorem uq_pair (a b : UInt8) (r : List UInt8) : uqL (92 :: a :: b :: r) = (uqL r).map fun q => (byteX a b :: q.1, q.2) := by rw [uqL, if_neg (by decide), if_pos rfl]
def outQ : Option (List UInt8 × List UInt8) -> List UInt8 × List UInt8 × Bool
 | some q => (q.1, q.2, true)
 | none => ([], [], false)
def unqV (s : List UInt8) : List UInt8 × List UInt8 × Bool := outQ (inq uqL s)
theorem drop_at {s : List UInt8} {i : Nat} (h : i < s.length) : s.drop i = s.getD i 0 :: s.drop (i + 1) := by
 rw [List.drop_eq_getElem_cons h, List.getD_eq_getElem?_getD, List.getElem?_eq_getElem h]; rfl
theorem u8_of {n : Int} (h0 : 0 <= n) (h1 : n < 256) : ((UInt8.ofNat n.toNat).toNat : Int) = n := by simp; omega
theorem Acc_rd {h h' : J1} {ty sz : Nat} {cells : List (List AVal)} {a : AVal} (A : Acc h ty sz cells a h') : Rd h' sz a cells := by
 rcases A with ⟨rfl, rfl⟩ | ⟨r, _, g1, rfl⟩
 ·rfl
 ·exact ⟨rfl, _, g1, by simp, by simp only [List.drop_zero, List.take_length]⟩
theorem byteX_cell (a b : UInt8) : (((byteX a b).toNat : Nat) : Int) = IntKind.u8.wrap (bitF .or .i64 (IntKind.i64.wrap (hexX a * 16)) (hexX b)) := by
 unfold byteX
 have h : ∀ x : Int, 0 <= IntKind.u8.wrap x /\ IntKind.u8.wrap x < 256 := fun x => by rw [IntKind.wrap_u8]; omega
 exact u8_of (h _).1 (h _).2
def c196 : SFun := ⟨.seq (.reg [o 2 (.mv (.c (.str []))), o 3 (.mv (.c (.str []))), o 4 (.mv (.c (.bool false)))]) (.seq (.seq (.reg [o 7 (.mv (.t 0)), o 8 (.bin .eql (.t 7) (.c (.str []))), o 9 (.mv (.t 8)), ⟨some 10, .mv (.t 0), some (9, false)⟩, ⟨some 11, .idxS (.t 10) (.c (.int .i64 0)), some (9, false)⟩, ⟨some 12, .bin .neq (.t 11) (.c (.int .u8 34)), some (9, false)⟩, o 13 (.pick (.t 9) (.c (.bool true)) (.t 12))]) (.cond (.t 13) (.seq (.reg [o 2 (.mv (.c (.str []))), o 3 (.mv (.c (.str []))), o 4 (.mv (.c (.bool false)))]) .ret) .skip)) (.seq (.reg [o 5 (.mv (.c .emp))]) (.seq (.seq (.reg [o 6 (.mv (.c (.int .i64 1)))]) (.block 0 (.loop (.seq (.seq (.reg [o 14 (.mv (.t 6)), o 15 (.mv (.t 0)), o 16 (.lenS (.t 15)), o 17 (.bin .lss (.t 14) (.t 16))]) (.cond (.t 17) .skip (.exit 0))) (.seq (.block 1 (.block 2 (.seq (.reg [o 27 (.mv (.t 0)), o 28 (.mv (.t 6)), o 29 (.idxS (.t 27) (.t 28)), o 30 (.bin .eql (.t 29) (.c (.int .u8 34))), o 26 (.mv (.t 30))]) (.cond (.t 26) (.seq (.dreg [(o 31 (.mv (.t 5)), none), (o 33 (.mv (.t 0)), none), (o 34 (.mv (.t 6)), none), (o 35 (.bin .add (.t 34) (.c (.int .i64 1))), none), (o 36 (.slS (.t 33) (some (.t 35)) none), none), (o 32 (.b2s (.t 31)), (some [])), (o 2 (.mv (.t 32)), none), (o 3 (.mv (.t 36)), none), (o 4 (.mv (.c (.bool true))), none)]) .ret) (.seq (.reg [o 38 (.mv (.t 0)), o 39 (.mv (.t 6)), o 40 (.idxS (.t 38) (.t 39)), o 41 (.bin .eql (.t 40) (.c (.int .u8 92))), o 42 (.mv (.t 41)), ⟨some 43, .mv (.t 6), some (42, true)⟩, ⟨some 44, .bin .add (.t 43) (.c (.int .i64 2)), some (42, true)⟩, ⟨some 45, .mv (.t 0), some (42, true)⟩, ⟨some 46, .lenS (.t 45), some (42, true)⟩, ⟨some 47, .bin .lss (.t 44) (.t 46), some (42, true)⟩, o 48 (.pick (.t 42) (.t 47) (.c (.bool false))), o 37 (.mv (.t 48))]) (.cond (.t 37) (.seq (.dreg [(o 49 (.mv (.t 5)), none), (o 50 (.mv (.t 0)), none), (o 51 (.mv (.t 6)), none), (o 52 (.bin .add (.t 51) (.c (.int .i64 1))), none), (o 53 (.idxS (.t 50) (.t 52)), none), (o 54 (.pcall 153 [.c (.str [48, 49, 50, 51, 52, 53, 54, 55, 56, 57, 97, 98, 99, 100, 101, 102]), .t 53]), none), (o 55 (.bin .shl (.t 54) (.c (.int .u64 4))), none), (o 56 (.mv (.t 0)), none), (o 57 (.mv (.t 6)), none), (o 58 (.bin .add (.t 57) (.c (.int .i64 2))), none), (o 59 (.idxS (.t 56) (.t 58)), none), (o 60 (.pcall 153 [.c (.str [48, 49, 50, 51, 52, 53, 54, 55, 56, 57, 97, 98, 99, 100, 101, 102]), .t 59]), none), (o 61 (.bin .or (.t 55) (.t 60)), none), (o 62 (.cvi .u8 (.t 61)), none), (o 63 (.bldF 5 1 [.t 62]), none), (o 64 (.app 5 1 1 (.t 49) (.t 63)), (some [])), (o 5 (.mv (.t 64)), (some []))]) (.reg [o 65 (.mv (.t 6)), o 66 (.bin .add (.t 65) (.c (.int .i64 2))), o 6 (.mv (.t 66))])) (.reg [o 20 (.mv (.t 5)), o 21 (.mv (.t 0)), o 22 (.mv (.t 6)), o 23 (.idxS (.t 21) (.t 22)), o 24 (.bldF 5 1 [.t 23]), o 25 (.app 5 1 1 (.t 20) (.t 24)), o 5 (.mv (.t 25))]))))))) (.reg [o 18 (.mv (.t 6)), o 19 (.bin .add (.t 18) (.c (.int .i64 1))), o 6 (.mv (.t 19))])))))) (.seq (.reg [o 2 (.mv (.c (.str []))), o 3 (.mv (.c (.str []))), o 4 (.mv (.c (.bool false)))]) .ret)))), [.tmp 2, .tmp 3, .tmp 4]⟩
theorem hc196 : X8 Tryz.prog {pure := [153]} Tryz.f196 = some c196 := by kernel_rfl
theorem hn196 : (Tryz.f196.name == "runtime.NumGoroutine") = false := by kernel_rfl
theorem unquote_ok (s : List UInt8) (hs : s.length <= 1000000) : PCalls (Pg G) 196 [.str s] (.tup [.str (unqV s).1, .str (unqV s).2.1, .bool (unqV s).2.2]) := fun h => by
 unfold unqV
 cases s with
 | nil =>
  refine Z9 Tryz.func196 hn196 hc196 (by rw [Tryz.ntmps196]; simp) (by rw [Tryz.ntmps196]; decide) ?_
  simp -dsimp -implicitDefEqProofs (disch := omega) only [↓Q0 9, ↓Q1 9, ↓Q0 42, ↓Q1 42, VCA, Z1, ↓Q3, Nat.reduceEqDiff, Nat.reduceBEq, Nat.reduceAdd, Nat.reduceSub, Nat.reduceMul, Nat.reduceLT, Nat.reduceLeDiff, ↓reduceIte, reduceCtorEq, Z7, Q6, SOp.rd, SI.rd, SX.rd, rdL, rdO, rdP, Q5, Q4, Q2, Q8, Q7, Z0, implies_true, forall_const, forall_eq, ne_eq, exists_eq_right_right, exists_eq_right, exists_eq_left, exists_eq_left', Q9, Z3, Z8, Z6, Z4, c196]
  repeat' (first | ((with_reducible refine brC (fun _ => ?_) fun _ => ?_) <;> try (exfalso; omega)) | (with_reducible refine And.intro ?_ ?_; · omega) | simp -dsimp -implicitDefEqProofs (disch := omega) only [↓Q0 9, ↓Q1 9, ↓Q0 42, ↓Q1 42, VCA, Z1, ↓Q3, Nat.reduceEqDiff, Nat.reduceBEq, Nat.reduceAdd, Nat.reduceSub, Nat.reduceMul, Nat.reduceLT, Nat.reduceLeDiff, ↓reduceIte, reduceCtorEq, Z7, Q6, SOp.rd, SI.rd, SX.rd, rdL, rdO, rdP, Q5, Q4, Q2, Q8, Q7, Z0, implies_true, forall_const, forall_eq, ne_eq, exists_eq_right_right, exists_eq_right, exists_eq_left, exists_eq_left', Q9, Z3, Z8, Z6, Z4])
  all_goals first | exact Sub.refl _ | exact ⟨Sub.refl _, rfl⟩ | (exfalso; simp_all; done)
 | cons c t =>
  by_cases hc : c = 34
  ·subst hc
   have e1 : inq uqL ((34 : UInt8) :: t) = uqL t := by unfold inq; simp
   rw [e1]
   obtain ⟨s, hss⟩ : ∃ s, (34 : UInt8) :: t = s := ⟨_, rfl⟩
   have hd1 : s.drop 1 = t := by rw [<- hss]; rfl
   have h34 : s.getD 0 0 = 34 := by rw [<- hss]; rfl
   have hp : 0 < s.length := by rw [<- hss]; simp
   have sb : (s == []) = false := by rw [<- hss]; rfl
   have h34i : (((s.getD 0 0).toNat : Int) != 34) = false := by rw [h34]; rfl
   rw [hss] at hs ⊢
   refine Z9 Tryz.func196 hn196 hc196 (by rw [Tryz.ntmps196]; simp) (by rw [Tryz.ntmps196]; decide) ?_
   simp -dsimp -implicitDefEqProofs (disch := omega) only [↓Q0 9, ↓Q1 9, ↓Q0 42, ↓Q1 42, VCA, Z1, ↓Q3, Nat.reduceEqDiff, Nat.reduceBEq, Nat.reduceAdd, Nat.reduceSub, Nat.reduceMul, Nat.reduceLT, Nat.reduceLeDiff, ↓reduceIte, reduceCtorEq, Z7, Q6, SOp.rd, SI.rd, SX.rd, rdL, rdO, rdP, Q5, Q4, Q2, Q8, Q7, Z0, implies_true, forall_const, forall_eq, ne_eq, exists_eq_right_right, exists_eq_right, exists_eq_left, exists_eq_left', Q9, Z3, Z8, Z6, Z4, c196, sb, h34i]
   repeat' (first | ((with_reducible refine brC (fun _ => ?_) fun _ => ?_) <;> try (exfalso; omega)) | (with_reducible refine And.intro ?_ ?_; · omega) | simp -dsimp -implicitDefEqProofs (disch := omega) only [↓Q0 9, ↓Q1 9, ↓Q0 42, ↓Q1 42, VCA, Z1, ↓Q3, Nat.reduceEqDiff, Nat.reduceBEq, Nat.reduceAdd, Nat.reduceSub, Nat.reduceMul, Nat.reduceLT, Nat.reduceLeDiff, ↓reduceIte, reduceCtorEq, Z7, Q6, SOp.rd, SI.rd, SX.rd, rdL, rdO, rdP, Q5, Q4, Q2, Q8, Q7, Z0, implies_true, forall_const, forall_eq, ne_eq, exists_eq_right_right, exists_eq_right, exists_eq_left, exists_eq_left', Q9, Z3, Z8, Z6, Z4, sb, h34i])
   refine LoopVC.intro (fun m e h' => ∃ (i : Nat) (D : List UInt8) (a : AVal), 1 <= i /\ i <= s.length /\ m = s.length - i /\ e 0 = .str s /\ e 6 = Y0 i /\ e 5 = a /\ Acc h 5 1 (Y5 D) a h' /\ Sim.Sub h h' /\ D.length <= i /\
     uqL t = (uqL (s.drop i)).map (fun q => (D ++ q.1, q.2))) (s.length - 1)
    ⟨1, [], _, by omega, by omega, by omega, rfl, rfl, rfl, by exact .inl ⟨rfl, rfl⟩, Sub.refl _, by simp, by rw [hd1]; cases uqL t <;> rfl⟩ ?_
   rintro m e h' ⟨i, D, a, hi1, hi2, rfl, e0, e6, e5, A, S, hD, hq⟩
   have DL : (Y5 D).length = D.length := by simp [Y5]
   by_cases hlt : i < s.length
   ·obtain ⟨c, hcc⟩ : ∃ c, s.getD i 0 = c := ⟨_, rfl⟩
    have hdr := drop_at hlt
    rw [hcc] at hdr
    by_cases c34 : c = 34
    ·have b34 : ((c.toNat : Int) == 34) = true := by rw [c34]; rfl
     rw [hdr, c34, uq_end] at hq
     rw [hq]
     repeat' (first | ((with_reducible refine brC (fun _ => ?_) fun _ => ?_) <;> try (exfalso; omega)) | (with_reducible refine And.intro ?_ ?_; · omega) | simp -dsimp -implicitDefEqProofs (disch := omega) only [↓Q0 9, ↓Q1 9, ↓Q0 42, ↓Q1 42, VCA, Z1, ↓Q3, Nat.reduceEqDiff, Nat.reduceBEq, Nat.reduceAdd, Nat.reduceSub, Nat.reduceMul, Nat.reduceLT, Nat.reduceLeDiff, ↓reduceIte, reduceCtorEq, Z7, Q6, SOp.rd, SI.rd, SX.rd, rdL, rdO, rdP, Q5, Q4, Q2, Q8, Q7, Z0, implies_true, forall_const, forall_eq, ne_eq, exists_eq_right_right, exists_eq_right, exists_eq_left, exists_eq_left', Q9, Z3, Z8, Z6, Z4, e0, e6, e5, hcc, b34])
     refine ⟨D, Acc_rd A, S, ?_⟩
     simp [outQ]
    ·have b34 : ((c.toNat : Int) == 34) = false := by
      rw [beq_eq_false_iff_ne]; intro hh; exact c34 (bt_inj (by simpa using hh))
     by_cases h92 : c = 92 /\ i + 2 < s.length
     ·have b92 : ((c.toNat : Int) == 92) = true := by rw [h92.1]; rfl
      have hl2 := h92.2
      obtain ⟨a1, ha1⟩ : ∃ a1, s.getD (i + 1) 0 = a1 := ⟨_, rfl⟩
      obtain ⟨a2, ha2⟩ : ∃ a2, s.getD (i + 2) 0 = a2 := ⟨_, rfl⟩
      have d1 := drop_at (s := s) (i := i + 1) (by omega)
      have d2 := drop_at (s := s) (i := i + 2) (by omega)
      rw [ha1] at d1
      rw [ha2] at d2
      rw [hdr, d1, d2, h92.1, uq_pair] at hq
      have hA := indexByte_ok (G := G) hexS a1
      have hB := indexByte_ok (G := G) hexS a2
      rw [hexX_is] at hA hB
      unfold hexS at hA hB
      have hbx := byteX_cell a1 a2
      have t1 : ((i : Int) + 1).toNat = i + 1 := by omega
      have t2 : ((i : Int) + 2).toNat = i + 2 := by omega
      repeat' (first | ((with_reducible refine brC (fun _ => ?_) fun _ => ?_) <;> try (exfalso; omega)) | (with_reducible apply pcallE.of; · exact hA) | (with_reducible apply pcallE.of; · exact hB) | (with_reducible refine And.intro ?_ ?_; · omega) | simp -dsimp -implicitDefEqProofs (disch := omega) only [↓Q0 9, ↓Q1 9, ↓Q0 42, ↓Q1 42, VCA, Z1, ↓Q3, Nat.reduceEqDiff, Nat.reduceBEq, Nat.reduceAdd, Nat.reduceSub, Nat.reduceMul, Nat.reduceLT, Nat.reduceLeDiff, ↓reduceIte, reduceCtorEq, Z7, Q6, SOp.rd, SI.rd, SX.rd, rdL, rdO, rdP, Q5, Q4, Q2, Q8, Q7, Z0, implies_true, forall_const, forall_eq, ne_eq, exists_eq_right_right, exists_eq_right, exists_eq_left, exists_eq_left', Q9, Z3, Z8, Z6, Z4, e0, e6, e5, hcc, b34, b92, ha1, ha2, t1, t2])
      have hs4 : (2 : Int) ^ min (Int.toNat 4) IntKind.i64.bits = 16 := by decide
      rw [hs4, <- hbx]
      refine A.app S (by simp only [List.length_cons, List.length_nil]; omega) (by simp only [List.length_cons, List.length_nil]; omega) (fun a' h3 A' S' => ?_)
      repeat' (first | ((with_reducible refine brC (fun _ => ?_) fun _ => ?_) <;> try (exfalso; omega)) | (with_reducible refine And.intro ?_ ?_; · omega) | simp -dsimp -implicitDefEqProofs (disch := omega) only [↓Q0 9, ↓Q1 9, ↓Q0 42, ↓Q1 42, VCA, Z1, ↓Q3, Nat.reduceEqDiff, Nat.reduceBEq, Nat.reduceAdd, Nat.reduceSub, Nat.reduceMul, Nat.reduceLT, Nat.reduceLeDiff, ↓reduceIte, reduceCtorEq, Z7, Q6, SOp.rd, SI.rd, SX.rd, rdL, rdO, rdP, Q5, Q4, Q2, Q8, Q7, Z0, implies_true, forall_const, forall_eq, ne_eq, exists_eq_right_right, exists_eq_right, exists_eq_left, exists_eq_left', Q9, Z3, Z8, Z6, Z4, e0, e6, e5, hcc, b34, b92, ha1, ha2, t1, t2])
      refine ⟨_, by omega, i + 3, D ++ [byteX a1 a2], a', by omega, by omega, rfl, by omega, rfl, ?_, S', by simp; omega, ?_⟩
      ·rw [strEs_app]; exact A'
      ·rw [hq, Option.map_map]
       congr 1
       funext q
       simp
     ·have hq2 : uqL t = (uqL (s.drop (i + 1))).map (fun q => ((D ++ [c]) ++ q.1, q.2)) := by
       rw [hq, hdr, uq_other c34 (by
        by_cases q : c = 92
        ·refine .inr ?_
         rw [List.length_drop]
         have : ¬ i + 2 < s.length := fun hh => h92 ⟨q, hh⟩
         omega
        ·exact .inl q), Option.map_map]
       congr 1
       funext q
       simp
      repeat' (first | ((with_reducible refine brC (fun _ => ?_) fun _ => ?_) <;> try (exfalso; omega)) | ((refine A.app S (by simp [Y5]; omega) (by simp [Y5]; omega) (fun a' h3 A' S' => ?_))) | (with_reducible refine And.intro ?_ ?_; · omega) | simp -dsimp -implicitDefEqProofs (disch := omega) only [↓Q0 9, ↓Q1 9, ↓Q0 42, ↓Q1 42, VCA, Z1, ↓Q3, Nat.reduceEqDiff, Nat.reduceBEq, Nat.reduceAdd, Nat.reduceSub, Nat.reduceMul, Nat.reduceLT, Nat.reduceLeDiff, ↓reduceIte, reduceCtorEq, Z7, Q6, SOp.rd, SI.rd, SX.rd, rdL, rdO, rdP, Q5, Q4, Q2, Q8, Q7, Z0, implies_true, forall_const, forall_eq, ne_eq, exists_eq_right_right, exists_eq_right, exists_eq_left, exists_eq_left', Q9, Z3, Z8, Z6, Z4, e0, e6, e5, hcc, b34])
      all_goals first
       | (refine ⟨_, by omega, i + 1, D ++ [c], a', by omega, by omega, rfl, by omega, rfl, ?_, S', by simp; omega, hq2⟩
          rw [strEs_app]; exact A')
       | (exfalso
          have hx : (c.toNat : Int) = 92 := by assumption
          exact h92 ⟨bt_inj (by simpa using hx), by omega⟩)
   ·obtain rfl : i = s.length := by omega
    have hu : uqL (s.drop s.length) = none := by rw [List.drop_length]; rfl
    rw [hu] at hq
    rw [hq]
    repeat' (first | ((with_reducible refine brC (fun _ => ?_) fun _ => ?_) <;> try (exfalso; omega)) | (with_reducible refine And.intro ?_ ?_; · omega) | simp -dsimp -implicitDefEqProofs (disch := omega) only [↓Q0 9, ↓Q1 9, ↓Q0 42, ↓Q1 42, VCA, Z1, ↓Q3, Nat.reduceEqDiff, Nat.reduceBEq, Nat.reduceAdd, Nat.reduceSub, Nat.reduceMul, Nat.reduceLT, Nat.reduceLeDiff, ↓reduceIte, reduceCtorEq, Z7, Q6, SOp.rd, SI.rd, SX.rd, rdL, rdO, rdP, Q5, Q4, Q2, Q8, Q7, Z0, implies_true, forall_const, forall_eq, ne_eq, exists_eq_right_right, exists_eq_right, exists_eq_left, exists_eq_left', Q9, Z3, Z8, Z6, Z4, e0, e6, e5])
    first | exact ⟨S, rfl⟩ | exact S | rfl
  ·have e1 : inq uqL (c :: t) = none := if_neg hc
   rw [e1]
   have hcb : ((c.toNat : Int) != 34) = true := by
    rw [bne_iff_ne]; intro hh; exact hc (bt_inj (by simpa using hh))
   refine Z9 Tryz.func196 hn196 hc196 (by rw [Tryz.ntmps196]; simp) (by rw [Tryz.ntmps196]; decide) ?_
   simp -dsimp -implicitDefEqProofs (disch := omega) only [↓Q0 9, ↓Q1 9, ↓Q0 42, ↓Q1 42, VCA, Z1, ↓Q3, Nat.reduceEqDiff, Nat.reduceBEq, Nat.reduceAdd, Nat.reduceSub, Nat.reduceMul, Nat.reduceLT, Nat.reduceLeDiff, ↓reduceIte, reduceCtorEq, Z7, Q6, SOp.rd, SI.rd, SX.rd, rdL, rdO, rdP, Q5, Q4, Q2, Q8, Q7, Z0, implies_true, forall_const, forall_eq, ne_eq, exists_eq_right_right, exists_eq_right, exists_eq_left, exists_eq_left', Q9, Z3, Z8, Z6, Z4, c196]
   repeat' (first | ((with_reducible refine brC (fun _ => ?_) fun _ => ?_) <;> try (exfalso; omega)) | (with_reducible refine And.intro ?_ ?_; · omega) | simp -dsimp -implicitDefEqProofs (disch := omega) only [↓Q0 9, ↓Q1 9, ↓Q0 42, ↓Q1 42, VCA, Z1, ↓Q3, Nat.reduceEqDiff, Nat.reduceBEq, Nat.reduceAdd, Nat.reduceSub, Nat.reduceMul, Nat.reduceLT, Nat.reduceLeDiff, ↓reduceIte, reduceCtorEq, Z7, Q6, SOp.rd, SI.rd, SX.rd, rdL, rdO, rdP, Q5, Q4, Q2, Q8, Q7, Z0, implies_true, forall_const, forall_eq, ne_eq, exists_eq_right_right, exists_eq_right, exists_eq_left, exists_eq_left', Q9, Z3, Z8, Z6, Z4, hcb])
   all_goals first | exact Sub.refl _ | exact ⟨Sub.refl _, rfl⟩ | trace_state
end Go.Proofs.K
end
section
set_option linter.unusedSimpArgs false
set_option linter.unusedVariables false
namespace Go.Proofs.K
open Go Go.Sim Go.Proofs
section
variable {d : HDoc}
theorem upF_congr {d' : HDoc} (V : DV d) (h : ∀ m, inD d m -> (nd d' m).parent = (nd d m).parent) : ∀ (f : Nat) (n : Int), inD d n -> upF f d' n = upF f d n
 | 0, _, _ => rfl
 | f + 1, n, hn => by
  unfold upF
  rw [h n hn]
  by_cases hp : 0 <= (nd d n).parent
  ·rw [if_pos hp, if_pos hp, upF_congr V h f _ (V.par_in hn hp).1]
  ·rw [if_neg hp, if_neg hp]
def addN (d : HDoc) (x : HNode) : HDoc := ⟨d.nodes ++ [x], d.quirks⟩
theorem addN_len (x : HNode) : (addN d x).nodes.length = d.nodes.length + 1 := by simp [addN]
theorem nd_addN {x : HNode} {m : Int} (hm : inD d m) : nd (addN d x) m = nd d m := by
 have h := hm.nat
 unfold nd addN nth
 rw [List.getD_eq_getElem?_getD, List.getD_eq_getElem?_getD, List.getElem?_append_left h.1]
theorem nd_addN_new (x : HNode) : nd (addN d x) (d.nodes.length : Int) = x := by
 unfold nd addN nth
 rw [List.getD_eq_getElem?_getD]; simp
theorem inD_addN {x : HNode} {m : Int} : inD (addN d x) m ↔ inD d m \/ m = d.nodes.length := by unfold inD; rw [addN_len]; omega
theorem up_addN (V : DV d) {x : HNode} {m : Int} (hm : inD d m) : up (addN d x) m = up d m := by
 have h1 : upF (d.nodes.length + 1 + 1) (addN d x) m = upF (d.nodes.length + 1 + 1) d m := upF_congr V (fun k hk => by rw [nd_addN hk]) _ m hm
 have h2 : up (addN d x) m = upF (d.nodes.length + 1 + 1) (addN d x) m := by unfold up; rw [addN_len]
 rw [h2, h1]
 have h3 := V.fin m hm
 exact upF_mono (f := d.nodes.length + 1) (by unfold up at h3; omega) (by omega)
theorem DV.add (V : DV d) {x : HNode} (hp : x.parent = -1) (hc : x.kids = []) (h1 : x.kind ≠ 1) : DV (addN d x) ↔ nodeE x = 0 /\ d.nodes.length < 200 := by
 have new := nd_addN_new (d := d) x
 have inew : inD (addN d x) (d.nodes.length : Int) := inD_addN.2 (.inr rfl)
 constructor
 ·intro W
  have h2 := W.node _ inew
  have h3 := W.len
  rw [new] at h2
  rw [addN_len] at h3
  exact ⟨h2, by omega⟩
 ·rintro ⟨hx, hl⟩
  have z := V.pos
  have upn : up (addN d x) (d.nodes.length : Int) = 0 := by
   unfold up upF
   rw [new, if_neg (by omega)]
  refine ⟨by rw [addN_len]; omega, by rw [addN_len]; omega, fun m hm => ?_, fun m hm => ?_, fun m hm k hk' => ?_, fun m hm => ?_, fun k hk' => ?_, fun m hm => ?_, ?_, fun m hm => ?_, fun m hm => ?_⟩
  ·rcases inD_addN.1 hm with hm | rfl
   ·rw [nd_addN hm]; exact V.kind m hm
   ·rw [new]; constructor
    ·intro h; exact absurd h h1
    ·intro h; omega
  ·rcases inD_addN.1 hm with hm | rfl
   ·rw [nd_addN hm]; exact V.node m hm
   ·rw [new]; exact hx
  ·rcases inD_addN.1 hm with hm | rfl
   ·rw [nd_addN hm] at hk'
    obtain ⟨g1, g2⟩ := V.kid m hm k hk'
    exact ⟨inD_addN.2 (.inl g1), by rw [nd_addN g1]; exact g2⟩
   ·rw [new, hc] at hk'; cases hk'
  ·rcases inD_addN.1 hm with hm | rfl
   ·rw [nd_addN hm]; exact V.nodup m hm
   ·rw [new, hc]; exact .nil
  ·rw [nd_addN V.zero] at hk'
   rw [nd_addN (V.kid 0 V.zero k hk').1]; exact V.top k hk'
  ·rcases inD_addN.1 hm with hm | rfl
   ·rw [nd_addN hm]
    rcases V.par m hm with h | ⟨g1, g2⟩
    ·exact .inl h
    ·exact .inr ⟨inD_addN.2 (.inl g1), by rw [nd_addN g1]; exact g2⟩
   ·rw [new]; exact .inl hp
  ·rw [nd_addN V.zero]; exact V.root
  ·rcases inD_addN.1 hm with hm | rfl
   ·rw [up_addN V hm, addN_len]; have := V.fin m hm; omega
   ·rw [upn]; omega
  ·rcases inD_addN.1 hm with hm | rfl
   ·rw [up_addN V hm]; exact V.deep m hm
   ·rw [upn]; omega
section
variable {a t : Int} {i : Nat}
end
section
variable {n : Int} {i : Nat}
end
end
end Go.Proofs.K
end
section
set_option linter.unusedSimpArgs false
set_option linter.unusedVariables false
namespace Go.Proofs.K
open Go Go.Sim Go.Proofs
structure HEdit where
 do' : Int
 at' : Int
 into : Int
 before : Int
 name : List UInt8
 value : List UInt8
 node : HNode
deriving DecidableEq, Inhabited
def eEdit (e : HEdit) : List AVal := [Y0 e.do', Y0 e.at', Y0 e.into, Y0 e.before, .str e.name, .str e.value, Y0 e.node.kind, .str e.node.name, sl Z3 e.node.attrs, .str e.node.text, Y0 e.node.parent, sl Z8 e.node.kids]
instance : LenE eEdit 12 := ⟨fun _ => rfl⟩
structure EditSm (e : HEdit) : Prop where
 name : e.name.length <= 1073741824
 value : e.value.length <= 1073741824
 node : NodeSm e.node
section
variable {d : HDoc}
end
section
variable {d : HDoc}
end
end Go.Proofs.K
end
section
set_option linter.unusedSimpArgs false
set_option linter.unusedVariables false
namespace Go.Proofs.K
open Go Go.Sim Go.Proofs
variable {G : Glob}
def Y7 : AVal -> Option Nat
 | .osl r _ _ _ => some r
 | _ => none
def OwnS (h : J1) (ty sz : Nat) (cells : List (List AVal)) (a : AVal) : Prop :=
 (cells = [] /\ a = .emp) \/ (a = .slc cells /\ ∀ e ∈ cells, e.length = sz) \/ ∃ r es, a = .osl r sz 0 cells.length /\ h r = some ⟨ty, sz, es⟩ /\ cells.length <= es.length /\ es.take cells.length = cells
def Mut (a : AVal) : Prop := ∀ es, a ≠ .slc es
theorem OwnS.live {h : J1} {ty sz : Nat} {cells : List (List AVal)} {a : AVal} (O : OwnS h ty sz cells a) (M : Mut a) : (cells = [] /\ a = .emp) \/ ∃ r es, a = .osl r sz 0 cells.length /\ h r = some ⟨ty, sz, es⟩ /\ cells.length <= es.length /\ es.take cells.length = cells := by
 rcases O with O | O | O
 ·exact .inl O
 ·exact absurd O.1 (M _)
 ·exact .inr O
theorem OwnS.keep {h h2 : J1} {ty sz : Nat} {cells : List (List AVal)} {a : AVal} (O : OwnS h ty sz cells a) (hk : ∀ r o, Y7 a = some r -> h r = some o -> h2 r = some o) : OwnS h2 ty sz cells a := by
 rcases O with O | O | ⟨r, es, ha, hr, h1, h2⟩
 ·exact .inl O
 ·exact .inr (.inl O)
 ·exact .inr (.inr ⟨r, es, ha, hk r _ (by rw [ha]; rfl) hr, h1, h2⟩)
theorem OwnS.len {h : J1} {ty sz : Nat} {cells : List (List AVal)} {a : AVal} (O : OwnS h ty sz cells a) : aLen a = Y0 cells.length /\ okLen a = True := by
 rcases O with ⟨h1, h2⟩ | ⟨h2, _⟩ | ⟨r, es, ha, _⟩
 ·subst h1; subst h2; exact ⟨rfl, rfl⟩
 ·subst h2; exact ⟨rfl, rfl⟩
 ·subst ha; exact ⟨rfl, rfl⟩
theorem OwnS.isV {h : J1} {ty sz : Nat} {cells : List (List AVal)} {a : AVal} (O : OwnS h ty sz cells a) : isV a = true /\ cellsOf a = [a] := by
 rcases O with ⟨h1, h2⟩ | ⟨h2, _⟩ | ⟨r, es, ha, _⟩
 ·subst h2; exact ⟨rfl, rfl⟩
 ·subst h2; exact ⟨rfl, rfl⟩
 ·subst ha; exact ⟨rfl, rfl⟩
theorem OwnS.root {h : J1} {ty sz : Nat} {cells : List (List AVal)} {a : AVal} (O : OwnS h ty sz cells a) {r : Nat} (hr : Y7 a = some r) : ∃ o, h r = some o := by
 rcases O with ⟨h1, h2⟩ | ⟨h2, _⟩ | ⟨r', es, ha, h1, _⟩
 ·subst h2; cases hr
 ·subst h2; cases hr
 ·subst ha; cases hr; exact ⟨_, h1⟩
theorem OwnS.vw {α : Type} [Inhabited α] {enc : α -> List AVal} {h : J1} {ty sz : Nat} [LenE enc sz] {l : List α} {a : AVal} (O : OwnS h ty sz (l.map enc) a) : Vw h a (sl enc l) := by
 rcases O with ⟨h1, h2⟩ | ⟨h2, _⟩ | ⟨r, es, ha, hr, h1, h2⟩
 ·have : l = [] := by simpa using h1
  subst this; subst h2; exact .emp
 ·subst h2; exact .refl _
 ·subst ha
  refine .osl r sz 0 _ ⟨ty, sz, es⟩ (l.map enc) hr (by simpa using h1) rfl (fun f hf => by obtain ⟨x, _, rfl⟩ := List.mem_map.1 hf; exact LenE.len x) fun k j e f x y he hf hx hy => ?_
  have hk : k < (l.map enc).length := (List.getElem?_eq_some_iff.1 hf).1
  simp only [Nat.zero_add] at he
  have he' : (es.take (l.map enc).length)[k]? = some e := by rw [List.getElem?_take, if_pos hk]; exact he
  rw [h2] at he'
  rw [he'] at hf
  cases hf
  rw [hx] at hy; cases hy; exact .refl _
def rowA (x : HNode) (a k : AVal) : List AVal := [Y0 x.kind, .str x.name, a, .str x.text, Y0 x.parent, k]
def rowsA (d : HDoc) (sl : Nat -> AVal) : List (List AVal) := (List.range d.nodes.length).map fun i => rowA (nth d.nodes i) (sl (2 * i)) (sl (2 * i + 1))
theorem rowsA_len (d : HDoc) (sl : Nat -> AVal) : (rowsA d sl).length = d.nodes.length := by simp [rowsA]
theorem rowsA_get {d : HDoc} {sl : Nat -> AVal} {i : Nat} (hi : i < d.nodes.length) : (rowsA d sl).getD i [] = rowA (nth d.nodes i) (sl (2 * i)) (sl (2 * i + 1)) := by
 rw [List.getD_eq_getElem?_getD, rowsA, List.getElem?_map, List.getElem?_range hi]; rfl
structure Dw (X : List Nat) (h0 h : J1) (rN : Nat) (d : HDoc) (sl : Nat -> AVal) : Prop where
 sub : Sim.Sub h0 h
 nodes : h rN = some ⟨.t 101, 6, rowsA d sl⟩
 new : h0 rN = none /\ rN ∉ X
 own : ∀ i, i < d.nodes.length -> OwnS h 69 2 ((nth d.nodes i).attrs.map Z3) (sl (2 * i)) /\ OwnS h 3 1 ((nth d.nodes i).kids.map Z8) (sl (2 * i + 1))
 fresh : ∀ k, k < 2 * d.nodes.length -> ∀ r, Y7 (sl k) = some r -> h0 r = none /\ r ≠ rN /\ r ∉ X
 sep : ∀ j k, j < 2 * d.nodes.length -> k < 2 * d.nodes.length -> j ≠ k -> ∀ r, Y7 (sl j) = some r -> Y7 (sl k) ≠ some r
 keep : ∀ r ∈ X, ∃ o, h r = some o
theorem Dw.slot {X : List Nat} {h0 h : J1} {rN : Nat} {d : HDoc} {sl : Nat -> AVal} (E : Dw X h0 h rN d sl) {k : Nat} (hk : k < 2 * d.nodes.length) {r : Nat} (hr : Y7 (sl k) = some r) : ∃ o, h r = some o := by
 have hi : k / 2 < d.nodes.length := by omega
 obtain ⟨h1, h2⟩ := E.own _ hi
 rcases (by omega : k = 2 * (k / 2) \/ k = 2 * (k / 2) + 1) with h | h
 ·rw [h] at hr; exact h1.root hr
 ·rw [h] at hr; exact h2.root hr
theorem Dw.put {X : List Nat} {h0 h h2 : J1} {rN : Nat} {d : HDoc} {sl sl' : Nat -> AVal} (E : Dw X h0 h rN d sl) {i : Nat} (hi : i < d.nodes.length) {x' : HNode}
  (hs : ∀ j, j ≠ 2 * i -> j ≠ 2 * i + 1 -> sl' j = sl j)
  (hN : h2 rN = some ⟨.t 101, 6, (rowsA d sl).set i (rowA x' (sl' (2 * i)) (sl' (2 * i + 1)))⟩)
  (hk : ∀ r o, h r = some o -> r ≠ rN -> Y7 (sl (2 * i)) ≠ some r -> Y7 (sl (2 * i + 1)) ≠ some r -> h2 r = some o)
  (hA : OwnS h2 69 2 (x'.attrs.map Z3) (sl' (2 * i))) (hK : OwnS h2 3 1 (x'.kids.map Z8) (sl' (2 * i + 1)))
  (hf : ∀ r, Y7 (sl' (2 * i)) = some r \/ Y7 (sl' (2 * i + 1)) = some r -> Y7 (sl (2 * i)) = some r \/ Y7 (sl (2 * i + 1)) = some r \/ h r = none)
  (hd : ∀ r, Y7 (sl' (2 * i)) = some r -> Y7 (sl' (2 * i + 1)) ≠ some r) : Dw X h0 h2 rN ⟨d.nodes.set i x', d.quirks⟩ sl' := by
 have hl : (d.nodes.set i x').length = d.nodes.length := by simp
 have fr : ∀ r, Y7 (sl' (2 * i)) = some r \/ Y7 (sl' (2 * i + 1)) = some r -> h0 r = none /\ r ≠ rN /\ r ∉ X := fun r hr => by
  rcases hf r hr with h | h | h
  ·exact E.fresh _ (by omega) r h
  ·exact E.fresh _ (by omega) r h
  ·refine ⟨E.sub.none h, fun e => ?_, fun hx => ?_⟩
   ·rw [e, E.nodes] at h; cases h
   ·obtain ⟨o, ho⟩ := E.keep r hx; rw [h] at ho; cases ho
 have oth : ∀ j, j < 2 * d.nodes.length -> j ≠ 2 * i -> j ≠ 2 * i + 1 -> ∀ r, Y7 (sl j) = some r -> Y7 (sl' (2 * i)) ≠ some r /\ Y7 (sl' (2 * i + 1)) ≠ some r := fun j hj h1 h2 r hr => by
  have key : ¬ (Y7 (sl (2 * i)) = some r \/ Y7 (sl (2 * i + 1)) = some r \/ h r = none) := by
   rintro (h | h | h)
   ·exact E.sep j (2 * i) hj (by omega) h1 r hr h
   ·exact E.sep j (2 * i + 1) hj (by omega) h2 r hr h
   ·obtain ⟨o, ho⟩ := E.slot hj hr; rw [h] at ho; cases ho
  exact ⟨fun h => key (hf r (.inl h)), fun h => key (hf r (.inr h))⟩
 refine ⟨fun t o ht => ?_, ?_, E.new, fun j hj => ?_, fun k hk' r hr => ?_, fun j k hj hk' hne r hr => ?_, fun r hr => ?_⟩
 ·have hne : t ≠ rN := fun e => by rw [e, E.new.1] at ht; cases ht
  refine hk t o (E.sub t o ht) hne (fun h => ?_) (fun h => ?_)
  ·have := (E.fresh _ (by omega) t h).1; rw [this] at ht; cases ht
  ·have := (E.fresh _ (by omega) t h).1; rw [this] at ht; cases ht
 ·rw [hN]
  congr 2
  apply List.ext_getElem?
  intro j
  rw [List.getElem?_set]
  show _ = (rowsA ⟨d.nodes.set i x', d.quirks⟩ sl')[j]?
  unfold rowsA
  simp only [hl]
  by_cases hij : i = j
  ·subst hij
   rw [if_pos rfl, if_pos (by simpa using hi), List.getElem?_map, List.getElem?_range hi, Option.map_some, nth_set _ _ _ _ hi, if_pos rfl]
  ·rw [if_neg hij]
   by_cases hj : j < d.nodes.length
   ·rw [List.getElem?_map, List.getElem?_map, List.getElem?_range hj, Option.map_some, Option.map_some, nth_set _ _ _ _ hi, if_neg (fun e => hij e.symm), hs (2 * j) (by omega) (by omega), hs (2 * j + 1) (by omega) (by omega)]
   ·rw [List.getElem?_eq_none (by simp; omega), List.getElem?_eq_none (by simp; omega)]
 ·simp only [hl] at hj
  show OwnS h2 _ _ ((nth (d.nodes.set i x') j).attrs.map Z3) _ /\ OwnS h2 _ _ ((nth (d.nodes.set i x') j).kids.map Z8) _
  rw [nth_set _ _ _ _ hi]
  by_cases hij : j = i
  ·subst hij; rw [if_pos rfl]; exact ⟨hA, hK⟩
  ·rw [if_neg hij, hs (2 * j) (by omega) (by omega), hs (2 * j + 1) (by omega) (by omega)]
   obtain ⟨g1, g2⟩ := E.own j hj
   exact ⟨g1.keep fun r o hr ho => hk r o ho (E.fresh _ (by omega) r hr).2.1 (fun h => E.sep (2 * j) (2 * i) (by omega) (by omega) (by omega) r hr h) (fun h => E.sep (2 * j) (2 * i + 1) (by omega) (by omega) (by omega) r hr h),
    g2.keep fun r o hr ho => hk r o ho (E.fresh _ (by omega) r hr).2.1 (fun h => E.sep (2 * j + 1) (2 * i) (by omega) (by omega) (by omega) r hr h) (fun h => E.sep (2 * j + 1) (2 * i + 1) (by omega) (by omega) (by omega) r hr h)⟩
 ·simp only [hl] at hk'
  by_cases e1 : k = 2 * i
  ·subst e1; exact fr r (.inl hr)
  ·by_cases e2 : k = 2 * i + 1
   ·subst e2; exact fr r (.inr hr)
   ·rw [hs k e1 e2] at hr; exact E.fresh k hk' r hr
 ·simp only [hl] at hj hk'
  by_cases j1 : j = 2 * i <;> by_cases j2 : j = 2 * i + 1 <;> by_cases k1 : k = 2 * i <;> by_cases k2 : k = 2 * i + 1
  all_goals first
   | (exfalso; omega)
   | (subst j1; subst k2; exact hd r hr)
   | (subst j2; subst k1; exact fun h => hd r h hr)
   | (subst j1; rw [hs k k1 k2]; exact fun h => (oth k hk' k1 k2 r h).1 hr)
   | (subst j2; rw [hs k k1 k2]; exact fun h => (oth k hk' k1 k2 r h).2 hr)
   | (subst k1; rw [hs j j1 j2] at hr; exact (oth j hj j1 j2 r hr).1)
   | (subst k2; rw [hs j j1 j2] at hr; exact (oth j hj j1 j2 r hr).2)
   | (rw [hs j j1 j2] at hr; rw [hs k k1 k2]; exact E.sep j k hj hk' hne r hr)
 ·obtain ⟨o, ho⟩ := E.keep r hr
  refine ⟨o, hk r o ho (fun e => E.new.2 (e ▸ hr)) (fun h => ?_) (fun h => ?_)⟩
  ·exact (E.fresh _ (by omega) r h).2.2 hr
  ·exact (E.fresh _ (by omega) r h).2.2 hr
theorem Dw.vw {X : List Nat} {h0 h : J1} {rN : Nat} {d : HDoc} {sl' : Nat -> AVal} (E : Dw X h0 h rN d sl') : Vw h (.osl rN 6 0 d.nodes.length) (sl Z5 d.nodes) := by
 refine Vw.osl0 E.nodes (by simp) (by rw [rowsA_len]; exact Nat.le_refl _) (fun f hf => by obtain ⟨x, _, rfl⟩ := List.mem_map.1 hf; rfl) ?_
 show F2 (F2 (Vw h)) ((rowsA d sl').take d.nodes.length) (d.nodes.map Z5)
 rw [List.take_of_length_le (by rw [rowsA_len]; exact Nat.le_refl _)]
 have key : ∀ (i : Nat), i < d.nodes.length -> F2 (Vw h) (rowA (nth d.nodes i) (sl' (2 * i)) (sl' (2 * i + 1))) (Z5 (nth d.nodes i)) := fun i hi => by
  obtain ⟨g1, g2⟩ := E.own i hi
  exact .cons (.refl _) (.cons (.refl _) (.cons g1.vw (.cons (.refl _) (.cons (.refl _) (.cons g2.vw .nil)))))
 have e : d.nodes.map Z5 = (List.range d.nodes.length).map fun i => Z5 (nth d.nodes i) := by
  apply List.ext_getElem?
  intro j
  by_cases hj : j < d.nodes.length
  ·rw [List.getElem?_map, List.getElem?_map, List.getElem?_range hj, nth_some hj]; rfl
  ·rw [List.getElem?_eq_none (by simp; omega), List.getElem?_eq_none (by simp; omega)]
 rw [e]
 unfold rowsA
 have gen : ∀ l : List Nat, (∀ i ∈ l, i < d.nodes.length) -> F2 (F2 (Vw h)) (l.map fun i => rowA (nth d.nodes i) (sl' (2 * i)) (sl' (2 * i + 1))) (l.map fun i => Z5 (nth d.nodes i)) := fun l => by
  induction l with
  | nil => intro _; exact .nil
  | cons i l ih => intro hl; exact .cons (key i (hl i List.mem_cons_self)) (ih fun j hj => hl j (List.mem_cons_of_mem _ hj))
 exact gen _ fun i hi => List.mem_range.1 hi
theorem Dw.other {X : List Nat} {h0 h : J1} {rN : Nat} {d : HDoc} {sl : Nat -> AVal} (E : Dw X h0 h rN d sl) {r : Nat} (hr : r ∈ X) (h0r : h0 r = none) (o : AObj) : Dw X h0 (upd h r (some o)) rN d sl := by
 have hne : rN ≠ r := fun e => E.new.2 (e ▸ hr)
 refine ⟨E.sub.upd h0r, by rw [Y3 _ _ hne]; exact E.nodes, E.new, fun i hi => ?_, E.fresh, E.sep, fun t ht => ?_⟩
 ·obtain ⟨g1, g2⟩ := E.own i hi
  exact ⟨g1.keep fun t ob ht ho => by rw [Y3 _ _ (fun e => (E.fresh _ (by omega) t ht).2.2 (by rw [e]; exact hr))]; exact ho, g2.keep fun t ob ht ho => by rw [Y3 _ _ (fun e => (E.fresh _ (by omega) t ht).2.2 (by rw [e]; exact hr))]; exact ho⟩
 ·by_cases e : t = r
  ·subst e; exact ⟨o, J5 _ _ _⟩
  ·rw [Y3 _ _ e]; exact E.keep t ht
theorem Dw.less {X X' : List Nat} {h0 h : J1} {rN : Nat} {d : HDoc} {sl : Nat -> AVal} (E : Dw X h0 h rN d sl) (hx : ∀ r ∈ X', r ∈ X) : Dw X' h0 h rN d sl :=
 ⟨E.sub, E.nodes, ⟨E.new.1, fun h => E.new.2 (hx _ h)⟩, E.own, fun k hk r hr => ⟨(E.fresh k hk r hr).1, (E.fresh k hk r hr).2.1, fun h => (E.fresh k hk r hr).2.2 (hx _ h)⟩, E.sep, fun r hr => E.keep r (hx r hr)⟩
theorem Dw.more {X : List Nat} {h0 h : J1} {rN : Nat} {d : HDoc} {sl : Nat -> AVal} (E : Dw X h0 h rN d sl) {r : Nat} (hr : h r = none) (o : AObj) : Dw (r :: X) h0 (upd h r (some o)) rN d sl := by
 have hne : rN ≠ r := fun e => by have := E.nodes; rw [e, hr] at this; cases this
 have sn : ∀ k, k < 2 * d.nodes.length -> ∀ t, Y7 (sl k) = some t -> t ≠ r := fun k hk t ht e => by
  obtain ⟨o', ho⟩ := E.slot hk ht; rw [e, hr] at ho; cases ho
 refine ⟨E.sub.upd (E.sub.none hr), by rw [Y3 _ _ hne]; exact E.nodes, ⟨E.new.1, fun h => ?_⟩, fun i hi => ?_, fun k hk t ht => ⟨(E.fresh k hk t ht).1, (E.fresh k hk t ht).2.1, fun h => ?_⟩, E.sep, fun t ht => ?_⟩
 ·rcases List.mem_cons.1 h with h | h
  ·exact hne h
  ·exact E.new.2 h
 ·obtain ⟨g1, g2⟩ := E.own i hi
  exact ⟨g1.keep fun t ob ht ho => by rw [Y3 _ _ (sn _ (by omega) t ht)]; exact ho, g2.keep fun t ob ht ho => by rw [Y3 _ _ (sn _ (by omega) t ht)]; exact ho⟩
 ·rcases List.mem_cons.1 h with h | h
  ·exact sn k hk t ht h
  ·exact (E.fresh k hk t ht).2.2 h
 ·by_cases e : t = r
  ·subst e; exact ⟨o, J5 _ _ _⟩
  ·rw [Y3 _ _ e]; exact E.keep t ((List.mem_cons.1 ht).resolve_left e)
theorem _root_.Go.Sim.Acc.re {h1 h2 h1' h2' : J1} {ty : TypeId} {sz : Nat} {cells : List (List AVal)} {a : AVal} (A : Acc h1 ty sz cells a h2) (hd : ∀ r o, h1 r = none -> h2 r = some o -> h1' r = none /\ h2' r = some o) : Acc h1' ty sz cells a h2' := by
 rcases A with h | ⟨r, h0, h1, h2⟩
 ·exact .inl h
 ·exact .inr ⟨r, (hd r _ h0 h1).1, (hd r _ h0 h1).2, h2⟩
theorem _root_.Go.Sim.Acc.keepA {h h1 : J1} {ty : TypeId} {sz : Nat} {cells : List (List AVal)} {a : AVal} (A : Acc h ty sz cells a h1) {r2 : Nat} (hn : Y7 a ≠ some r2) (o : Option AObj) : Acc h ty sz cells a (upd h1 r2 o) := by
 rcases A with q | ⟨r, q0, q1, q2⟩
 ·exact .inl q
 ·have : r ≠ r2 := fun e => hn (by rw [q2, e]; rfl)
  exact .inr ⟨r, q0, by rw [Y3 _ _ this]; exact q1, q2⟩
theorem _root_.Go.Sim.Acc.vw {h h' : J1} {ty : TypeId} {sz : Nat} {cells : List (List AVal)} {a : AVal} (A : Acc h ty sz cells a h') (hl : ∀ f ∈ cells, f.length = sz) : Vw (newH h h') a (.slc cells) := by
 rcases A with ⟨rfl, rfl⟩ | ⟨r, h0, h1, rfl⟩
 ·exact .emp
 ·exact Vw.osl0 (by rw [newH_none h0]; exact h1) rfl (Nat.le_refl _) hl (by rw [List.take_length]; exact F2.refl (F2.refl .refl) _)
theorem _root_.Go.Sim.Acc.appW {h h' : J1} {ty : TypeId} {sz b : Nat} {cells es2 : List (List AVal)} {a : AVal} {K : AVal -> J1 -> Prop} (A : Acc h ty sz cells a h') (S : Sub h h')
  (h1 : (cells.length + es2.length) * b <= 140737488355328) (h2 : cells.length + es2.length <= 140737488355328)
  (hk : ∀ a' h'', Acc h ty sz (cells ++ es2) a' h'' -> Sub h h'' -> (∀ r o, h' r = some o -> Y7 a ≠ some r -> h'' r = some o /\ Y7 a' ≠ some r) -> K a' h'') : Hd (appE ty sz b a es2 h') K .mk := by
 rcases A with ⟨rfl, rfl⟩ | ⟨r, h0, hr, rfl⟩
 ·refine ⟨by simpa using h1, by simpa using h2, fun r hr => hk _ _ ?_ (S.upd (S.none hr)) fun x o hx _ => ?_⟩
  ·exact .inr ⟨r, S.none hr, by simp, rfl⟩
  ·have : x ≠ r := fun e => by rw [e, hr] at hx; cases hx
   exact ⟨by rw [Y3 _ _ this]; exact hx, fun e => this (by cases e; rfl)⟩
 ·refine ⟨rfl, _, hr, rfl, by simp, h1, h2, fun r' hr' => hk _ _ ?_ ?_ fun x o hx hn => ?_⟩
  ·have hn : h r' = none := (S.del h0).none hr'
   refine .inr ⟨r', hn, by simp, by simp⟩
  ·exact (S.del h0).upd ((S.del h0).none hr')
  ·have hxr : x ≠ r := fun e => hn (by rw [e]; rfl)
   have hd : del h' r x = some o := by unfold del; rw [if_neg hxr]; exact hx
   have : x ≠ r' := fun e => by rw [e, hr'] at hd; cases hd
   exact ⟨by rw [Y3 _ _ this]; exact hd, fun e => this (by cases e; rfl)⟩
theorem outQ_fst (q : Option (List UInt8 × List UInt8)) : (outQ q).1 = fstQ q := by cases q <;> rfl
theorem preH (s : List UInt8) (c : UInt8) : hasPre s [c] = decide (s.head? = some c) := by
 cases s with
 | nil => rfl
 | cons b r =>
  rw [Bool.eq_iff_iff]
  unfold hasPre
  simp
theorem uq_len : ∀ (n : Nat) (t : List UInt8), t.length <= n -> ∀ x r, uqL t = some (x, r) -> r.length < t.length
 | _, [], _, x, r, h => by cases h
 | 0, c :: t, hn, _, _, _ => by simp at hn
 | n + 1, c :: t, hn, x, r, h => by
  simp only [List.length_cons] at hn ⊢
  by_cases h1 : c = 34
  ·subst h1; rw [uq_end] at h; cases h; omega
  ·by_cases h2 : c ≠ 92 \/ t.length < 2
   ·rw [uq_other h1 h2, Option.map_eq_some_iff] at h
    obtain ⟨⟨y, z⟩, hy, he⟩ := h
    cases he
    have := uq_len n t (by omega) y z hy
    show z.length < _
    omega
   ·have h92 : c = 92 := Classical.byContradiction fun h => h2 (.inl h)
    subst h92
    match t, h2, h, hn with
    | [], h2, _, _ => exact absurd (.inr (by simp)) h2
    | [a], h2, _, _ => exact absurd (.inr (by simp)) h2
    | a :: b :: u, _, h, hn =>
     rw [uq_pair, Option.map_eq_some_iff] at h
     obtain ⟨⟨y, z⟩, hy, he⟩ := h
     cases he
     simp only [List.length_cons] at hn ⊢
     have := uq_len n u (by omega) y z hy
     show z.length < _
     omega
theorem inq_len {t x r : List UInt8} (h : inq uqL t = some (x, r)) : r.length < t.length := by
 cases t with
 | nil => cases h
 | cons c t =>
  unfold inq at h
  simp only at h
  split at h
  ·have := uq_len _ t (Nat.le_refl _) x r h
   simp only [List.length_cons]; omega
  ·cases h
theorem cutB_len (b : UInt8) (t : List UInt8) : (Y8 b t).1.length <= t.length /\ ((Y8 b t).2.getD []).length <= t.length /\ ∀ r, (Y8 b t).2 = some r -> r.length < t.length := by
 have h := congrArg List.length (cutB_is (b := b) t).2
 rw [List.length_append] at h
 cases hc : (Y8 b t).2 with
 | none => rw [hc] at h; simp only [List.length_nil] at h; exact ⟨by omega, by simp, fun r hr => by cases hr⟩
 | some r =>
  rw [hc] at h
  simp only [List.length_cons] at h
  refine ⟨by omega, by simp only [Option.getD_some]; omega, fun r' hr => by cases hr; omega⟩
theorem atsP_on {f : Nat} {u x r : List UInt8} (h : inq uqL ((Y8 61 u).2.getD []) = some (x, r)) : atsP (f + 1) u = ⟨(Y8 61 u).1, x⟩ :: atsO f (Y8 32 r).2 := by
 rw [atsP, h]
 simp only
 cases (Y8 32 r).2 <;> rfl
theorem atsP_off {f : Nat} {u : List UInt8} (h : inq uqL ((Y8 61 u).2.getD []) = none) : atsP (f + 1) u = [] := by
 rw [atsP, h]
def rowE (x : HNode) : List AVal := rowA x (sl Z3 x.attrs) .emp
def c138 : SFun := ⟨.seq (.reg [o 2 (.new 101 6 [.int .i64 0, .str [], .emp, .str [], .int .i64 0, .emp])]) (.seq (.block 0 (.seq (.reg [o 18 (.mv (.t 0)), o 19 (.pcall 120 [.t 18, .c (.str [33])]), o 17 (.mv (.t 19))]) (.cond (.t 17) (.seq (.reg [o 21 (.mv (.t 0)), o 22 (.slS (.t 21) (some (.c (.int .i64 1))) none), o 23 (.pcall 196 [.t 22]), o 20 (.mv (.t 23)), o 24 (.ext (.t 20) 0), o 25 (.ext (.t 20) 1), o 26 (.ext (.t 20) 2), o 3 (.mv (.t 24)), o 4 (.mv (.t 25)), o 5 (.mv (.t 26))]) (.seq (.reg [o 27 (.mv (.t 3)), o 28 (.bld [.int .i64 0, .str [], .emp, .str [], .int .i64 0, .emp] [(0, (1, (.c (.int .i64 5)))), (1, (1, (.t 27)))]), ⟨none, .st 6 (.t 2) (.t 28), none⟩]) .ret)) (.seq (.reg [o 30 (.mv (.t 0)), o 31 (.pcall 120 [.t 30, .c (.str [34])]), o 29 (.mv (.t 31))]) (.cond (.t 29) (.seq (.reg [o 33 (.mv (.t 0)), o 34 (.pcall 196 [.t 33]), o 32 (.mv (.t 34)), o 35 (.ext (.t 32) 0), o 36 (.ext (.t 32) 1), o 37 (.ext (.t 32) 2), o 6 (.mv (.t 35)), o 7 (.mv (.t 36)), o 8 (.mv (.t 37))]) (.seq (.reg [o 38 (.mv (.t 6)), o 39 (.bld [.int .i64 0, .str [], .emp, .str [], .int .i64 0, .emp] [(0, (1, (.c (.int .i64 3)))), (3, (1, (.t 38)))]), ⟨none, .st 6 (.t 2) (.t 39), none⟩]) .ret)) (.seq (.reg [o 41 (.mv (.t 0)), o 42 (.pcall 120 [.t 41, .c (.str [45])]), o 40 (.mv (.t 42))]) (.cond (.t 40) (.seq (.reg [o 44 (.mv (.t 0)), o 45 (.slS (.t 44) (some (.c (.int .i64 1))) none), o 46 (.pcall 196 [.t 45]), o 43 (.mv (.t 46)), o 47 (.ext (.t 43) 0), o 48 (.ext (.t 43) 1), o 49 (.ext (.t 43) 2), o 9 (.mv (.t 47)), o 10 (.mv (.t 48)), o 11 (.mv (.t 49))]) (.seq (.reg [o 50 (.mv (.t 9)), o 51 (.bld [.int .i64 0, .str [], .emp, .str [], .int .i64 0, .emp] [(0, (1, (.c (.int .i64 4)))), (3, (1, (.t 50)))]), ⟨none, .st 6 (.t 2) (.t 51), none⟩]) .ret)) .skip))))))) (.seq (.reg [o 53 (.mv (.t 0)), o 54 (.pcall 90 [.t 53, .c (.str [32])]), o 52 (.mv (.t 54)), o 55 (.ext (.t 52) 0), o 56 (.ext (.t 52) 1), o 57 (.ext (.t 52) 2), o 12 (.mv (.t 55)), o 13 (.mv (.t 56)), o 14 (.mv (.t 57))]) (.seq (.reg [o 58 (.mv (.t 12)), o 59 (.bld [.int .i64 0, .str [], .emp, .str [], .int .i64 0, .emp] [(0, (1, (.c (.int .i64 2)))), (1, (1, (.t 58)))]), ⟨none, .st 6 (.t 2) (.t 59), none⟩]) (.seq (.block 1 (.loop (.seq (.seq (.reg [o 60 (.mv (.t 14))]) (.cond (.t 60) .skip (.exit 1))) (.block 2 (.seq (.reg [o 15 (.new 69 2 [.str [], .str []])]) (.seq (.reg [o 16 (.mv (.c (.bool false)))]) (.seq (.reg [o 62 (.mv (.t 13)), o 63 (.pcall 90 [.t 62, .c (.str [61])]), o 61 (.mv (.t 63)), o 64 (.ext (.t 61) 0), o 65 (.ext (.t 61) 1), o 66 (.ext (.t 61) 2), o 67 (.fldA 0 (.t 15)), ⟨none, .st 1 (.t 67) (.t 64), none⟩, o 13 (.mv (.t 65))]) (.seq (.seq (.reg [o 69 (.mv (.t 13)), o 70 (.pcall 196 [.t 69]), o 68 (.mv (.t 70)), o 71 (.ext (.t 68) 0), o 72 (.ext (.t 68) 1), o 73 (.ext (.t 68) 2), o 74 (.fldA 1 (.t 15)), ⟨none, .st 1 (.t 74) (.t 71), none⟩, o 13 (.mv (.t 72)), o 16 (.mv (.t 73))]) (.seq (.reg [o 75 (.mv (.t 16)), o 76 (.un .not (.t 75))]) (.cond (.t 76) (.exit 1) .skip))) (.seq (.reg [o 77 (.fldA 2 (.t 2)), o 78 (.ld 1 false (.t 77)), o 79 (.ld 2 true (.t 15)), o 80 (.bldF 69 2 [.t 79]), o 81 (.app 69 2 32 (.t 78) (.t 80)), o 82 (.fldA 2 (.t 2)), ⟨none, .st 1 (.t 82) (.t 81), none⟩]) (.reg [o 84 (.mv (.t 13)), o 85 (.pcall 90 [.t 84, .c (.str [32])]), o 83 (.mv (.t 85)), o 86 (.ext (.t 83) 0), o 87 (.ext (.t 83) 1), o 88 (.ext (.t 83) 2), o 13 (.mv (.t 87)), o 14 (.mv (.t 88))])))))))))) (.seq (.reg [o 89 (.ld 6 true (.t 2)), ⟨none, .st 6 (.t 2) (.t 89), none⟩]) .ret))))), [.cell 2 6 true]⟩
theorem hc138 : X8 Tryz.prog {pure := [196, 120, 90]} Tryz.f138 = some c138 := by kernel_rfl
theorem hn138 : (Tryz.f138.name == "runtime.NumGoroutine") = false := by kernel_rfl
theorem snode_ok (hG : MaxLenOK G) (s : List UInt8) (hs : s.length <= 1000000) : PCalls (Pg G) 138 [.str s] (.agg (rowE (nodeU s))) := PCalls.outV fun h => by
 have h1 := hasPre_ok (G := G) s [33] (by omega) (by decide)
 have h2 := hasPre_ok (G := G) s [34] (by omega) (by decide)
 have h3 := hasPre_ok (G := G) s [45] (by omega) (by decide)
 rw [preH] at h1 h2 h3
 have ud : ((s.drop 1).length : Int) <= 1000000 := by rw [List.length_drop]; omega
 have u1 := unquote_ok (G := G) (s.drop 1) (by omega)
 have u0 := unquote_ok (G := G) s hs
 have cC := cut_ok (G := G) hG s [32] (by omega)
 rw [cut_cutB] at cC
 unfold nodeU
 by_cases c33 : s.head? = some 33
 ·rw [if_pos c33]
  rw [decide_eq_true c33] at h1
  have hp : 0 < s.length := by cases s <;> simp at c33 ⊢
  unfold unqV at u1
  rw [outQ_fst] at u1
  refine Z9 Tryz.func138 hn138 hc138 (by rw [Tryz.ntmps138]; simp) (by rw [Tryz.ntmps138]; decide) ?_
  simp -dsimp -implicitDefEqProofs (disch := omega) only [VCA, Z1, ↓Q3, Nat.reduceEqDiff, Nat.reduceBEq, Nat.reduceAdd, Nat.reduceSub, Nat.reduceMul, Nat.reduceLT, Nat.reduceLeDiff, ↓reduceIte, reduceCtorEq, Z7, Q6, SOp.rd, SI.rd, SX.rd, rdL, rdO, rdP, Q5, Q4, Q2, Q8, Q7, Z0, implies_true, forall_const, forall_eq, ne_eq, exists_eq_right_right, exists_eq_right, exists_eq_left, exists_eq_left', Q9, Z3, Z8, Z6, Z4, c138]
  intro r2 hr2
  have t1 : Int.toNat 1 = 1 := rfl
  repeat' (first | ((with_reducible refine brC (fun _ => ?_) fun _ => ?_) <;> try (exfalso; omega)) | (with_reducible apply pcallE.of; · exact h1) | (with_reducible apply pcallE.of; · exact u1) | (with_reducible refine And.intro ?_ ?_; · omega) | simp -dsimp -implicitDefEqProofs (disch := omega) only [VCA, Z1, ↓Q3, Nat.reduceEqDiff, Nat.reduceBEq, Nat.reduceAdd, Nat.reduceSub, Nat.reduceMul, Nat.reduceLT, Nat.reduceLeDiff, ↓reduceIte, reduceCtorEq, Z7, Q6, SOp.rd, SI.rd, SX.rd, rdL, rdO, rdP, Q5, Q4, Q2, Q8, Q7, Z0, implies_true, forall_const, forall_eq, ne_eq, exists_eq_right_right, exists_eq_right, exists_eq_left, exists_eq_left', Q9, Z3, Z8, Z6, Z4, J5, t1])
  exact ⟨_, Sub.refl _, (Sub.refl h).upd hr2, .one _ _ (.agg' (.cons (.refl _) (.cons (.refl _) (.cons .emp (.cons (.refl _) (.cons (.refl _) (.cons (.refl _) .nil)))))))⟩
 rw [if_neg c33]
 rw [decide_eq_false c33] at h1
 by_cases c34 : s.head? = some 34
 ·rw [if_pos c34]
  rw [decide_eq_true c34] at h2
  unfold unqV at u0
  rw [outQ_fst] at u0
  refine Z9 Tryz.func138 hn138 hc138 (by rw [Tryz.ntmps138]; simp) (by rw [Tryz.ntmps138]; decide) ?_
  simp -dsimp -implicitDefEqProofs (disch := omega) only [VCA, Z1, ↓Q3, Nat.reduceEqDiff, Nat.reduceBEq, Nat.reduceAdd, Nat.reduceSub, Nat.reduceMul, Nat.reduceLT, Nat.reduceLeDiff, ↓reduceIte, reduceCtorEq, Z7, Q6, SOp.rd, SI.rd, SX.rd, rdL, rdO, rdP, Q5, Q4, Q2, Q8, Q7, Z0, implies_true, forall_const, forall_eq, ne_eq, exists_eq_right_right, exists_eq_right, exists_eq_left, exists_eq_left', Q9, Z3, Z8, Z6, Z4, c138]
  intro r2 hr2
  repeat' (first | ((with_reducible refine brC (fun _ => ?_) fun _ => ?_) <;> try (exfalso; omega)) | (with_reducible apply pcallE.of; · exact h1) | (with_reducible apply pcallE.of; · exact h2) | (with_reducible apply pcallE.of; · exact u0) | (with_reducible refine And.intro ?_ ?_; · omega) | simp -dsimp -implicitDefEqProofs (disch := omega) only [VCA, Z1, ↓Q3, Nat.reduceEqDiff, Nat.reduceBEq, Nat.reduceAdd, Nat.reduceSub, Nat.reduceMul, Nat.reduceLT, Nat.reduceLeDiff, ↓reduceIte, reduceCtorEq, Z7, Q6, SOp.rd, SI.rd, SX.rd, rdL, rdO, rdP, Q5, Q4, Q2, Q8, Q7, Z0, implies_true, forall_const, forall_eq, ne_eq, exists_eq_right_right, exists_eq_right, exists_eq_left, exists_eq_left', Q9, Z3, Z8, Z6, Z4, J5])
  exact ⟨_, Sub.refl _, (Sub.refl h).upd hr2, .one _ _ (.agg' (.cons (.refl _) (.cons (.refl _) (.cons .emp (.cons (.refl _) (.cons (.refl _) (.cons (.refl _) .nil)))))))⟩
 rw [if_neg c34]
 rw [decide_eq_false c34] at h2
 by_cases c45 : s.head? = some 45
 ·rw [if_pos c45]
  rw [decide_eq_true c45] at h3
  have hp : 0 < s.length := by cases s <;> simp at c45 ⊢
  unfold unqV at u1
  rw [outQ_fst] at u1
  refine Z9 Tryz.func138 hn138 hc138 (by rw [Tryz.ntmps138]; simp) (by rw [Tryz.ntmps138]; decide) ?_
  simp -dsimp -implicitDefEqProofs (disch := omega) only [VCA, Z1, ↓Q3, Nat.reduceEqDiff, Nat.reduceBEq, Nat.reduceAdd, Nat.reduceSub, Nat.reduceMul, Nat.reduceLT, Nat.reduceLeDiff, ↓reduceIte, reduceCtorEq, Z7, Q6, SOp.rd, SI.rd, SX.rd, rdL, rdO, rdP, Q5, Q4, Q2, Q8, Q7, Z0, implies_true, forall_const, forall_eq, ne_eq, exists_eq_right_right, exists_eq_right, exists_eq_left, exists_eq_left', Q9, Z3, Z8, Z6, Z4, c138]
  intro r2 hr2
  have t1 : Int.toNat 1 = 1 := rfl
  repeat' (first | ((with_reducible refine brC (fun _ => ?_) fun _ => ?_) <;> try (exfalso; omega)) | (with_reducible apply pcallE.of; · exact h1) | (with_reducible apply pcallE.of; · exact h2) | (with_reducible apply pcallE.of; · exact h3) | (with_reducible apply pcallE.of; · exact u1) | (with_reducible refine And.intro ?_ ?_; · omega) | simp -dsimp -implicitDefEqProofs (disch := omega) only [VCA, Z1, ↓Q3, Nat.reduceEqDiff, Nat.reduceBEq, Nat.reduceAdd, Nat.reduceSub, Nat.reduceMul, Nat.reduceLT, Nat.reduceLeDiff, ↓reduceIte, reduceCtorEq, Z7, Q6, SOp.rd, SI.rd, SX.rd, rdL, rdO, rdP, Q5, Q4, Q2, Q8, Q7, Z0, implies_true, forall_const, forall_eq, ne_eq, exists_eq_right_right, exists_eq_right, exists_eq_left, exists_eq_left', Q9, Z3, Z8, Z6, Z4, J5, t1])
  exact ⟨_, Sub.refl _, (Sub.refl h).upd hr2, .one _ _ (.agg' (.cons (.refl _) (.cons (.refl _) (.cons .emp (.cons (.refl _) (.cons (.refl _) (.cons (.refl _) .nil)))))))⟩
 rw [if_neg c45]
 rw [decide_eq_false c45] at h3
 obtain ⟨nm, hnm⟩ : ∃ nm, (Y8 32 s).1 = nm := ⟨_, rfl⟩
 have hcl := cutB_len 32 s
 rw [hnm] at cC ⊢
 refine Z9 Tryz.func138 hn138 hc138 (by rw [Tryz.ntmps138]; simp) (by rw [Tryz.ntmps138]; decide) ?_
 simp -dsimp -implicitDefEqProofs (disch := omega) only [VCA, Z1, ↓Q3, Nat.reduceEqDiff, Nat.reduceBEq, Nat.reduceAdd, Nat.reduceSub, Nat.reduceMul, Nat.reduceLT, Nat.reduceLeDiff, ↓reduceIte, reduceCtorEq, Z7, Q6, SOp.rd, SI.rd, SX.rd, rdL, rdO, rdP, Q5, Q4, Q2, Q8, Q7, Z0, implies_true, forall_const, forall_eq, ne_eq, exists_eq_right_right, exists_eq_right, exists_eq_left, exists_eq_left', Q9, Z3, Z8, Z6, Z4, c138]
 intro r2 hr2
 repeat' (first | ((with_reducible refine brC (fun _ => ?_) fun _ => ?_) <;> try (exfalso; omega)) | (with_reducible apply pcallE.of; · exact h1) | (with_reducible apply pcallE.of; · exact h2) | (with_reducible apply pcallE.of; · exact h3) | (with_reducible apply pcallE.of; · exact cC) | (with_reducible refine And.intro ?_ ?_; · omega) | simp -dsimp -implicitDefEqProofs (disch := omega) only [VCA, Z1, ↓Q3, Nat.reduceEqDiff, Nat.reduceBEq, Nat.reduceAdd, Nat.reduceSub, Nat.reduceMul, Nat.reduceLT, Nat.reduceLeDiff, ↓reduceIte, reduceCtorEq, Z7, Q6, SOp.rd, SI.rd, SX.rd, rdL, rdO, rdP, Q5, Q4, Q2, Q8, Q7, Z0, implies_true, forall_const, forall_eq, ne_eq, exists_eq_right_right, exists_eq_right, exists_eq_left, exists_eq_left', Q9, Z3, Z8, Z6, Z4, J5])
 refine LoopVC.intro (fun m e h' => ∃ (f : Nat) (D : List HAttr) (a : AVal) (u : List UInt8) (b : Bool), m = u.length + (if b = true then 1 else 0) /\ u.length < f /\ u.length <= s.length /\ e 2 = .vp r2 0 /\ e 13 = .str u /\ e 14 = .bool b /\
   h' r2 = some ⟨.t 101, 6, [[Y0 2, .str nm, a, .str [], Y0 0, .emp]]⟩ /\ Acc h 69 2 (D.map Z3) a h' /\ Y7 a ≠ some r2 /\ Sim.Sub h h' /\ D.length + u.length <= s.length /\
   D ++ (if b = true then atsP f u else []) = atsO (s.length + 1) (Y8 32 s).2) (((Y8 32 s).2.getD []).length + (if (Y8 32 s).2.isSome = true then 1 else 0))
  ?_ ?_
 ·refine ⟨s.length + 1, [], .emp, (Y8 32 s).2.getD [], (Y8 32 s).2.isSome, rfl, by omega, hcl.2.1, rfl, rfl, rfl, by simp [upd], .nil, (fun e => by cases e), (Sub.refl h).upd hr2, by simpa using hcl.2.1, ?_⟩
  cases (Y8 32 s).2 <;> rfl
 ·rintro m e h' ⟨f, D, a, u, b, rfl, hf, hu, e2, e13, e14, g2, A, na, S, hD, hE⟩
  obtain ⟨g, rfl⟩ : ∃ g, f = g + 1 := ⟨f - 1, by omega⟩
  have fin : ∀ (D : List HAttr) (a : AVal) (h3 : J1), h3 r2 = some ⟨.t 101, 6, [[Y0 2, .str nm, a, .str [], Y0 0, .emp]]⟩ -> Acc h 69 2 (D.map Z3) a h3 -> Y7 a ≠ some r2 -> Sim.Sub h h3 -> D = atsO (s.length + 1) (Y8 32 s).2 ->
    ∃ h4, Sim.Sub h4 h3 /\ Sim.Sub h h4 /\ VwT (newH h h4) (.agg [Y0 2, .str nm, a, .str [], Y0 0, .emp]) (.agg (rowE ⟨2, nm, atsO (s.length + 1) (Y8 32 s).2, [], 0, []⟩)) := fun D a h3 g2 A na S hE => by
   rw [<- hE]
   exact ⟨_, Sub.refl _, S, .one _ _ (.agg' (.cons (.refl _) (.cons (.refl _) (.cons (A.vw fun f hf => by obtain ⟨x, _, rfl⟩ := List.mem_map.1 hf; rfl) (.cons (.refl _) (.cons (.refl _) (.cons (.refl _) .nil)))))))⟩
  cases b with
  | false =>
   rw [if_neg (by simp), List.append_nil] at hE
   repeat' (first | ((with_reducible refine brC (fun _ => ?_) fun _ => ?_) <;> try (exfalso; omega)) | (with_reducible refine And.intro ?_ ?_; · omega) | simp -dsimp -implicitDefEqProofs (disch := omega) only [VCA, Z1, ↓Q3, Nat.reduceEqDiff, Nat.reduceBEq, Nat.reduceAdd, Nat.reduceSub, Nat.reduceMul, Nat.reduceLT, Nat.reduceLeDiff, ↓reduceIte, reduceCtorEq, Z7, Q6, SOp.rd, SI.rd, SX.rd, rdL, rdO, rdP, Q5, Q4, Q2, Q8, Q7, Z0, implies_true, forall_const, forall_eq, ne_eq, exists_eq_right_right, exists_eq_right, exists_eq_left, exists_eq_left', Q9, Z3, Z8, Z6, Z4, e2, e13, e14, g2, J5])
   rw [upd_id g2]
   exact fin D a h' g2 A na S hE
  | true =>
   rw [if_pos rfl] at hE
   have hl := cutB_len 61 u
   have cK := cut_ok (G := G) hG u [61] (by omega)
   rw [cut_cutB] at cK
   obtain ⟨v, hv⟩ : ∃ v, (Y8 61 u).2.getD [] = v := ⟨_, rfl⟩
   obtain ⟨w, hw⟩ : ∃ w, (Y8 61 u).1 = w := ⟨_, rfl⟩
   rw [hv, hw] at cK hl
   have uK := unquote_ok (G := G) v (by omega)
   unfold unqV at uK
   cases hq : inq uqL v with
   | none =>
    rw [hq] at uK
    rw [atsP_off (by rw [hv]; exact hq), List.append_nil] at hE
    repeat' (first | ((with_reducible refine brC (fun _ => ?_) fun _ => ?_) <;> try (exfalso; omega)) | (with_reducible refine And.intro ?_ ?_; · omega) | simp -dsimp -implicitDefEqProofs (disch := omega) only [VCA, Z1, ↓Q3, Nat.reduceEqDiff, Nat.reduceBEq, Nat.reduceAdd, Nat.reduceSub, Nat.reduceMul, Nat.reduceLT, Nat.reduceLeDiff, ↓reduceIte, reduceCtorEq, Z7, Q6, SOp.rd, SI.rd, SX.rd, rdL, rdO, rdP, Q5, Q4, Q2, Q8, Q7, Z0, implies_true, forall_const, forall_eq, ne_eq, exists_eq_right_right, exists_eq_right, exists_eq_left, exists_eq_left', Q9, Z3, Z8, Z6, Z4, e2, e13, e14, g2, J5])
    intro r15 hr15
    have n1 : ¬ r2 = r15 := fun q => by rw [<- q, g2] at hr15; cases hr15
    have n2 : ¬ r15 = r2 := fun q => n1 q.symm
    repeat' (first | ((with_reducible refine brC (fun _ => ?_) fun _ => ?_) <;> try (exfalso; omega)) | (with_reducible apply pcallE.of; · exact cK) | (with_reducible apply pcallE.of; · exact uK) | (with_reducible refine And.intro ?_ ?_; · omega) | simp -dsimp -implicitDefEqProofs (disch := omega) only [VCA, Z1, ↓Q3, Nat.reduceEqDiff, Nat.reduceBEq, Nat.reduceAdd, Nat.reduceSub, Nat.reduceMul, Nat.reduceLT, Nat.reduceLeDiff, ↓reduceIte, reduceCtorEq, Z7, Q6, SOp.rd, SI.rd, SX.rd, rdL, rdO, rdP, Q5, Q4, Q2, Q8, Q7, Z0, implies_true, forall_const, forall_eq, ne_eq, exists_eq_right_right, exists_eq_right, exists_eq_left, exists_eq_left', Q9, Z3, Z8, Z6, Z4, e2, e13, e14, g2, J5, outQ, n1, n2])
    have hg : upd h' r15 (some ⟨.t 69, 2, [[.str w, .str []]]⟩) r2 = some ⟨.t 101, 6, [[Y0 2, .str nm, a, .str [], Y0 0, .emp]]⟩ := by rw [Y3 _ _ n1]; exact g2
    rw [upd_id hg]
    exact fin D a _ hg (A.re fun t o q0 q1 => ⟨q0, by rw [Y3 _ _ (fun e => by rw [e, hr15] at q1; cases q1)]; exact q1⟩) na (S.upd (S.none hr15)) hE
   | some q =>
    obtain ⟨x, r⟩ := q
    rw [hq] at uK
    have hr := inq_len hq
    have cR := cut_ok (G := G) hG r [32] (by omega)
    rw [cut_cutB] at cR
    have hl3 := cutB_len 32 r
    rw [atsP_on (by rw [hv]; exact hq), hw] at hE
    repeat' (first | ((with_reducible refine brC (fun _ => ?_) fun _ => ?_) <;> try (exfalso; omega)) | (with_reducible refine And.intro ?_ ?_; · omega) | simp -dsimp -implicitDefEqProofs (disch := omega) only [VCA, Z1, ↓Q3, Nat.reduceEqDiff, Nat.reduceBEq, Nat.reduceAdd, Nat.reduceSub, Nat.reduceMul, Nat.reduceLT, Nat.reduceLeDiff, ↓reduceIte, reduceCtorEq, Z7, Q6, SOp.rd, SI.rd, SX.rd, rdL, rdO, rdP, Q5, Q4, Q2, Q8, Q7, Z0, implies_true, forall_const, forall_eq, ne_eq, exists_eq_right_right, exists_eq_right, exists_eq_left, exists_eq_left', Q9, Z3, Z8, Z6, Z4, e2, e13, e14, g2, J5])
    intro r15 hr15
    have n1 : ¬ r2 = r15 := fun q => by rw [<- q, g2] at hr15; cases hr15
    have n2 : ¬ r15 = r2 := fun q => n1 q.symm
    repeat' (first | ((with_reducible refine brC (fun _ => ?_) fun _ => ?_) <;> try (exfalso; omega)) | (with_reducible apply pcallE.of; · exact cK) | (with_reducible apply pcallE.of; · exact uK) | (with_reducible apply pcallE.of; · exact cR) | (with_reducible refine And.intro ?_ ?_; · omega) | simp -dsimp -implicitDefEqProofs (disch := omega) only [VCA, Z1, ↓Q3, Nat.reduceEqDiff, Nat.reduceBEq, Nat.reduceAdd, Nat.reduceSub, Nat.reduceMul, Nat.reduceLT, Nat.reduceLeDiff, ↓reduceIte, reduceCtorEq, Z7, Q6, SOp.rd, SI.rd, SX.rd, rdL, rdO, rdP, Q5, Q4, Q2, Q8, Q7, Z0, implies_true, forall_const, forall_eq, ne_eq, exists_eq_right_right, exists_eq_right, exists_eq_left, exists_eq_left', Q9, Z3, Z8, Z6, Z4, e2, e13, e14, g2, J5, outQ, n1, n2])
    have A1 : Acc h 69 2 (D.map Z3) a (upd h' r15 (some ⟨.t 69, 2, [[.str w, .str x]]⟩)) := A.re fun t o q0 q1 => ⟨q0, by rw [Y3 _ _ (fun e => by rw [e, hr15] at q1; cases q1)]; exact q1⟩
    refine A1.appW (S.upd (S.none hr15)) (by simp; omega) (by simp; omega) (fun a' h4 A' S' kp => ?_)
    obtain ⟨f2, p2⟩ := kp r2 ⟨101, 6, [[Y0 2, .str nm, a, .str [], Y0 0, .emp]]⟩ (by rw [Y3 _ _ n1]; exact g2) na
    obtain ⟨va, ca⟩ : isV a' = true /\ cellsOf a' = [a'] := by rcases A' with ⟨_, rfl⟩ | ⟨_, _, _, rfl⟩ <;> exact ⟨rfl, rfl⟩
    repeat' (first | ((with_reducible refine brC (fun _ => ?_) fun _ => ?_) <;> try (exfalso; omega)) | (with_reducible apply pcallE.of; · exact cR) | (with_reducible refine And.intro ?_ ?_; · omega) | simp -dsimp -implicitDefEqProofs (disch := omega) only [VCA, Z1, ↓Q3, Nat.reduceEqDiff, Nat.reduceBEq, Nat.reduceAdd, Nat.reduceSub, Nat.reduceMul, Nat.reduceLT, Nat.reduceLeDiff, ↓reduceIte, reduceCtorEq, Z7, Q6, SOp.rd, SI.rd, SX.rd, rdL, rdO, rdP, Q5, Q4, Q2, Q8, Q7, Z0, implies_true, forall_const, forall_eq, ne_eq, exists_eq_right_right, exists_eq_right, exists_eq_left, exists_eq_left', Q9, Z3, Z8, Z6, Z4, e2, e13, e14, f2, J5, outQ, n1, n2, va, ca])
    refine ⟨_, ?_, g, D ++ [⟨w, x⟩], a', (Y8 32 r).2.getD [], (Y8 32 r).2.isSome, rfl, by omega, by omega, rfl, rfl, rfl, by rw [List.map_append]; exact A'.keepA p2 _, p2, S'.upd hr2, ?_, ?_⟩
    ·have := hl3.2.2
     cases hc : (Y8 32 r).2 with
     | none => simp
     | some z => have := this z hc; simp; omega
    ·rw [List.length_append, List.length_singleton]; omega
    ·rw [<- hE]
     cases (Y8 32 r).2 <;> simp [atsO]
def lastN (deep : List Int) : Int := if deep = [] then -1 else nth deep (deep.length - 1)
structure PD (path deep : List Int) : Prop where
 len : (path.length : Int) = lastN deep + 2
 top : nth path 0 = 0
 at_ : ∀ k, k + 1 < path.length -> ∃ i, i < deep.length /\ nth path (k + 1) = i + 1 /\ nth deep i = k /\ ∀ j, i < j -> j < deep.length -> nth deep j ≠ k
theorem PD.nil : PD [0] [] := ⟨by simp [lastN], rfl, fun k hk => by simp at hk⟩
theorem OwnS.app {h : J1} {ty sz b : Nat} {cells es2 : List (List AVal)} {a : AVal} (O : OwnS h ty sz cells a) (M : Mut a) (h1 : (cells.length + es2.length) * b <= 140737488355328) (h2 : cells.length + es2.length <= 140737488355328) {K : AVal -> J1 -> Prop}
  (hk : ∀ r' h'', h'' r' = some ⟨ty, sz, cells ++ es2⟩ -> (Y7 a = some r' \/ h r' = none) -> (∀ r o, h r = some o -> Y7 a ≠ some r -> h'' r = some o) -> K (.osl r' sz 0 (cells.length + es2.length)) h'') : Hd (appE ty sz b a es2 h) K .mk := by
 rcases O.live M with ⟨rfl, rfl⟩ | ⟨r, es, rfl, hr, hl, ht⟩
 ·refine ⟨by simpa using h1, by simpa using h2, fun r hr => ?_⟩
  have := hk r (upd h r (some ⟨ty, sz, es2⟩)) (by simp) (.inr hr) (fun t o ho _ => by rw [Y3 _ _ (fun e => by rw [e, hr] at ho; cases ho)]; exact ho)
  simpa using this
 ·refine ⟨rfl, _, hr, rfl, by simpa using hl, h1, h2, fun r' hr' => ?_⟩
  have hr2 : r' = r \/ h r' = none := by
   unfold del at hr'
   split at hr'
   ·rename_i e; exact .inl e
   ·exact .inr hr'
  refine hk r' _ (by simp [ht]) ?_ fun t o ho hne => ?_
  ·rcases hr2 with e | e
   ·left; rw [e]; rfl
   ·exact .inr e
  ·have e1 : t ≠ r := fun e => hne (by rw [e]; rfl)
   have e2 : t ≠ r' := fun e => by
    rcases hr2 with e3 | e3
    ·exact e1 (e.trans e3)
    ·rw [e, e3] at ho; cases ho
   rw [Y3 _ _ e2]; unfold del; rw [if_neg e1]; exact ho
theorem rowsA_add {d : HDoc} {x : HNode} {sl : Nat -> AVal} {a : AVal} : rowsA (addN d x) (upd (upd sl (2 * d.nodes.length) a) (2 * d.nodes.length + 1) .emp) = rowsA d sl ++ [rowA x a .emp] := by
 unfold rowsA
 rw [addN_len, List.range_succ, List.map_append, List.map_cons, List.map_nil]
 congr 1
 ·refine List.map_congr_left fun i hi => ?_
  have hi := List.mem_range.1 hi
  rw [Y3 _ _ (by omega), Y3 _ _ (by omega), Y3 _ _ (by omega), Y3 _ _ (by omega)]
  have : nth (addN d x).nodes i = nth d.nodes i := by
   unfold addN nth; rw [List.getD_eq_getElem?_getD, List.getD_eq_getElem?_getD, List.getElem?_append_left hi]
  rw [this]
 ·rw [J5, Y3 _ _ (by omega), J5]
  have : nth (addN d x).nodes d.nodes.length = x := by unfold addN nth; rw [List.getD_eq_getElem?_getD]; simp
  rw [this]
theorem Dw.mono {X : List Nat} {h0 h h2 : J1} {rN : Nat} {d : HDoc} {sl : Nat -> AVal} (E : Dw X h0 h rN d sl) (S : Sim.Sub h h2) : Dw X h0 h2 rN d sl :=
 ⟨E.sub.trans S, S _ _ E.nodes, E.new, fun i hi => ⟨(E.own i hi).1.keep fun r o _ ho => S _ _ ho, (E.own i hi).2.keep fun r o _ ho => S _ _ ho⟩, E.fresh, E.sep, fun r hr => by obtain ⟨o, ho⟩ := E.keep r hr; exact ⟨o, S _ _ ho⟩⟩
theorem Dw.add {X : List Nat} {h0 h h2 : J1} {rN rN' : Nat} {d : HDoc} {sl : Nat -> AVal} (E : Dw X h0 h rN d sl) {x : HNode} {a' : AVal} (hk : x.kids = [])
  (hN : h2 rN' = some ⟨.t 101, 6, rowsA d sl ++ [rowA x a' .emp]⟩)
  (kp : ∀ r o, h r = some o -> r ≠ rN -> h2 r = some o) (O : OwnS h2 69 2 (x.attrs.map Z3) a') (fr : ∀ r, Y7 a' = some r -> h0 r = none /\ r ∉ X /\ r ≠ rN' /\ ∀ k, k < 2 * d.nodes.length -> Y7 (sl k) ≠ some r) (fN : rN' = rN \/ h rN' = none) :
  Dw X h0 h2 rN' (addN d x) (upd (upd sl (2 * d.nodes.length) a') (2 * d.nodes.length + 1) .emp) := by
 have hold : ∀ k, k < 2 * d.nodes.length -> upd (upd sl (2 * d.nodes.length) a') (2 * d.nodes.length + 1) .emp k = sl k := fun k hk => by rw [Y3 _ _ (by omega), Y3 _ _ (by omega)]
 have hnew : upd (upd sl (2 * d.nodes.length) a') (2 * d.nodes.length + 1) .emp (2 * d.nodes.length) = a' := by rw [Y3 _ _ (by omega), J5]
 have hnew2 : upd (upd sl (2 * d.nodes.length) a') (2 * d.nodes.length + 1) AVal.emp (2 * d.nodes.length + 1) = .emp := J5 _ _ _
 have some_ne : ∀ r o, h r = some o -> r ≠ rN -> r ≠ rN' := fun r o ho hne e => by
  rcases fN with h1 | h1
  ·exact hne (e.trans h1)
  ·rw [e, h1] at ho; cases ho
 generalize hs : upd (upd sl (2 * d.nodes.length) a') (2 * d.nodes.length + 1) .emp = sl' at *
 have rws : rowsA (addN d x) sl' = rowsA d sl ++ [rowA x a' .emp] := by rw [<- hs]; exact rowsA_add
 have nX : ∀ r, h r = none -> r ∉ X := fun r hr q => by obtain ⟨o, ho⟩ := E.keep r q; rw [hr] at ho; cases ho
 have fa : ∀ r, Y7 a' = some r -> h0 r = none /\ r ≠ rN' /\ r ∉ X := fun r hr => ⟨(fr r hr).1, (fr r hr).2.2.1, (fr r hr).2.1⟩
 have ks : ∀ k, k < 2 * (d.nodes.length + 1) -> k < 2 * d.nodes.length \/ k = 2 * d.nodes.length \/ k = 2 * d.nodes.length + 1 := fun k hk => by omega
 have rne : ∀ k, k < 2 * d.nodes.length -> ∀ r, Y7 (sl k) = some r -> r ≠ rN := fun k hk r hr => (E.fresh k hk r hr).2.1
 refine ⟨fun t o ht => ?_, by rw [hN, rws], ⟨?_, ?_⟩, fun i hi => ?_, fun k hk' r hr => ?_, fun j k hj hk' hne r hr => ?_, fun r hr => ?_⟩
 ·exact kp t o (E.sub t o ht) (fun e => by rw [e, E.new.1] at ht; cases ht)
 ·rcases fN with h1 | h1
  ·rw [h1]; exact E.new.1
  ·exact E.sub.none h1
 ·rcases fN with h1 | h1
  ·rw [h1]; exact E.new.2
  ·exact nX _ h1
 ·rw [addN_len] at hi
  by_cases hl : i < d.nodes.length
  ·have e1 : nth (addN d x).nodes i = nth d.nodes i := by
    unfold addN nth; rw [List.getD_eq_getElem?_getD, List.getD_eq_getElem?_getD, List.getElem?_append_left hl]
   rw [e1, hold _ (by omega), hold _ (by omega)]
   obtain ⟨g1, g2⟩ := E.own i hl
   exact ⟨g1.keep fun r o hr ho => kp r o ho (rne _ (by omega) r hr), g2.keep fun r o hr ho => kp r o ho (rne _ (by omega) r hr)⟩
  ·have e0 : i = d.nodes.length := by omega
   subst e0
   have e1 : nth (addN d x).nodes d.nodes.length = x := by unfold addN nth; rw [List.getD_eq_getElem?_getD]; simp
   rw [e1, hnew, hnew2, hk]
   exact ⟨O, .inl ⟨rfl, rfl⟩⟩
 ·rw [addN_len] at hk'
  rcases ks k hk' with h1 | h1 | h1
  ·rw [hold k h1] at hr
   have := E.fresh k h1 r hr
   obtain ⟨o, ho⟩ := E.slot h1 hr
   exact ⟨this.1, some_ne r o ho this.2.1, this.2.2⟩
  ·rw [h1, hnew] at hr; exact fa r hr
  ·rw [h1, hnew2] at hr; cases hr
 ·rw [addN_len] at hj hk'
  rcases ks j hj with h1 | h1 | h1
  ·rw [hold j h1] at hr
   rcases ks k hk' with h2 | h2 | h2
   ·rw [hold k h2]; exact E.sep j k h1 h2 hne r hr
   ·rw [h2, hnew]; intro h3
    exact (fr r h3).2.2.2 j h1 hr
   ·rw [h2, hnew2]; intro h3; cases h3
  ·rw [h1, hnew] at hr
   rcases ks k hk' with h2 | h2 | h2
   ·rw [hold k h2]; intro h3
    exact (fr r hr).2.2.2 k h2 h3
   ·omega
   ·rw [h2, hnew2]; intro h3; cases h3
  ·rw [h1, hnew2] at hr; cases hr
 ·obtain ⟨o, ho⟩ := E.keep r hr
  exact ⟨o, kp r o ho (fun e => E.new.2 (e ▸ hr))⟩
theorem Dw.rows {X : List Nat} {h0 h : J1} {rN : Nat} {d : HDoc} {sl : Nat -> AVal} (E : Dw X h0 h rN d sl) : OwnS h 101 6 (rowsA d sl) (.osl rN 6 0 d.nodes.length) /\ Mut (.osl rN 6 0 d.nodes.length) :=
 ⟨.inr (.inr ⟨rN, _, by rw [rowsA_len], E.nodes, by rw [rowsA_len]; exact Nat.le_refl _, by rw [List.take_of_length_le (Nat.le_refl _)]⟩), fun es q => by cases q⟩
theorem Dw.new' {X : List Nat} {h0 h : J1} {rN : Nat} {d : HDoc} {sl : Nat -> AVal} (E : Dw X h0 h rN d sl) : Dw [] (fun _ => none) (newH h0 h) rN d sl :=
 ⟨(fun t o ht => by cases ht), by rw [newH_none E.new.1]; exact E.nodes, ⟨rfl, by simp⟩, fun i hi => ⟨(E.own i hi).1.keep fun r o hr ho => by rw [newH_none (E.fresh _ (by omega) r hr).1]; exact ho, (E.own i hi).2.keep fun r o hr ho => by rw [newH_none (E.fresh _ (by omega) r hr).1]; exact ho⟩,
  fun k hk r hr => ⟨rfl, (E.fresh k hk r hr).2.1, by simp⟩, E.sep, fun r hr => by cases hr⟩
theorem Dw.base {X : List Nat} {h0 h00 h : J1} {rN : Nat} {d : HDoc} {sl : Nat -> AVal} (E : Dw X h0 h rN d sl) (S : Sim.Sub h00 h0) : Dw X h00 h rN d sl :=
 ⟨S.trans E.sub, E.nodes, ⟨S.none E.new.1, E.new.2⟩, E.own, fun k hk r hr => ⟨S.none (E.fresh k hk r hr).1, (E.fresh k hk r hr).2⟩, E.sep, E.keep⟩
theorem Dw.beside {X : List Nat} {h0 h00 h : J1} {rN r : Nat} {d : HDoc} {sl : Nat -> AVal} {x : AObj} (E : Dw X h0 h rN d sl) (S : Sim.Sub h00 h0) (h1 : h0 r = some x) (h2 : h00 r = none) (hX : r ∉ X) (y : AObj) : Dw X h00 (upd h r (some y)) rN d sl := by
 have ne : ∀ t, h0 t = none -> t ≠ r := fun t ht e => by rw [e, h1] at ht; cases ht
 refine ⟨(S.trans E.sub).upd h2, by rw [Y3 _ _ (ne _ E.new.1)]; exact E.nodes, ⟨S.none E.new.1, E.new.2⟩, fun i hi => ?_, fun k hk t ht => ⟨S.none (E.fresh k hk t ht).1, (E.fresh k hk t ht).2⟩, E.sep, fun t ht => ?_⟩
 ·obtain ⟨g1, g2⟩ := E.own i hi
  exact ⟨g1.keep fun t o ht ho => by rw [Y3 _ _ (ne t (E.fresh _ (by omega) t ht).1)]; exact ho, g2.keep fun t o ht ho => by rw [Y3 _ _ (ne t (E.fresh _ (by omega) t ht).1)]; exact ho⟩
 ·obtain ⟨o, ho⟩ := E.keep t ht
  exact ⟨o, by rw [Y3 _ _ (fun e => hX (by rw [<- e]; exact ht))]; exact ho⟩
theorem Dw.kid {X : List Nat} {h0 h h3 : J1} {rN r2 : Nat} {d : HDoc} {sl : Nat -> AVal} (E : Dw X h0 h rN d sl) {i : Nat} (hi : i < d.nodes.length) {v : Int}
  (q1 : h3 r2 = some ⟨.t 3, 1, (nth d.nodes i).kids.map Z8 ++ [[Y0 v]]⟩) (q2 : Y7 (sl (2 * i + 1)) = some r2 \/ h r2 = none) (q3 : ∀ r o, h r = some o -> Y7 (sl (2 * i + 1)) ≠ some r -> h3 r = some o) :
  Dw X h0 (upd h3 rN (some ⟨.t 101, 6, (rowsA d sl).set i (rowA { nth d.nodes i with kids := (nth d.nodes i).kids ++ [v] } (sl (2 * i)) (.osl r2 1 0 ((nth d.nodes i).kids.length + 1)))⟩)) rN
   ⟨d.nodes.set i { nth d.nodes i with kids := (nth d.nodes i).kids ++ [v] }, d.quirks⟩ (upd sl (2 * i + 1) (.osl r2 1 0 ((nth d.nodes i).kids.length + 1))) := by
 have HN := E.nodes
 have f2 := fun (r : Nat) (hr : Y7 (sl (2 * i + 1)) = some r) => E.fresh (2 * i + 1) (by omega) r hr
 have g1o := (E.own i hi).1
 have r2N : r2 ≠ rN := fun e => by
  rcases q2 with q | q
  ·exact (f2 _ q).2.1 e
  ·rw [e, HN] at q; cases q
 have fs1 : ∀ r, Y7 (sl (2 * i)) = some r -> r ≠ rN /\ Y7 (sl (2 * i + 1)) ≠ some r := fun r hr =>
  ⟨(E.fresh (2 * i) (by omega) r hr).2.1, fun q => E.sep (2 * i) (2 * i + 1) (by omega) (by omega) (by omega) r hr q⟩
 have w1 : upd sl (2 * i + 1) (.osl r2 1 0 ((nth d.nodes i).kids.length + 1)) (2 * i) = sl (2 * i) := Y3 _ _ (by omega)
 have w2 : upd sl (2 * i + 1) (.osl r2 1 0 ((nth d.nodes i).kids.length + 1)) (2 * i + 1) = .osl r2 1 0 ((nth d.nodes i).kids.length + 1) := J5 _ _ _
 refine E.put hi (fun t t1 t2 => Y3 _ _ t2) (by rw [J5, w1, w2]) (fun r o ho t1 t2 t3 => by rw [Y3 _ _ t1]; exact q3 r o ho t3) ?_ ?_ ?_ ?_
 ·rw [w1]
  exact g1o.keep fun r o hr ho => by rw [Y3 _ _ (fs1 r hr).1]; exact q3 r o ho (fs1 r hr).2
 ·rw [w2]
  refine .inr (.inr ⟨r2, _, by simp, by rw [Y3 _ _ r2N]; exact q1, by simp, ?_⟩)
  rw [List.take_of_length_le (by simp)]; simp; rfl
 ·intro r hr
  rw [w1, w2] at hr
  rcases hr with hr | hr
  ·exact .inl hr
  ·cases hr
   rcases q2 with q | q
   ·exact .inr (.inl q)
   ·exact .inr (.inr q)
 ·intro r hr q
  rw [w1] at hr
  rw [w2] at q
  cases q
  rcases q2 with q | q
  ·exact (fs1 _ hr).2 q
  ·obtain ⟨o, ho⟩ := g1o.root hr
   rw [ho] at q; cases q
def c136 : SFun := ⟨.seq (.reg [o 0 (.new 39 2 [.emp, .bool false])]) (.seq (.reg [o 1 (.bld [.int .i64 0, .str [], .emp, .str [], .int .i64 0, .emp] [(0, (1, (.c (.int .i64 1)))), (4, (1, (.c (.int .i64 (-1)))))]), o 2 (.bldR 101 6 [.t 1]), o 3 (.bld [.emp, .bool false] [(0, (1, (.t 2)))]), ⟨none, .st 2 (.t 0) (.t 3), none⟩]) .ret), [.cell 0 2 true]⟩
theorem hc136 : X8 Tryz.prog {how := [(2, 2)]} Tryz.f136 = some c136 := by kernel_rfl
theorem newOwn_ok (h : J1) : DCalls (Pg G) 136 [] h fun a h' => ∃ rN, h rN = none /\ a = .agg [.osl rN 6 0 1, .bool false] /\ h' rN = some ⟨.t 101, 6, [[Y0 1, .str [], .emp, .str [], Y0 (-1), .emp]]⟩ /\ Sim.Sub h h' := by
 refine Z9 Tryz.func136 (by kernel_rfl) hc136 (by rw [Tryz.ntmps136]; simp) (by rw [Tryz.ntmps136]; decide) ?_
 simp -dsimp -implicitDefEqProofs (disch := omega) only [VCA, Z1, ↓Q3, Nat.reduceEqDiff, Nat.reduceBEq, Nat.reduceAdd, Nat.reduceSub, Nat.reduceMul, Nat.reduceLT, Nat.reduceLeDiff, ↓reduceIte, reduceCtorEq, Z7, Q6, SOp.rd, SI.rd, SX.rd, rdL, rdO, rdP, Q5, Q4, Q2, Q8, Q7, Z0, implies_true, forall_const, forall_eq, ne_eq, exists_eq_right_right, exists_eq_right, exists_eq_left, exists_eq_left', Q9, Z3, Z8, Z6, Z4, J4, c136]
 intro r0 hr0 r1 hr1
 have n1 : ¬ r1 = r0 := hr1.1
 have n2 : ¬ r0 = r1 := fun q => n1 q.symm
 repeat' (first | ((with_reducible refine brC (fun _ => ?_) fun _ => ?_) <;> try (exfalso; omega)) | (with_reducible refine And.intro ?_ ?_; · omega) | simp -dsimp -implicitDefEqProofs (disch := omega) only [VCA, Z1, ↓Q3, Nat.reduceEqDiff, Nat.reduceBEq, Nat.reduceAdd, Nat.reduceSub, Nat.reduceMul, Nat.reduceLT, Nat.reduceLeDiff, ↓reduceIte, reduceCtorEq, Z7, Q6, SOp.rd, SI.rd, SX.rd, rdL, rdO, rdP, Q5, Q4, Q2, Q8, Q7, Z0, implies_true, forall_const, forall_eq, ne_eq, exists_eq_right_right, exists_eq_right, exists_eq_left, exists_eq_left', Q9, Z3, Z8, Z6, Z4, J4, J5, n1, n2])
 exact ⟨_, Sub.refl _, r1, hr1.2, rfl, by simp [upd, n1], (((Sub.refl h).upd hr0).upd hr1.2).upd hr0⟩
structure Bk (h0 h : J1) (r4 rN : Nat) (d : HDoc) (sl : Nat -> AVal) (path : List Int) (pa : AVal) : Prop where
 dw : Dw [r4] h0 h rN d sl
 r4n : h0 r4 = none
 doc : h r4 = some ⟨.t 39, 2, [[.osl rN 6 0 d.nodes.length, .bool d.quirks]]⟩
 pt : OwnS h 3 1 (path.map Z8) pa
 pm : Mut pa
 pn : ∀ r, Y7 pa = some r -> h0 r = none /\ r ≠ r4 /\ r ≠ rN /\ ∀ k, k < 2 * d.nodes.length -> Y7 (sl k) ≠ some r
 live : ∀ i, i < d.nodes.length -> Mut (sl (2 * i + 1))
theorem uq_sz : ∀ (n : Nat) (t : List UInt8), t.length <= n -> ∀ x r, uqL t = some (x, r) -> x.length + r.length < t.length
 | _, [], _, x, r, h => by cases h
 | 0, c :: t, hn, _, _, _ => by simp at hn
 | n + 1, c :: t, hn, x, r, h => by
  simp only [List.length_cons] at hn ⊢
  by_cases h1 : c = 34
  ·subst h1; rw [uq_end] at h; cases h; simp
  ·by_cases h2 : c ≠ 92 \/ t.length < 2
   ·rw [uq_other h1 h2, Option.map_eq_some_iff] at h
    obtain ⟨⟨y, z⟩, hy, he⟩ := h
    cases he
    have := uq_sz n t (by omega) y z hy
    show y.length + 1 + z.length < _
    omega
   ·have h92 : c = 92 := Classical.byContradiction fun h => h2 (.inl h)
    subst h92
    match t, h2, h, hn with
    | [], h2, _, _ => exact absurd (.inr (by simp)) h2
    | [a], h2, _, _ => exact absurd (.inr (by simp)) h2
    | a :: b :: u, _, h, hn =>
     rw [uq_pair, Option.map_eq_some_iff] at h
     obtain ⟨⟨y, z⟩, hy, he⟩ := h
     cases he
     simp only [List.length_cons] at hn ⊢
     have := uq_sz n u (by omega) y z hy
     show y.length + 1 + z.length < _
     omega
theorem inq_sz {t x r : List UInt8} (h : inq uqL t = some (x, r)) : x.length + r.length < t.length := by
 cases t with
 | nil => cases h
 | cons c t =>
  unfold inq at h
  simp only at h
  split at h
  ·have := uq_sz _ t (Nat.le_refl _) x r h
   simp only [List.length_cons]; omega
  ·cases h
theorem fstQ_sz (t : List UInt8) : (fstQ (inq uqL t)).length <= t.length := by
 cases h : inq uqL t with
 | none => simp [fstQ]
 | some q => have := inq_sz (t := t) (x := q.1) (r := q.2) (by rw [h]); show q.1.length <= _; omega
theorem ats_sz : ∀ (f : Nat) (u : List UInt8), (atsP f u).length <= u.length + 1 /\ ∀ a ∈ atsP f u, a.name.length <= u.length /\ a.value.length <= u.length
 | 0, u => ⟨by simp [atsP], fun a ha => by cases ha⟩
 | f + 1, u => by
  have hl := cutB_len 61 u
  cases hq : inq uqL ((Y8 61 u).2.getD []) with
  | none => rw [atsP_off hq]; exact ⟨by simp, fun a ha => by cases ha⟩
  | some q =>
   obtain ⟨x, r⟩ := q
   have hz := inq_sz hq
   have hl3 := cutB_len 32 r
   rw [atsP_on hq]
   have ih : (atsO f (Y8 32 r).2).length <= r.length /\ ∀ a ∈ atsO f (Y8 32 r).2, a.name.length <= r.length /\ a.value.length <= r.length := by
    cases hc : (Y8 32 r).2 with
    | none => exact ⟨by simp [atsO], fun a ha => by cases ha⟩
    | some u' =>
     have h1 := hl3.2.2 u' hc
     obtain ⟨g1, g2⟩ := ats_sz f u'
     exact ⟨by show (atsP f u').length <= _; omega, fun a ha => by have := g2 a ha; omega⟩
   refine ⟨by rw [List.length_cons]; omega, fun a ha => ?_⟩
   rcases List.mem_cons.1 ha with rfl | ha
   ·exact ⟨hl.1, by show x.length <= _; omega⟩
   ·have := ih.2 a ha; omega
theorem nodeU_sm {t : List UInt8} (h : t.length <= 1000000) : NodeSm (nodeU t) := by
 have z0 := fstQ_sz t
 have z1 := fstQ_sz (t.drop 1)
 have hd : (t.drop 1).length <= t.length := by rw [List.length_drop]; omega
 have hl := cutB_len 32 t
 unfold nodeU
 split
 ·exact ⟨by show (fstQ _).length <= _; omega, by simp, (fun a ha => by cases ha), by simp, by simp⟩
 split
 ·exact ⟨by simp, by simp, (fun a ha => by cases ha), by show (fstQ _).length <= _; omega, by simp⟩
 split
 ·exact ⟨by simp, by simp, (fun a ha => by cases ha), by show (fstQ _).length <= _; omega, by simp⟩
 ·have ih : (atsO (t.length + 1) (Y8 32 t).2).length <= t.length + 1 /\ ∀ a ∈ atsO (t.length + 1) (Y8 32 t).2, a.name.length <= t.length /\ a.value.length <= t.length := by
   cases hc : (Y8 32 t).2 with
   | none => exact ⟨by simp [atsO], fun a ha => by cases ha⟩
   | some u' =>
    have h1 := hl.2.2 u' hc
    obtain ⟨g1, g2⟩ := ats_sz (t.length + 1) u'
    exact ⟨by show (atsP _ u').length <= _; omega, fun a ha => by have := g2 a ha; omega⟩
  exact ⟨by show (Y8 32 t).1.length <= _; omega, by show (atsO _ _).length <= _; omega, fun a ha => by have := ih.2 a ha; omega, by simp, by simp⟩
def SzB (d : HDoc) : Prop := 0 < d.nodes.length /\ d.nodes.length <= 201 /\ ∀ m, m < d.nodes.length -> NodeSm (nth d.nodes m) /\ (nth d.nodes m).kids.length <= d.nodes.length
theorem SzB.sm {d : HDoc} (S : SzB d) : DocSm d := ⟨by have := S.2.1; omega, fun x hx => by obtain ⟨j, hj, rfl⟩ := mem_nth hx; exact (S.2.2 j hj).1⟩
theorem SzB.kid {d : HDoc} (S : SzB d) {p : Int} (hp : p.toNat < d.nodes.length) {x : HNode} (hx : NodeSm x) (hk : x.kids = []) (h : d.nodes.length <= 200) : SzB (addKid d p x) := by
 refine ⟨by rw [X7]; omega, by rw [X7]; omega, fun m hm => ?_⟩
 rw [X7] at hm ⊢
 by_cases hl : m < d.nodes.length
 ·obtain ⟨h1, h2⟩ := S.2.2 m hl
  rw [addKid_old x hp hl]
  split
  ·rename_i e
   subst e
   have h1' : NodeSm (nd d p) := h1
   have h2' : (nd d p).kids.length <= d.nodes.length := h2
   exact ⟨⟨h1'.name, h1'.attrs, h1'.each, h1'.text, by show ((nd d p).kids ++ _).length <= _; rw [List.length_append, List.length_singleton]; omega⟩, by show ((nd d p).kids ++ _).length <= _; rw [List.length_append, List.length_singleton]; omega⟩
  ·exact ⟨h1, by omega⟩
 ·obtain rfl : m = d.nodes.length := by omega
  rw [addKid_new]
  exact ⟨⟨hx.name, hx.attrs, hx.each, hx.text, hx.kids⟩, by show x.kids.length <= _; rw [hk]; simp⟩
def emptyD : HDoc := ⟨[], false⟩
def backR (s : List UInt8) (D : HDoc) : HDoc × Int := if docE D = 0 /\ treeM D = s then (D, 0) else (emptyD, 4)
def backS (s : List UInt8) : Option HDoc -> HDoc × Int
 | none => (emptyD, 4)
 | some D => backR s D
theorem lend {P : PG} {f : Nat} {args args' : List AVal} {v : AVal} {h : J1} (hp : PCalls P f args' v) (hs : Scal v) (hv : F2 (Vw h) args args') : DCalls P f args h fun r h' => r = v /\ h' = h := hp.borrow hs hv.len hv.get
def c65_s6 : SCode := (.seq (.seq (.reg [o 90 (.ld 2 true (.t 4)), o 91 (.call (.c (.fn 57 [] [])) [.t 90]), o 92 (.bin .neq (.t 91) (.c (.int .i64 0))), o 93 (.mv (.t 92)), ⟨some 94, .ld 2 true (.t 4), some (93, false)⟩, ⟨some 95, .call (.c (.fn 59 [] [])) [.t 94], some (93, false)⟩, ⟨some 96, .mv (.t 0), some (93, false)⟩, ⟨some 97, .bin .neq (.t 95) (.t 96), some (93, false)⟩, o 98 (.pick (.t 93) (.c (.bool true)) (.t 97))]) (.cond (.t 98) (.seq (.reg [o 99 (.bld [.emp, .bool false] []), ⟨none, .st 2 (.t 2) (.t 99), none⟩, o 3 (.mv (.c (.int .i64 4)))]) .ret) .skip)) (.seq (.reg [o 100 (.ld 2 true (.t 4)), ⟨none, .st 2 (.t 2) (.t 100), none⟩, o 3 (.mv (.c (.int .i64 0)))]) .ret))
def c65_s5 : SCode := (.seq (.block 0 (.loop (.seq (.seq (.reg [o 24 (.mv (.t 5)), o 25 (.bin .neq (.t 24) (.c (.str []))), o 26 (.mv (.t 25)), ⟨some 27, .fldA 0 (.t 4), some (26, true)⟩, ⟨some 28, .ld 1 false (.t 27), some (26, true)⟩, ⟨some 29, .len (.t 28), some (26, true)⟩, ⟨some 30, .bin .leq (.t 29) (.c (.int .i64 200)), some (26, true)⟩, o 31 (.pick (.t 26) (.t 30) (.c (.bool false)))]) (.cond (.t 31) .skip (.exit 0))) (.block 1 (.seq (.reg [o 33 (.mv (.t 5)), o 34 (.pcall 90 [.t 33, .c (.str [10])]), o 32 (.mv (.t 34)), o 35 (.ext (.t 32) 0), o 36 (.ext (.t 32) 1), o 37 (.ext (.t 32) 2), o 7 (.mv (.t 35)), o 8 (.mv (.t 36)), o 9 (.mv (.t 37))]) (.seq (.reg [o 38 (.mv (.t 8)), o 5 (.mv (.t 38))]) (.seq (.reg [o 39 (.mv (.t 7)), o 40 (.pcall 137 [.t 39, .c (.str [32])]), o 10 (.mv (.t 40))]) (.seq (.reg [o 41 (.mv (.t 7)), o 42 (.lenS (.t 41)), o 43 (.mv (.t 10)), o 44 (.lenS (.t 43)), o 45 (.bin .sub (.t 42) (.t 44)), o 11 (.mv (.t 45))]) (.seq (.seq (.reg [o 46 (.mv (.t 11)), o 47 (.mv (.t 6)), o 48 (.len (.t 47)), o 49 (.bin .geq (.t 46) (.t 48))]) (.cond (.t 49) (.seq (.reg [o 50 (.bld [.emp, .bool false] []), ⟨none, .st 2 (.t 2) (.t 50), none⟩, o 3 (.mv (.c (.int .i64 4)))]) .ret) .skip)) (.seq (.dreg [(o 51 (.mv (.t 10)), none), (o 52 (.pcall 138 [.t 51]), none), (o 53 (.fldA 0 (.t 4)), none), (o 54 (.ld 1 false (.t 53)), none), (o 55 (.len (.t 54)), none), (o 12 (.new 101 6 [.int .i64 0, .str [], .emp, .str [], .int .i64 0, .emp]), (some [])), (⟨none, .st 6 (.t 12) (.t 52), none⟩, (some [])), (o 13 (.mv (.t 55)), none)]) (.seq (.reg [o 56 (.mv (.t 6)), o 57 (.mv (.t 11)), o 58 (.idxA 1 (.t 56) (.t 57)), o 59 (.ld 1 false (.t 58)), o 60 (.fldA 4 (.t 12)), ⟨none, .st 1 (.t 60) (.t 59), none⟩]) (.seq (.dreg [(o 61 (.fldA 0 (.t 4)), none), (o 62 (.ld 1 false (.t 61)), none), (o 63 (.fldA 4 (.t 12)), none), (o 64 (.ld 1 false (.t 63)), none), (o 65 (.fldA 0 (.t 4)), none), (o 66 (.ld 1 false (.t 65)), none), (o 67 (.fldA 4 (.t 12)), none), (o 68 (.ld 1 false (.t 67)), none), (o 69 (.idxA 6 (.t 66) (.t 68)), none), (o 70 (.fldA 5 (.t 69)), none), (o 71 (.ld 1 false (.t 70)), none), (o 72 (.mv (.t 13)), none), (o 73 (.bldF 3 1 [.t 72]), none), (o 74 (.app 3 1 8 (.t 71) (.t 73)), (some [71, 66, 68])), (o 75 (.idxA 6 (.t 62) (.t 64)), none), (o 76 (.fldA 5 (.t 75)), none), (⟨none, .st 1 (.t 76) (.t 74), none⟩, (some [62, 64, 71, 66, 68]))]) (.seq (.reg [o 77 (.fldA 0 (.t 4)), o 78 (.ld 1 false (.t 77)), o 79 (.ld 6 true (.t 12)), o 80 (.bldF 101 6 [.t 79]), o 81 (.app 101 6 96 (.t 78) (.t 80)), o 82 (.fldA 0 (.t 4)), ⟨none, .st 1 (.t 82) (.t 81), none⟩]) (.reg [o 83 (.mv (.t 6)), o 84 (.mv (.t 11)), o 85 (.bin .add (.t 84) (.c (.int .i64 1))), o 86 (.slA 1 (.t 83) none (some (.t 85))), o 87 (.mv (.t 13)), o 88 (.bldF 3 1 [.t 87]), o 89 (.app 3 1 8 (.t 86) (.t 88)), o 6 (.mv (.t 89))])))))))))))))) c65_s6)
def c65 : SFun := ⟨.seq (.reg [o 2 (.new 39 2 [.emp, .bool false]), o 3 (.mv (.c (.int .i64 0)))]) (.seq (.reg [o 14 (.call (.c (.fn 136 [] [])) []), o 4 (.new 39 2 [.emp, .bool false]), ⟨none, .st 2 (.t 4) (.t 14), none⟩]) (.seq (.reg [o 15 (.mv (.t 0)), o 5 (.mv (.t 15))]) (.seq (.seq (.reg [o 16 (.mv (.t 0)), o 17 (.pcall 120 [.t 16, .c (.str [126, 10])]), o 18 (.fldA 1 (.t 4)), ⟨none, .st 1 (.t 18) (.t 17), none⟩]) (.seq (.reg [o 19 (.fldA 1 (.t 4)), o 20 (.ld 1 false (.t 19))]) (.cond (.t 20) (.reg [o 21 (.mv (.t 0)), o 22 (.slS (.t 21) (some (.c (.int .i64 2))) none), o 5 (.mv (.t 22))]) .skip))) (.seq (.reg [o 23 (.bldR 3 1 [.c (.int .i64 0)]), o 6 (.mv (.t 23))]) c65_s5)))), [.cell 2 2 true, .tmp 3]⟩
theorem hc65 : X8 Tryz.prog {pure := [120, 90, 137, 138], how := [(23, 2)]} Tryz.f65 = some c65 := by kernel_rfl
def BackK (h0 : J1) (D : HDoc) (e : Int) (a : AVal) (h' : J1) : Prop := Sim.Sub h0 h' /\ VwT (newH h0 h') a (.tup [.agg (J4 D), Y0 e])
theorem vw_empty (h : J1) : VwT h (.tup [.agg [.emp, .bool false], Y0 4]) (.tup [.agg (J4 emptyD), Y0 4]) :=
 .tup' (.cons (.agg' (.cons .emp (.cons (.refl _) .nil))) (.cons (.refl _) .nil))
theorem back_end {h0 h : J1} {r2 r4 rN : Nat} {D : HDoc} {sl' : Nat -> AVal} {path : List Int} {pa : AVal} (h2n : h0 r2 = none)
  (B : Bk (upd h0 r2 (some ⟨.t 39, 2, [[.emp, .bool false]]⟩)) h r4 rN D sl' path pa) (S : SzB D) (s : List UInt8) {e : Env} (e0 : e 0 = .str s) (e2 : e 2 = .vp r2 0) (e4 : e 4 = .vp r4 0) :
  vc (Pg G) c65_s6 (retK [.cell 2 2 true, .tmp 3] (BackK h0 (backR s D).1 (backR s D).2)) e h := by
 have hC := check_ok (G := G) D S.sm
 have hv : F2 (Vw h) [.agg [.osl rN 6 0 D.nodes.length, .bool D.quirks]] [.agg (J4 D)] := .cons (.agg' (.cons B.dw.vw (.cons (.refl _) .nil))) .nil
 have L1 := lend hC (.int _ _) hv
 have g4 := B.doc
 have g2 : h r2 = some ⟨.t 39, 2, [[.emp, .bool false]]⟩ := B.dw.sub _ _ (J5 _ _ _)
 have n1 : ¬ r4 = r2 := fun q => by have := B.r4n; rw [q, J5] at this; cases this
 have n2 : ¬ r2 = r4 := fun q => n1 q.symm
 have S0 : Sim.Sub h0 h := fun t o ht => B.dw.sub t o (by rw [Y3 _ _ (fun q => by rw [q, h2n] at ht; cases ht)]; exact ht)
 unfold backR
 by_cases hd : docE D = 0
 ·have V := (docE_iff D).1 hd
  have L2 := lend (tree_ok (G := G) D V) (.str _) hv
  have b1 : (docE D != 0) = false := by rw [hd]; rfl
  by_cases ht : treeM D = s
  ·rw [if_pos ⟨hd, ht⟩]
   have b2 : (treeM D != s) = false := by rw [ht]; simp
   skip
   simp -dsimp -implicitDefEqProofs (disch := omega) only [↓Q0 26, ↓Q1 26, ↓Q0 93, ↓Q1 93, VCA, Z1, ↓Q3, Nat.reduceEqDiff, Nat.reduceBEq, Nat.reduceAdd, Nat.reduceSub, Nat.reduceMul, Nat.reduceLT, Nat.reduceLeDiff, ↓reduceIte, reduceCtorEq, Z7, Q6, SOp.rd, SI.rd, SX.rd, rdL, rdO, rdP, Q5, Q4, Q2, Q8, Q7, Z0, implies_true, forall_const, forall_eq, ne_eq, exists_eq_right_right, exists_eq_right, exists_eq_left, exists_eq_left', Q9, Z3, Z8, Z6, Z4, c65_s6, e0, e2, e4, g4]
   refine DCalls.of L1 ?_
   rintro a hh ⟨rfl, rfl⟩
   repeat' (first | ((with_reducible refine brC (fun _ => ?_) fun _ => ?_) <;> try (exfalso; omega)) | ((refine DCalls.of L2 ?_; rintro a hh ⟨rfl, rfl⟩)) | (with_reducible refine And.intro ?_ ?_; · omega) | simp -dsimp -implicitDefEqProofs (disch := omega) only [↓Q0 26, ↓Q1 26, ↓Q0 93, ↓Q1 93, VCA, Z1, ↓Q3, Nat.reduceEqDiff, Nat.reduceBEq, Nat.reduceAdd, Nat.reduceSub, Nat.reduceMul, Nat.reduceLT, Nat.reduceLeDiff, ↓reduceIte, reduceCtorEq, Z7, Q6, SOp.rd, SI.rd, SX.rd, rdL, rdO, rdP, Q5, Q4, Q2, Q8, Q7, Z0, implies_true, forall_const, forall_eq, ne_eq, exists_eq_right_right, exists_eq_right, exists_eq_left, exists_eq_left', Q9, Z3, Z8, Z6, Z4, e0, e2, e4, g4, g2, b1, b2, J5, n1, n2])
   have W := ((B.dw.less (X' := []) (fun t ht => by cases ht)).beside (r := r2) (Sub.refl h0 |>.upd h2n) (J5 _ _ _) h2n (by simp) ⟨39, 2, [[.osl rN 6 0 D.nodes.length, .bool D.quirks]]⟩).new'.vw
   exact ⟨_, Sub.refl _, S0.upd h2n, .tup' (.cons (.agg' (.cons W (.cons (.refl _) .nil))) (.cons (.refl _) .nil))⟩
  ·rw [if_neg fun q => ht q.2]
   have b2 : (treeM D != s) = true := by simpa using ht
   skip
   simp -dsimp -implicitDefEqProofs (disch := omega) only [↓Q0 26, ↓Q1 26, ↓Q0 93, ↓Q1 93, VCA, Z1, ↓Q3, Nat.reduceEqDiff, Nat.reduceBEq, Nat.reduceAdd, Nat.reduceSub, Nat.reduceMul, Nat.reduceLT, Nat.reduceLeDiff, ↓reduceIte, reduceCtorEq, Z7, Q6, SOp.rd, SI.rd, SX.rd, rdL, rdO, rdP, Q5, Q4, Q2, Q8, Q7, Z0, implies_true, forall_const, forall_eq, ne_eq, exists_eq_right_right, exists_eq_right, exists_eq_left, exists_eq_left', Q9, Z3, Z8, Z6, Z4, c65_s6, e0, e2, e4, g4]
   refine DCalls.of L1 ?_
   rintro a hh ⟨rfl, rfl⟩
   repeat' (first | ((with_reducible refine brC (fun _ => ?_) fun _ => ?_) <;> try (exfalso; omega)) | ((refine DCalls.of L2 ?_; rintro a hh ⟨rfl, rfl⟩)) | (with_reducible refine And.intro ?_ ?_; · omega) | simp -dsimp -implicitDefEqProofs (disch := omega) only [↓Q0 26, ↓Q1 26, ↓Q0 93, ↓Q1 93, VCA, Z1, ↓Q3, Nat.reduceEqDiff, Nat.reduceBEq, Nat.reduceAdd, Nat.reduceSub, Nat.reduceMul, Nat.reduceLT, Nat.reduceLeDiff, ↓reduceIte, reduceCtorEq, Z7, Q6, SOp.rd, SI.rd, SX.rd, rdL, rdO, rdP, Q5, Q4, Q2, Q8, Q7, Z0, implies_true, forall_const, forall_eq, ne_eq, exists_eq_right_right, exists_eq_right, exists_eq_left, exists_eq_left', Q9, Z3, Z8, Z6, Z4, e0, e2, e4, g4, g2, b1, b2, J5, n1, n2])
   exact ⟨_, Sub.refl _, S0.upd h2n, vw_empty _⟩
 ·rw [if_neg fun q => hd q.1]
  have b1 : (docE D != 0) = true := by simpa using hd
  skip
  simp -dsimp -implicitDefEqProofs (disch := omega) only [↓Q0 26, ↓Q1 26, ↓Q0 93, ↓Q1 93, VCA, Z1, ↓Q3, Nat.reduceEqDiff, Nat.reduceBEq, Nat.reduceAdd, Nat.reduceSub, Nat.reduceMul, Nat.reduceLT, Nat.reduceLeDiff, ↓reduceIte, reduceCtorEq, Z7, Q6, SOp.rd, SI.rd, SX.rd, rdL, rdO, rdP, Q5, Q4, Q2, Q8, Q7, Z0, implies_true, forall_const, forall_eq, ne_eq, exists_eq_right_right, exists_eq_right, exists_eq_left, exists_eq_left', Q9, Z3, Z8, Z6, Z4, c65_s6, e0, e2, e4, g4]
  refine DCalls.of L1 ?_
  rintro a hh ⟨rfl, rfl⟩
  repeat' (first | ((with_reducible refine brC (fun _ => ?_) fun _ => ?_) <;> try (exfalso; omega)) | (with_reducible refine And.intro ?_ ?_; · omega) | simp -dsimp -implicitDefEqProofs (disch := omega) only [↓Q0 26, ↓Q1 26, ↓Q0 93, ↓Q1 93, VCA, Z1, ↓Q3, Nat.reduceEqDiff, Nat.reduceBEq, Nat.reduceAdd, Nat.reduceSub, Nat.reduceMul, Nat.reduceLT, Nat.reduceLeDiff, ↓reduceIte, reduceCtorEq, Z7, Q6, SOp.rd, SI.rd, SX.rd, rdL, rdO, rdP, Q5, Q4, Q2, Q8, Q7, Z0, implies_true, forall_const, forall_eq, ne_eq, exists_eq_right_right, exists_eq_right, exists_eq_left, exists_eq_left', Q9, Z3, Z8, Z6, Z4, e0, e2, e4, g4, g2, b1, J5, n1, n2])
  exact ⟨_, Sub.refl _, S0.upd h2n, vw_empty _⟩
theorem Bk.r2v {h0 h : J1} {r2 r4 rN : Nat} {o : AObj} {D : HDoc} {sl' : Nat -> AVal} {path : List Int} {pa : AVal} (B : Bk (upd h0 r2 (some o)) h r4 rN D sl' path pa) : h r2 = some o := B.dw.sub _ _ (J5 _ _ _)
theorem Dw.frame {X : List Nat} {h0 h h2 : J1} {rN rP : Nat} {d : HDoc} {sl : Nat -> AVal} (E : Dw X h0 h rN d sl) (kp : ∀ r o, h r = some o -> r ≠ rP -> h2 r = some o) (p0 : h0 rP = none) (pN : rP ≠ rN) (pX : rP ∉ X) (ps : ∀ k, k < 2 * d.nodes.length -> Y7 (sl k) ≠ some rP) : Dw X h0 h2 rN d sl := by
 refine ⟨fun t o ht => kp t o (E.sub t o ht) (fun q => by rw [q, p0] at ht; cases ht), kp _ _ E.nodes (fun q => pN q.symm), E.new, fun i hi => ?_, E.fresh, E.sep, fun r hr => ?_⟩
 ·obtain ⟨g1, g2⟩ := E.own i hi
  exact ⟨g1.keep fun r o hr ho => kp r o ho (fun q => ps _ (by omega) (q ▸ hr)), g2.keep fun r o hr ho => kp r o ho (fun q => ps _ (by omega) (q ▸ hr))⟩
 ·obtain ⟨o, ho⟩ := E.keep r hr
  exact ⟨o, kp r o ho (fun q => pX (q ▸ hr))⟩
def LoopI (h0 : J1) (r2 r4 : Nat) (s : List UInt8) (T : Option HDoc) (m : Nat) (e : Env) (h : J1) : Prop :=
 ∃ (d : HDoc) (sl' : Nat -> AVal) (rN : Nat) (path : List Int) (pa : AVal) (rest : List UInt8) (f : Nat), m = rest.length /\ rest.length < f /\ rest.length <= 1000000 /\ backF f d path rest = T /\ PathIn path d.nodes.length /\ 0 < path.length /\ path.length <= d.nodes.length /\ SzB d /\
  e 0 = .str s /\ e 2 = .vp r2 0 /\ e 3 = Y0 0 /\ e 4 = .vp r4 0 /\ e 5 = .str rest /\ e 6 = pa /\ Bk (upd h0 r2 (some ⟨.t 39, 2, [[.emp, .bool false]]⟩)) h r4 rN d sl' path pa
theorem back_loop (hG : MaxLenOK G) {h0 h : J1} {r2 r4 : Nat} (h2n : h0 r2 = none) (s : List UInt8) (T : Option HDoc) {m : Nat} {e : Env} (hI : LoopI h0 r2 r4 s T m e h) :
  vc (Pg G) c65_s5 (retK [.cell 2 2 true, .tmp 3] (BackK h0 (backS s T).1 (backS s T).2)) e h := by
 skip
 simp -dsimp -implicitDefEqProofs (disch := omega) only [↓Q0 26, ↓Q1 26, ↓Q0 93, ↓Q1 93, VCA, Z1, ↓Q3, Nat.reduceEqDiff, Nat.reduceBEq, Nat.reduceAdd, Nat.reduceSub, Nat.reduceMul, Nat.reduceLT, Nat.reduceLeDiff, ↓reduceIte, reduceCtorEq, Z7, Q6, SOp.rd, SI.rd, SX.rd, rdL, rdO, rdP, Q5, Q4, Q2, Q8, Q7, Z0, implies_true, forall_const, forall_eq, ne_eq, exists_eq_right_right, exists_eq_right, exists_eq_left, exists_eq_left', Q9, Z3, Z8, Z6, Z4, c65_s5]
 refine LoopVC.intro (LoopI h0 r2 r4 s T) m hI ?_
 rintro m e h ⟨d, sl', rN, path, pa, rest, f, rfl, hf, hr6, hT, hP, hp0, hpl, S, e0, e2, e3, e4, e5, e6, B⟩
 obtain ⟨f, rfl⟩ : ∃ g, f = g + 1 := ⟨f - 1, by omega⟩
 have g2 := B.r2v
 have g4 := B.doc
 have gN := B.dw.nodes
 have dl := S.2.1
 obtain ⟨b, hb⟩ : ∃ b, b = AVal.osl rN 6 0 d.nodes.length := ⟨_, rfl⟩
 have g4o := g4
 rw [<- hb] at g4
 have bL : aLen b = Y0 d.nodes.length := by rw [hb]; rfl
 have bL2 : okLen b = True := by rw [hb]; rfl
 have bV : isV b = true := by rw [hb]; rfl
 have bC : cellsOf b = [b] := by rw [hb]; rfl
 have bI : ∀ q : Int, okIdxA 6 b (.int .i64 q) = (0 <= q /\ q < (d.nodes.length : Int)) := fun q => by rw [hb, okIdxA_osl]; simp
 have bI2 : ∀ q : Int, aIdxA b (.int .i64 q) = .ptr rN q.toNat 0 := fun q => by rw [hb, aIdxA_osl, Nat.zero_add]
 unfold backF at hT
 by_cases hr : rest = [] \/ 200 < d.nodes.length
 ·rw [if_pos hr] at hT
  subst hT
  have en := fun e' (q0 : e' 0 = .str s) (q2 : e' 2 = .vp r2 0) (q4 : e' 4 = .vp r4 0) => back_end (G := G) h2n B S s (e := e') q0 q2 q4
  by_cases hr1 : rest = []
  ·have b1 : (rest != []) = false := by rw [hr1]; rfl
   repeat' (first | ((with_reducible refine brC (fun _ => ?_) fun _ => ?_) <;> try (exfalso; omega)) | (with_reducible refine And.intro ?_ ?_; · omega) | simp -dsimp -implicitDefEqProofs (disch := omega) only [↓Q0 26, ↓Q1 26, ↓Q0 93, ↓Q1 93, VCA, Z1, ↓Q3, Nat.reduceEqDiff, Nat.reduceBEq, Nat.reduceAdd, Nat.reduceSub, Nat.reduceMul, Nat.reduceLT, Nat.reduceLeDiff, ↓reduceIte, reduceCtorEq, Z7, Q6, SOp.rd, SI.rd, SX.rd, rdL, rdO, rdP, Q5, Q4, Q2, Q8, Q7, Z0, implies_true, forall_const, forall_eq, ne_eq, exists_eq_right_right, exists_eq_right, exists_eq_left, exists_eq_left', Q9, Z3, Z8, Z6, Z4, e0, e2, e3, e4, e5, e6, g2, g4, bL, bL2, bV, bC, b1])
   exact en _ (by simp [upd, e0]) (by simp [upd, e2]) (by simp [upd, e4])
  ·have hr2 := hr.resolve_left hr1
   have b1 : (rest != []) = true := by simpa using hr1
   have b2 : decide ((d.nodes.length : Int) <= 200) = false := decide_eq_false (by omega)
   repeat' (first | ((with_reducible refine brC (fun _ => ?_) fun _ => ?_) <;> try (exfalso; omega)) | (with_reducible refine And.intro ?_ ?_; · omega) | simp -dsimp -implicitDefEqProofs (disch := omega) only [↓Q0 26, ↓Q1 26, ↓Q0 93, ↓Q1 93, VCA, Z1, ↓Q3, Nat.reduceEqDiff, Nat.reduceBEq, Nat.reduceAdd, Nat.reduceSub, Nat.reduceMul, Nat.reduceLT, Nat.reduceLeDiff, ↓reduceIte, reduceCtorEq, Z7, Q6, SOp.rd, SI.rd, SX.rd, rdL, rdO, rdP, Q5, Q4, Q2, Q8, Q7, Z0, implies_true, forall_const, forall_eq, ne_eq, exists_eq_right_right, exists_eq_right, exists_eq_left, exists_eq_left', Q9, Z3, Z8, Z6, Z4, e0, e2, e3, e4, e5, e6, g2, g4, bL, bL2, bV, bC, b1, b2])
   exact en _ (by simp [upd, e0]) (by simp [upd, e2]) (by simp [upd, e4])
 ·rw [if_neg hr] at hT
  have hr1 : rest ≠ [] := fun q => hr (.inl q)
  have hr2 : d.nodes.length <= 200 := by omega
  have b1 : (rest != []) = true := by simpa using hr1
  have b2 : decide ((d.nodes.length : Int) <= 200) = true := decide_eq_true (by omega)
  have cK := cut_ok (G := G) hG rest [10] (by omega)
  rw [cut_cutB] at cK
  have hcl := cutB_len 10 rest
  have hcr := cut_len10 hr1
  obtain ⟨one, hone⟩ : ∃ one, (Y8 10 rest).1 = one := ⟨_, rfl⟩
  obtain ⟨more, hmore⟩ : ∃ more, (Y8 10 rest).2.getD [] = more := ⟨_, rfl⟩
  rw [hone, hmore] at cK hT
  rw [hone, hmore] at hcl
  rw [hmore] at hcr
  have cT := trimLeft_ok (G := G) one 32 (by decide)
  have hin : one.dropWhile (· == 32) = innerOf one := rfl
  rw [hin] at cT
  have hil : (innerOf one).length <= one.length := (List.dropWhile_sublist _).length_le
  obtain ⟨inner, hinner⟩ : ∃ inner, innerOf one = inner := ⟨_, rfl⟩
  obtain ⟨deep, hdeep⟩ : ∃ deep, deepOf one = deep := ⟨_, rfl⟩
  have hde : one.length - inner.length = deep := by rw [<- hdeep, <- hinner]; rfl
  rw [hinner] at cT hT hil
  rw [hdeep] at hT
  have cN := snode_ok (G := G) hG inner (by omega)
  have hdI : (one.length : Int) - inner.length = deep := by omega
  have pl := B.pt.len
  rw [List.length_map] at pl
  by_cases hdp : path.length <= deep
  ·rw [if_pos hdp] at hT
   subst hT
   repeat' (first | ((with_reducible refine brC (fun _ => ?_) fun _ => ?_) <;> try (exfalso; omega)) | (with_reducible apply pcallE.of; · exact cK) | (with_reducible apply pcallE.of; · exact cT) | (with_reducible refine And.intro ?_ ?_; · omega) | simp -dsimp -implicitDefEqProofs (disch := omega) only [↓Q0 26, ↓Q1 26, ↓Q0 93, ↓Q1 93, VCA, Z1, ↓Q3, Nat.reduceEqDiff, Nat.reduceBEq, Nat.reduceAdd, Nat.reduceSub, Nat.reduceMul, Nat.reduceLT, Nat.reduceLeDiff, ↓reduceIte, reduceCtorEq, Z7, Q6, SOp.rd, SI.rd, SX.rd, rdL, rdO, rdP, Q5, Q4, Q2, Q8, Q7, Z0, implies_true, forall_const, forall_eq, ne_eq, exists_eq_right_right, exists_eq_right, exists_eq_left, exists_eq_left', Q9, Z3, Z8, Z6, Z4, e0, e2, e3, e4, e5, e6, g2, g4, bL, bL2, bV, bC, b1, b2, hdI, pl.1, pl.2])
   have S0 : Sim.Sub h0 h := fun t o ht => B.dw.sub t o (by rw [Y3 _ _ (fun q => by rw [q, h2n] at ht; cases ht)]; exact ht)
   exact ⟨_, Sub.refl _, S0.upd h2n, vw_empty _⟩
  ·rw [if_neg hdp] at hT
   repeat' (first | ((with_reducible refine brC (fun _ => ?_) fun _ => ?_) <;> try (exfalso; omega)) | (with_reducible apply pcallE.of; · exact cK) | (with_reducible apply pcallE.of; · exact cT) | (with_reducible apply pcallE.of; · exact cN) | (with_reducible refine And.intro ?_ ?_; · omega) | simp -dsimp -implicitDefEqProofs (disch := omega) only [↓Q0 26, ↓Q1 26, ↓Q0 93, ↓Q1 93, VCA, Z1, ↓Q3, Nat.reduceEqDiff, Nat.reduceBEq, Nat.reduceAdd, Nat.reduceSub, Nat.reduceMul, Nat.reduceLT, Nat.reduceLeDiff, ↓reduceIte, reduceCtorEq, Z7, Q6, SOp.rd, SI.rd, SX.rd, rdL, rdO, rdP, Q5, Q4, Q2, Q8, Q7, Z0, implies_true, forall_const, forall_eq, ne_eq, exists_eq_right_right, exists_eq_right, exists_eq_left, exists_eq_left', Q9, Z3, Z8, Z6, Z4, e0, e2, e3, e4, e5, e6, g2, g4, bL, bL2, bV, bC, b1, b2, hdI, pl.1, pl.2])
   intro r12 hr12
   obtain ⟨x, hx⟩ : ∃ x, nodeU inner = x := ⟨_, rfl⟩
   have hxk : x.kids = [] := hx ▸ nodeU_kids inner
   have hxs : NodeSm x := by rw [<- hx]; exact nodeU_sm (by omega)
   rw [hx] at hT
   obtain ⟨p, hp⟩ : ∃ p, nth path deep = p := ⟨_, rfl⟩
   have hdl : deep < path.length := by omega
   have hpi := hP p (hp ▸ X9 hdl)
   rw [hp] at hT
   have hpn : p.toNat < d.nodes.length := by omega
   rcases B.pt.live B.pm with ⟨q, _⟩ | ⟨rP, es, hpa, gP, hle, hes⟩
   ·exfalso
    have := congrArg List.length q
    rw [List.length_map] at this
    change path.length = 0 at this
    omega
   rw [List.length_map] at hpa hle hes
   obtain ⟨z1, z2, z3, z4⟩ := B.pn rP (by rw [hpa]; rfl)
   have hget : es.getD deep [] = [Y0 p] := by
    have : (es.take path.length)[deep]? = (path.map Z8)[deep]? := by rw [hes]
    rw [List.getElem?_take, if_pos hdl, List.getElem?_map, nth_some hdl, hp] at this
    rw [List.getD_eq_getElem?_getD, this]; rfl
   have m4 : ¬ r4 = r12 := fun q => by rw [q, hr12] at g4; cases g4
   have m2 : ¬ r2 = r12 := fun q => by rw [q, hr12] at g2; cases g2
   have mN : ¬ rN = r12 := fun q => by rw [q, hr12] at gN; cases gN
   have mP : ¬ rP = r12 := fun q => by rw [q, hr12] at gP; cases gP
   have m4' : ¬ r12 = r4 := fun q => m4 q.symm
   have mN' : ¬ r12 = rN := fun q => mN q.symm
   have mP' : ¬ r12 = rP := fun q => mP q.symm
   have k4N : ¬ r4 = rN := fun q => B.dw.new.2 (by rw [<- q]; simp)
   have kN4 : ¬ rN = r4 := fun q => k4N q.symm
   have gi := rowsA_get (sl := sl') hpn
   have wl := rowsA_len d sl'
   have Z := rowE x
   unfold rowE rowA at *
   have td : ((deep : Int)).toNat = deep := by omega
   simp -dsimp -implicitDefEqProofs (disch := omega) only [↓Q0 26, ↓Q1 26, ↓Q0 93, ↓Q1 93, VCA, Z1, ↓Q3, Nat.reduceEqDiff, Nat.reduceBEq, Nat.reduceAdd, Nat.reduceSub, Nat.reduceMul, Nat.reduceLT, Nat.reduceLeDiff, ↓reduceIte, reduceCtorEq, Z7, Q6, SOp.rd, SI.rd, SX.rd, rdL, rdO, rdP, Q5, Q4, Q2, Q8, Q7, Z0, implies_true, forall_const, forall_eq, ne_eq, exists_eq_right_right, exists_eq_right, exists_eq_left, exists_eq_left', Q9, Z3, Z8, Z6, Z4, e0, e2, e3, e4, e5, e6, hpa, td, g2, g4, bL, bL2, bV, bC, bI, bI2, gN, gP, hget, hx, m4, m4', mN, mN', mP, mP', J5, gi, wl]
   refine ⟨by omega, by omega, hpi, hpn, ?_⟩
   obtain ⟨H, hH⟩ : ∃ H, H = upd h r12 (some ⟨.t 101, 6, [[Y0 x.kind, .str x.name, sl Z3 x.attrs, .str x.text, Y0 p, .emp]]⟩) := ⟨_, rfl⟩
   show Hd (appE 3 1 8 (sl' (2 * p.toNat + 1)) [[Y0 d.nodes.length]] (upd h r12 (some ⟨.t 101, 6, [[Y0 x.kind, .str x.name, sl Z3 x.attrs, .str x.text, Y0 p, .emp]]⟩))) _ _
   rw [<- hH]
   have S1 : Sim.Sub h H := by rw [hH]; exact (Sub.refl _).upd hr12
   have EH := B.dw.mono S1
   have H12 : H r12 = some ⟨.t 101, 6, [[Y0 x.kind, .str x.name, sl Z3 x.attrs, .str x.text, Y0 p, .emp]]⟩ := by rw [hH, J5]
   have H4 := S1 _ _ g4
   have H2 := S1 _ _ g2
   have HP := S1 _ _ gP
   have HN := EH.nodes
   have O2 := (EH.own _ hpn).2
   have M2 := B.live _ hpn
   have f2 := fun (r : Nat) (hr : Y7 (sl' (2 * p.toNat + 1)) = some r) => EH.fresh (2 * p.toNat + 1) (by omega) r hr
   have kl := (S.2.2 _ hpn).2
   refine O2.app M2 (by rw [List.length_map, List.length_singleton]; omega) (by rw [List.length_map, List.length_singleton]; omega) fun rK h3 q1 q2 q3 => ?_
   rw [List.length_map, List.length_singleton]
   have e2N : Y7 (sl' (2 * p.toNat + 1)) ≠ some rN := fun q => (f2 _ q).2.1 rfl
   have e24 : Y7 (sl' (2 * p.toNat + 1)) ≠ some r4 := fun q => (f2 _ q).2.2 (by simp)
   have e2P : Y7 (sl' (2 * p.toNat + 1)) ≠ some rP := z4 _ (by omega)
   have e22 : Y7 (sl' (2 * p.toNat + 1)) ≠ some r2 := fun q => by have := (f2 _ q).1; rw [J5] at this; cases this
   have e212 : Y7 (sl' (2 * p.toNat + 1)) ≠ some r12 := fun q => by
    obtain ⟨o, ho⟩ := B.dw.slot (k := 2 * p.toNat + 1) (by omega) q
    rw [hr12] at ho; cases ho
   have k4 := q3 _ _ H4 e24
   have k2 := q3 _ _ H2 e22
   have kP := q3 _ _ HP e2P
   have kN := q3 _ _ HN e2N
   have k12 := q3 _ _ H12 e212
   refine ⟨fun y hy hc => ?_, ?_⟩
   ·rcases List.mem_append.1 hy with hy | hy
    ·exfalso
     obtain ⟨t, _, rfl⟩ := List.mem_map.1 hy
     have q : true = false := hc
     cases q
    ·rcases List.mem_cons.1 hy with rfl | hy
     ·exfalso
      have q : true = false := hc
      cases q
     rcases List.mem_cons.1 hy with rfl | hy
     ·exfalso
      have q : true = false := hc
      cases q
     rcases List.mem_cons.1 hy with rfl | hy
     ·show h3 r12 = _
      rw [k12]
      simp -dsimp -implicitDefEqProofs (disch := omega) only [↓Q0 26, ↓Q1 26, ↓Q0 93, ↓Q1 93, VCA, Z1, ↓Q3, Nat.reduceEqDiff, Nat.reduceBEq, Nat.reduceAdd, Nat.reduceSub, Nat.reduceMul, Nat.reduceLT, Nat.reduceLeDiff, ↓reduceIte, reduceCtorEq, Z7, Q6, SOp.rd, SI.rd, SX.rd, rdL, rdO, rdP, Q5, Q4, Q2, Q8, Q7, Z0, implies_true, forall_const, forall_eq, ne_eq, exists_eq_right_right, exists_eq_right, exists_eq_left, exists_eq_left', Q9, Z3, Z8, Z6, Z4, hpa, td, gP, hget, hx, mP, mP', J5]
     rcases List.mem_cons.1 hy with rfl | hy
     ·show h3 r4 = _
      rw [k4, Y3 _ _ m4]
      exact g4.symm
     cases hy
   simp -dsimp -implicitDefEqProofs (disch := omega) only [↓Q0 26, ↓Q1 26, ↓Q0 93, ↓Q1 93, VCA, Z1, ↓Q3, Nat.reduceEqDiff, Nat.reduceBEq, Nat.reduceAdd, Nat.reduceSub, Nat.reduceMul, Nat.reduceLT, Nat.reduceLeDiff, ↓reduceIte, reduceCtorEq, Z7, Q6, SOp.rd, SI.rd, SX.rd, rdL, rdO, rdP, Q5, Q4, Q2, Q8, Q7, Z0, implies_true, forall_const, forall_eq, ne_eq, exists_eq_right_right, exists_eq_right, exists_eq_left, exists_eq_left', Q9, Z3, Z8, Z6, Z4, e0, e2, e3, e4, e5, e6, hpa, td, bL, bL2, bV, bC, bI, bI2, gP, hget, hx, k2, k4, kN, kP, k12, m4, m4', mN, mN', mP, mP', J5, gi, wl, k4N, kN4]
   refine ⟨hpi, hpn, ?_⟩
   obtain ⟨y, hy⟩ : ∃ y : HNode, y = { nth d.nodes p.toNat with kids := (nth d.nodes p.toNat).kids ++ [(d.nodes.length : Int)] } := ⟨_, rfl⟩
   obtain ⟨H5, hH5⟩ : ∃ H5, H5 = upd h3 rN (some ⟨.t 101, 6, (rowsA d sl').set p.toNat (rowA y (sl' (2 * p.toNat)) (.osl rK 1 0 ((nth d.nodes p.toNat).kids.length + 1)))⟩) := ⟨_, rfl⟩
   have E3 := EH.kid hpn q1 q2 q3
   rw [<- hy, <- hH5] at E3
   show Hd (appE 101 6 96 b [[Y0 x.kind, .str x.name, sl Z3 x.attrs, .str x.text, Y0 p, .emp]] (upd h3 rN (some ⟨.t 101, 6, (rowsA d sl').set p.toNat [Y0 (nth d.nodes p.toNat).kind, .str (nth d.nodes p.toNat).name, sl' (2 * p.toNat), .str (nth d.nodes p.toNat).text, Y0 (nth d.nodes p.toNat).parent, .osl rK 1 0 ((nth d.nodes p.toNat).kids.length + 1)]⟩))) _ _
   rw [show (upd h3 rN (some ⟨.t 101, 6, (rowsA d sl').set p.toNat [Y0 (nth d.nodes p.toNat).kind, .str (nth d.nodes p.toNat).name, sl' (2 * p.toNat), .str (nth d.nodes p.toNat).text, Y0 (nth d.nodes p.toNat).parent, .osl rK 1 0 ((nth d.nodes p.toNat).kids.length + 1)]⟩) : J1) = H5 from by rw [hH5, hy]; rfl]
   have l1 : (d.nodes.set p.toNat y).length = d.nodes.length := List.length_set
   obtain ⟨O5, M5⟩ := E3.rows
   simp only [l1] at O5 M5
   rw [hb]
   have l5 : (rowsA ⟨d.nodes.set p.toNat y, d.quirks⟩ (upd sl' (2 * p.toNat + 1) (.osl rK 1 0 ((nth d.nodes p.toNat).kids.length + 1)))).length = d.nodes.length := by rw [rowsA_len]; exact l1
   refine O5.app M5 (by rw [l5, List.length_singleton]; omega) (by rw [l5, List.length_singleton]; omega) fun rN' h6 s1 s2 s3 => ?_
   rw [l5, List.length_singleton]
   have k5 : ∀ r o, h3 r = some o -> r ≠ rN -> H5 r = some o := fun r o ho hne => by rw [hH5, Y3 _ _ hne]; exact ho
   have bn : ∀ r, r ≠ rN -> Y7 (AVal.osl rN 6 0 d.nodes.length) ≠ some r := fun r hne q => hne (by cases q; rfl)
   have j4 := s3 _ _ (k5 _ _ k4 k4N) (bn _ k4N)
   have kPN : rP ≠ rN := z3
   have jP := s3 _ _ (k5 _ _ kP kPN) (bn _ kPN)
   have k2N : r2 ≠ rN := fun q => by have := B.dw.new.1; rw [<- q, J5] at this; cases this
   have j2 := s3 _ _ (k5 _ _ k2 k2N) (bn _ k2N)
   have n4P : ¬ r4 = rP := fun q => z2 q.symm
   have nP4 : ¬ rP = r4 := z2
   have n24 : ¬ r2 = r4 := fun q => by have := B.r4n; rw [<- q, J5] at this; cases this
   obtain ⟨pb, hpb⟩ : ∃ pb, pb = AVal.osl rP 1 0 (deep + 1) := ⟨_, rfl⟩
   have td1 : ((deep : Int) + 1).toNat = deep + 1 := by omega
   have sA : aSlA pa none (some (.int .i64 ((deep : Int) + 1))) = pb := by rw [hpa, hpb, aSlA_osl]; simp only [loOf_none, hiOf_int, Int.toNat_zero, td1, Nat.sub_zero, Nat.zero_add]
   have sB : okSlA 1 pa none (some (.int .i64 ((deep : Int) + 1))) = True := by rw [hpa, okSlA_osl]; simp only [loOf_none, hiOf_int, okB_none, okB_int]; simp; omega
   simp -dsimp -implicitDefEqProofs (disch := omega) only [↓Q0 26, ↓Q1 26, ↓Q0 93, ↓Q1 93, VCA, Z1, ↓Q3, Nat.reduceEqDiff, Nat.reduceBEq, Nat.reduceAdd, Nat.reduceSub, Nat.reduceMul, Nat.reduceLT, Nat.reduceLeDiff, ↓reduceIte, reduceCtorEq, Z7, Q6, SOp.rd, SI.rd, SX.rd, rdL, rdO, rdP, Q5, Q4, Q2, Q8, Q7, Z0, implies_true, forall_const, forall_eq, ne_eq, exists_eq_right_right, exists_eq_right, exists_eq_left, exists_eq_left', Q9, Z3, Z8, Z6, Z4, e0, e2, e3, e4, e5, e6, td, bL, bL2, bV, bC, j4, j2, jP, nP4, n4P, J5, sA, sB]
   obtain ⟨H7, hH7⟩ : ∃ H7, H7 = upd h6 r4 (some ⟨.t 39, 2, [[.osl rN' 6 0 (d.nodes.length + 1), .bool d.quirks]]⟩) := ⟨_, rfl⟩
   rw [<- hH7]
   have fN : rN' = rN \/ H5 rN' = none := by
    rcases s2 with q | q
    ·cases q; exact .inl rfl
    ·exact .inr q
   have E4 := E3.add (h2 := h6) (rN' := rN') (x := { x with parent := p }) (a' := sl Z3 x.attrs) hxk s1 (fun r o ho hne => s3 r o ho (bn r hne)) (.inr (.inl ⟨rfl, fun e he => by obtain ⟨z, _, rfl⟩ := List.mem_map.1 he; rfl⟩)) (fun r hr => by cases hr) fN
   have hak : addN ⟨d.nodes.set p.toNat y, d.quirks⟩ { x with parent := p } = addKid d p x := by rw [hy]; rfl
   have E5 := E4.other (r := r4) (by simp) B.r4n ⟨39, 2, [[.osl rN' 6 0 (d.nodes.length + 1), .bool d.quirks]]⟩
   rw [hak] at E5
   simp only [l1] at E5
   obtain ⟨sl2, hsl2⟩ : ∃ sl2, sl2 = upd (upd (upd sl' (2 * p.toNat + 1) (.osl rK 1 0 ((nth d.nodes p.toNat).kids.length + 1))) (2 * d.nodes.length) (sl Z3 x.attrs)) (2 * d.nodes.length + 1) .emp := ⟨_, rfl⟩
   replace E5 : Dw [r4] (upd h0 r2 (some ⟨.t 39, 2, [[.emp, .bool false]]⟩)) H7 rN' (addKid d p x) sl2 := by rw [hH7, hsl2]; exact E5
   have gP7 : H7 rP = some ⟨.t 3, 1, es⟩ := by rw [hH7, Y3 _ _ nP4]; exact jP
   have hcl2 : ((path.take (deep + 1)).map Z8).length = deep + 1 := by rw [List.length_map, List.length_take]; omega
   have O7 : OwnS H7 3 1 ((path.take (deep + 1)).map Z8) pb := by
    refine .inr (.inr ⟨rP, es, by rw [hcl2]; exact hpb, gP7, by rw [hcl2]; omega, ?_⟩)
    rw [hcl2, List.map_take, <- hes, List.take_take, Nat.min_eq_left (by omega)]
   have M7 : Mut pb := fun es q => by rw [hpb] at q; cases q
   refine O7.app M7 (by rw [hcl2, List.length_singleton]; omega) (by rw [hcl2, List.length_singleton]; omega) fun rP' h8 t1 t2 t3 => ?_
   rw [hcl2, List.length_singleton]
   simp -dsimp -implicitDefEqProofs (disch := omega) only [↓Q0 26, ↓Q1 26, ↓Q0 93, ↓Q1 93, VCA, Z1, ↓Q3, Nat.reduceEqDiff, Nat.reduceBEq, Nat.reduceAdd, Nat.reduceSub, Nat.reduceMul, Nat.reduceLT, Nat.reduceLeDiff, ↓reduceIte, reduceCtorEq, Z7, Q6, SOp.rd, SI.rd, SX.rd, rdL, rdO, rdP, Q5, Q4, Q2, Q8, Q7, Z0, implies_true, forall_const, forall_eq, ne_eq, exists_eq_right_right, exists_eq_right, exists_eq_left, exists_eq_left', Q9, Z3, Z8, Z6, Z4, e0, e2, e3, e4, e5, e6]
   have bP : ∀ r, r ≠ rP -> Y7 pb ≠ some r := fun r hne q => hne (by rw [hpb] at q; cases q; rfl)
   have kp : ∀ r o, H7 r = some o -> r ≠ rP -> h8 r = some o := fun r o ho hne => t3 r o ho (bP r hne)
   have hKP : rK ≠ rP := fun q => by
    rcases q2 with w | w
    ·exact e2P (q ▸ w)
    ·rw [q, HP] at w; cases w
   have hN'P : rP ≠ rN' := fun q => by
    rcases fN with w | w
    ·exact kPN (q.trans w)
    ·have := k5 _ _ kP kPN
     rw [q, w] at this; cases this
   have slots : ∀ k, k < 2 * (d.nodes.length + 1) -> (k = 2 * d.nodes.length + 1 /\ sl2 k = .emp) \/ (k = 2 * d.nodes.length /\ sl2 k = sl Z3 x.attrs) \/ (k < 2 * d.nodes.length /\ k = 2 * p.toNat + 1 /\ sl2 k = .osl rK 1 0 ((nth d.nodes p.toNat).kids.length + 1)) \/ (k < 2 * d.nodes.length /\ k ≠ 2 * p.toNat + 1 /\ sl2 k = sl' k) := fun k hk => by
    rw [hsl2]
    by_cases c1 : k = 2 * d.nodes.length + 1
    ·exact .inl ⟨c1, by rw [c1, J5]⟩
    ·rw [Y3 _ _ c1]
     by_cases c2 : k = 2 * d.nodes.length
     ·exact .inr (.inl ⟨c2, by rw [c2, J5]⟩)
     ·rw [Y3 _ _ c2]
      by_cases c3 : k = 2 * p.toNat + 1
      ·exact .inr (.inr (.inl ⟨by omega, c3, by rw [c3, J5]⟩))
      ·exact .inr (.inr (.inr ⟨by omega, c3, Y3 _ _ c3⟩))
   have ps : ∀ k, k < 2 * (d.nodes.length + 1) -> Y7 (sl2 k) ≠ some rP := fun k hk q => by
    rcases slots k hk with ⟨_, w⟩ | ⟨_, w⟩ | ⟨_, _, w⟩ | ⟨w1, _, w⟩
    ·rw [w] at q; cases q
    ·rw [w] at q; cases q
    ·rw [w] at q; cases q; exact hKP rfl
    ·rw [w] at q; exact z4 k w1 q
   have al := X7 d p x
   have E8 := E5.frame (h2 := h8) (rP := rP) kp z1 hN'P (by simpa using nP4) (by rw [al]; exact ps)
   have d4 : h8 r4 = some ⟨.t 39, 2, [[.osl rN' 6 0 (addKid d p x).nodes.length, .bool (addKid d p x).quirks]]⟩ := by
    rw [al]
    exact kp _ _ (by rw [hH7, J5]; rfl) n4P
   refine ⟨more.length, hcr, addKid d p x, sl2, rN', path.take (deep + 1) ++ [(d.nodes.length : Int)], .osl rP' 1 0 (deep + 1 + 1), more, f, rfl, by omega, by omega, hT, by rw [al]; exact path_next hP, by simp, by rw [al, List.length_append, List.length_take, List.length_singleton]; omega, S.kid hpn hxs hxk hr2,
    by simp [upd, e0], by simp [upd, e2], by simp [upd, e3], by simp [upd, e4], by simp [upd], by simp [upd], ?_⟩
   refine ⟨E8, B.r4n, d4, ?_, (fun es q => by cases q), (fun r hr => ?_), fun i hi => ?_⟩
   ·refine .inr (.inr ⟨rP', _, ?_, t1, ?_, ?_⟩)
    ·rw [List.length_map, List.length_append, List.length_take, List.length_singleton, Nat.min_eq_left (by omega)]
    ·rw [List.length_map, List.length_append, List.length_append, List.length_map, List.length_singleton, List.length_singleton]; exact Nat.le_refl _
    ·rw [List.take_of_length_le (by rw [List.length_map, List.length_append, List.length_append, List.length_map, List.length_singleton, List.length_singleton]; exact Nat.le_refl _), List.map_append]; rfl
   ·cases hr
    have rPc : rP' = rP \/ H7 rP' = none := by
     rcases t2 with w | w
     ·rw [hpb] at w; cases w; exact .inl rfl
     ·exact .inr w
    rcases rPc with w | w
    ·rw [w]; exact ⟨z1, z2, hN'P, by rw [al]; exact ps⟩
    ·refine ⟨E5.sub.none w, fun q => ?_, fun q => ?_, fun k hk q => ?_⟩
     ·rw [q, hH7, J5] at w; cases w
     ·rw [q, E5.nodes] at w; cases w
     ·obtain ⟨o, ho⟩ := E5.slot hk q
      rw [w] at ho; cases ho
   ·rw [al] at hi
    rcases slots (2 * i + 1) (by omega) with ⟨_, w⟩ | ⟨w1, _⟩ | ⟨_, _, w⟩ | ⟨w1, _, w⟩
    ·rw [w]; exact fun es q => by cases q
    ·omega
    ·rw [w]; exact fun es q => by cases q
    ·rw [w]; exact B.live i (by omega)
def backT (s : List UInt8) : Option HDoc := backF (s.length + 1) (rootD (quirkS s)) [0] (restS s)
theorem rootD_szb (q : Bool) : SzB (rootD q) := by
 refine ⟨by show 0 < 1; omega, by show 1 <= 201; omega, fun m hm => ?_⟩
 have : m = 0 := by simp [rootD] at hm; exact hm
 subst this
 exact ⟨⟨by simp [rootD, nth], by simp [rootD, nth], fun a ha => by simp [rootD, nth] at ha, by simp [rootD, nth], by simp [rootD, nth]⟩, by simp [rootD, nth]⟩
theorem back_ok (hG : MaxLenOK G) (s : List UInt8) (hs : s.length <= 1000000) : PCalls (Pg G) 65 [.str s] (.tup [.agg (J4 (backS s (backT s)).1), Y0 (backS s (backT s)).2]) := PCalls.outV fun h => by
 show DCalls _ _ _ h (BackK h (backS s (backT s)).1 (backS s (backT s)).2)
 have hH := hasPre_ok (G := G) s [126, 10] (by omega) (by decide)
 have hq : hasPre s [126, 10] = quirkS s := rfl
 rw [hq] at hH
 refine Z9 Tryz.func65 (by kernel_rfl) hc65 (by rw [Tryz.ntmps65]; simp) (by rw [Tryz.ntmps65]; decide) ?_
 simp -dsimp -implicitDefEqProofs (disch := omega) only [↓Q0 26, ↓Q1 26, ↓Q0 93, ↓Q1 93, VCA, Z1, ↓Q3, Nat.reduceEqDiff, Nat.reduceBEq, Nat.reduceAdd, Nat.reduceSub, Nat.reduceMul, Nat.reduceLT, Nat.reduceLeDiff, ↓reduceIte, reduceCtorEq, Z7, Q6, SOp.rd, SI.rd, SX.rd, rdL, rdO, rdP, Q5, Q4, Q2, Q8, Q7, Z0, implies_true, forall_const, forall_eq, ne_eq, exists_eq_right_right, exists_eq_right, exists_eq_left, exists_eq_left', Q9, Z3, Z8, Z6, Z4, c65]
 intro r2 hr2
 refine DCalls.of (newOwn_ok (G := G) _) ?_
 rintro _ h1 ⟨rN, hrN, rfl, gN, S1⟩
 have g2 := S1 _ _ (J5 _ r2 _)
 simp -dsimp -implicitDefEqProofs (disch := omega) only [↓Q0 26, ↓Q1 26, ↓Q0 93, ↓Q1 93, VCA, Z1, ↓Q3, Nat.reduceEqDiff, Nat.reduceBEq, Nat.reduceAdd, Nat.reduceSub, Nat.reduceMul, Nat.reduceLT, Nat.reduceLeDiff, ↓reduceIte, reduceCtorEq, Z7, Q6, SOp.rd, SI.rd, SX.rd, rdL, rdO, rdP, Q5, Q4, Q2, Q8, Q7, Z0, implies_true, forall_const, forall_eq, ne_eq, exists_eq_right_right, exists_eq_right, exists_eq_left, exists_eq_left', Q9, Z3, Z8, Z6, Z4, J5]
 intro r4 hr4
 have m2 : ¬ r4 = r2 := fun q => by rw [q, g2] at hr4; cases hr4
 have m2' : ¬ r2 = r4 := fun q => m2 q.symm
 have mN : ¬ r4 = rN := fun q => by rw [q, gN] at hr4; cases hr4
 have en : ∀ (r : Nat), ¬ r = r4 -> h1 r = none -> ∀ e : Env, e 0 = .str s -> e 2 = .vp r2 0 -> e 3 = Y0 0 -> e 4 = .vp r4 0 -> e 5 = .str (restS s) -> e 6 = .osl r 1 0 1 ->
   vc (Pg G) c65_s5 (retK [.cell 2 2 true, .tmp 3] (BackK h (backS s (backT s)).1 (backS s (backT s)).2)) e (upd (upd h1 r4 (some ⟨.t 39, 2, [[.osl rN 6 0 1, .bool (quirkS s)]]⟩)) r (some ⟨.t 3, 1, [[Y0 0]]⟩)) := by
  intro r hne hr e e0 e2 e3 e4 e5 e6
  have hl := rest_len s
  have r4n := S1.none hr4
  have rn := S1.none hr
  have rN' : ¬ r = rN := fun q => by rw [q, gN] at hr; cases hr
  have mN' : ¬ rN = r4 := fun q => mN q.symm
  refine back_loop (G := G) hG hr2 s (backT s) (m := (restS s).length) ⟨rootD (quirkS s), fun _ => .emp, rN, [0], .osl r 1 0 1, restS s, s.length + 1, rfl, by omega, by omega, rfl, root_path, by simp, by show 1 <= 1; omega, rootD_szb _, e0, e2, e3, e4, e5, e6, ?_⟩
  refine ⟨⟨?_, ?_, ⟨hrN, by simpa using fun q => mN q.symm⟩, fun i hi => ?_, (fun k hk t q => by cases q), (fun j k hj hk hjk t q => by cases q), fun t ht => ?_⟩, r4n, ?_, ?_, (fun es q => by cases q), (fun t ht => ?_), fun i hi es q => by cases q⟩
  ·exact (S1.upd r4n).upd rn
  ·rw [Y3 _ _ (fun q => rN' q.symm), Y3 _ _ mN', gN]; rfl
  ·have : i = 0 := by simp [rootD] at hi; exact hi
   subst this
   exact ⟨.inl ⟨rfl, rfl⟩, .inl ⟨rfl, rfl⟩⟩
  ·rw [List.mem_singleton] at ht
   subst ht
   exact ⟨_, by rw [Y3 _ _ (fun q => hne q.symm), J5]⟩
  ·rw [Y3 _ _ (fun q => hne q.symm), J5]; rfl
  ·exact .inr (.inr ⟨r, _, rfl, J5 _ _ _, Nat.le_refl _, rfl⟩)
  ·cases ht
   exact ⟨rn, hne, rN', fun k hk q => by cases q⟩
 repeat' (first | ((with_reducible refine brC (fun _ => ?_) fun _ => ?_) <;> try (exfalso; omega)) | (with_reducible apply pcallE.of; · exact hH) | (with_reducible refine And.intro ?_ ?_; · omega) | simp -dsimp -implicitDefEqProofs (disch := omega) only [↓Q0 26, ↓Q1 26, ↓Q0 93, ↓Q1 93, VCA, Z1, ↓Q3, Nat.reduceEqDiff, Nat.reduceBEq, Nat.reduceAdd, Nat.reduceSub, Nat.reduceMul, Nat.reduceLT, Nat.reduceLeDiff, ↓reduceIte, reduceCtorEq, Z7, Q6, SOp.rd, SI.rd, SX.rd, rdL, rdO, rdP, Q5, Q4, Q2, Q8, Q7, Z0, implies_true, forall_const, forall_eq, ne_eq, exists_eq_right_right, exists_eq_right, exists_eq_left, exists_eq_left', Q9, Z3, Z8, Z6, Z4, J5, m2, m2', mN])
 ·rename_i hq1
  have hr : restS s = s.drop 2 := by unfold restS; rw [if_pos hq1]
  have h2 : 2 <= s.length := by rw [<- hq, hasPre, Bool.and_eq_true] at hq1; exact of_decide_eq_true hq1.1
  refine ⟨⟨by omega, by omega, by omega⟩, ?_⟩
  rintro r ⟨k1, k2⟩
  exact en r k1 k2 _ rfl (by simp [upd]) (by simp [upd]) (by simp [upd]) (by simp [upd, hr]) (by simp [upd])
 ·rename_i hq1
  have hr : restS s = s := by unfold restS; rw [if_neg (by rw [hq1]; simp)]
  rintro r ⟨k1, k2⟩
  exact en r k1 k2 _ rfl (by simp [upd]) (by simp [upd]) (by simp [upd]) (by simp [upd, hr]) (by simp [upd])
def strR : Option HDoc -> HDoc × Int
 | none => (emptyD, 4)
 | some D => (D, 0)
theorem backS_str (s : List UInt8) : backS s (backT s) = strR (strV s) := by
 rw [<- back_law]
 unfold backV backT
 generalize backF (s.length + 1) (rootD (quirkS s)) [0] (restS s) = X
 cases X with
 | none => rfl
 | some D =>
  show backR s D = strR (if docE D = 0 /\ treeM D = s then some D else none)
  unfold backR
  by_cases h : docE D = 0 /\ treeM D = s
  ·rw [if_pos h, if_pos h]; rfl
  ·rw [if_neg h, if_neg h]; rfl
theorem backS_ok (hG : MaxLenOK G) (s : List UInt8) (hs : s.length <= 1000000) : PCalls (Pg G) 65 [.str s] (.tup [.agg (J4 (strR (strV s)).1), Y0 (strR (strV s)).2]) := by
 rw [<- backS_str]; exact back_ok hG s hs
def onePD : HDoc := ⟨[⟨1, [], [], [], -1, [1]⟩, ⟨2, [112], [⟨[97], [34]⟩], [], 0, [2]⟩, ⟨3, [], [], [60, 10], 1, []⟩], false⟩
theorem onePD_sm : DocSm onePD := ⟨by decide, fun x hx => by
 simp [onePD] at hx
 rcases hx with rfl | rfl | rfl
 ·exact ⟨by simp, by simp, fun a ha => by simp at ha, by simp, by simp⟩
 ·exact ⟨by simp, by simp, fun a ha => by simp at ha; subst ha; simp, by simp, by simp⟩
 ·exact ⟨by simp, by simp, fun a ha => by simp at ha, by simp, by simp⟩⟩
theorem onePD_is : docE onePD = 0 /\ htmlV onePD 0 = ([60, 112, 32, 97, 61, 34, 38, 113, 117, 111, 116, 59, 34, 62, 38, 108, 116, 59, 10, 60, 47, 112, 62], 0) /\ treeM onePD = [112, 32, 97, 61, 34, 92, 50, 50, 34, 10, 32, 34, 60, 92, 48, 97, 34, 10] /\ strV [112, 32, 97, 61, 34, 92, 50, 50, 34, 10, 32, 34, 60, 92, 48, 97, 34, 10] = some onePD := by decide +kernel
theorem dcalls_res {P : PG} {f : Nat} {args : List AVal} {h : J1} {K K' : AVal -> J1 -> Prop} (hd : DCalls P f args h K) (hk : ∀ a h', K a h' -> ∃ b, Wk a b /\ K' b h') : DCalls P f args h K' :=
 ⟨hd.1, fun g w vs H GR V => (hd.2 g w vs H GR V).mono fun e w' ⟨v', a, h', g', he, k0, H', Va, S⟩ => by
  obtain ⟨b, hb, k1⟩ := hk a h' k0
  exact ⟨v', b, h', g', he, k1, H', hb.rel Va, S⟩⟩
def c64 : SFun := ⟨.seq (.reg [o 0 (.new 39 2 [.emp, .bool false])]) (.seq (.reg [o 1 (.bldF 3 1 [.c (.int .i64 1)]), o 2 (.bld [.int .i64 0, .str [], .emp, .str [], .int .i64 0, .emp] [(0, (1, (.c (.int .i64 1)))), (4, (1, (.c (.int .i64 (-1))))), (5, (1, (.t 1)))]), o 3 (.bld [.str [], .str []] [(0, (1, (.c (.str [97])))), (1, (1, (.c (.str [34]))))]), o 4 (.bldF 69 2 [.t 3]), o 5 (.bldF 3 1 [.c (.int .i64 2)]), o 6 (.bld [.int .i64 0, .str [], .emp, .str [], .int .i64 0, .emp] [(0, (1, (.c (.int .i64 2)))), (1, (1, (.c (.str [112])))), (2, (1, (.t 4))), (5, (1, (.t 5)))]), o 7 (.bld [.int .i64 0, .str [], .emp, .str [], .int .i64 0, .emp] [(0, (1, (.c (.int .i64 3)))), (3, (1, (.c (.str [60, 10])))), (4, (1, (.c (.int .i64 1))))]), o 8 (.bldF 101 6 [.t 2, .t 6, .t 7]), o 9 (.bld [.emp, .bool false] [(0, (1, (.t 8)))]), ⟨none, .st 2 (.t 0) (.t 9), none⟩]) .ret), [.cell 0 2 true]⟩
theorem hc64 : X8 Tryz.prog {} Tryz.f64 = some c64 := by kernel_rfl
theorem oneP_ok : PCalls (Pg G) 64 [] (.agg (J4 onePD)) := fun h => by
 refine dcalls_res (K := fun a h' => a = .agg [.slc [[.int .i64 1, .str [], .emp, .str [], .int .i64 (-1), .slc [[.int .i64 1]]], [.int .i64 2, .str [112], .slc [[.str [97], .str [34]]], .str [], .int .i64 0, .slc [[.int .i64 2]]], [.int .i64 3, .str [], .emp, .str [60, 10], .int .i64 1, .emp]], .bool false] /\ h' = h) ?_ ?_
 ·refine Z9 Tryz.func64 (by kernel_rfl) hc64 (by rw [Tryz.ntmps64]; simp) (by rw [Tryz.ntmps64]; decide) ?_
  simp -dsimp -implicitDefEqProofs (disch := omega) only [VCA, Z1, ↓Q3, Nat.reduceEqDiff, Nat.reduceBEq, Nat.reduceAdd, Nat.reduceSub, Nat.reduceMul, Nat.reduceLT, Nat.reduceLeDiff, ↓reduceIte, reduceCtorEq, Z7, Q6, SOp.rd, SI.rd, SX.rd, rdL, rdO, rdP, Q5, Q4, Q2, Q8, Q7, Z0, implies_true, forall_const, forall_eq, ne_eq, exists_eq_right_right, exists_eq_right, exists_eq_left, exists_eq_left', Q9, Z3, Z8, Z6, Z4, c64]
  intro r hr
  exact (Sub.refl _).upd hr
 ·rintro a h' ⟨rfl, rfl⟩
  exact ⟨_, Wk.agg' (.cons (Wk.slc' (.cons (.cons (.refl _) (.cons (.refl _) (.cons .emp (.cons (.refl _) (.cons (.refl _) (.cons (.refl _) .nil)))))) (.cons (.cons (.refl _) (.cons (.refl _) (.cons (.refl _) (.cons (.refl _) (.cons (.refl _) (.cons (.refl _) .nil)))))) (.cons (.cons (.refl _) (.cons (.refl _) (.cons .emp (.cons (.refl _) (.cons (.refl _) (.cons .emp .nil)))))) .nil)))) (.cons (.refl _) .nil)), rfl, rfl⟩
theorem docLen (d : HDoc) : (J4 d).length = 2 := rfl
theorem docTake (d : HDoc) : (J4 d).take 2 = J4 d := rfl
theorem docDrop (d : HDoc) : (J4 d).drop 2 = [] := rfl
def c19 : SFun := ⟨.seq (.reg [o 1 (.boxF 39 2 (.t 0)), o 2 (.mv (.c (.str []))), o 3 (.mv (.c (.int .i64 0)))]) (.seq (.seq (.reg [o 5 (.ld 2 true (.t 1)), o 6 (.pcall 57 [.t 5]), o 4 (.mv (.t 6))]) (.seq (.reg [o 7 (.mv (.t 4)), o 8 (.bin .neq (.t 7) (.c (.int .i64 0)))]) (.cond (.t 8) (.seq (.reg [o 9 (.mv (.t 4)), o 2 (.mv (.c (.str []))), o 3 (.mv (.t 9))]) .ret) .skip))) (.seq (.reg [o 10 (.ld 2 true (.t 1)), o 11 (.pcall 59 [.t 10]), o 2 (.mv (.t 11)), o 3 (.mv (.c (.int .i64 0)))]) .ret)), [.tmp 2, .tmp 3]⟩
theorem hc19 : X8 Tryz.prog {pure := [57, 59]} Tryz.f19 = some c19 := by kernel_rfl
theorem stree_ok (d : HDoc) (sm : DocSm d) (hd : docE d = 0) : PCalls (Pg G) 19 [.agg (J4 d)] (.tup [.str (treeM d), Y0 0]) := fun h => by
 have hC := check_ok (G := G) d sm
 have hT := tree_ok (G := G) d ((docE_iff d).1 hd)
 rw [hd] at hC
 unfold J4 at hC hT ⊢
 refine Z9 Tryz.func19 (by kernel_rfl) hc19 (by rw [Tryz.ntmps19]; simp) (by rw [Tryz.ntmps19]; decide) ?_
 simp -dsimp -implicitDefEqProofs (disch := omega) only [VCA, Z1, ↓Q3, Nat.reduceEqDiff, Nat.reduceBEq, Nat.reduceAdd, Nat.reduceSub, Nat.reduceMul, Nat.reduceLT, Nat.reduceLeDiff, ↓reduceIte, reduceCtorEq, Z7, Q6, SOp.rd, SI.rd, SX.rd, rdL, rdO, rdP, Q5, Q4, Q2, Q8, Q7, Z0, implies_true, forall_const, forall_eq, ne_eq, exists_eq_right_right, exists_eq_right, exists_eq_left, exists_eq_left', Q9, Z3, Z8, Z6, Z4, c19]
 repeat' (first | ((with_reducible refine brC (fun _ => ?_) fun _ => ?_) <;> try (exfalso; omega)) | (with_reducible apply pcallE.of; · exact hC) | (with_reducible apply pcallE.of; · exact hT) | (with_reducible refine And.intro ?_ ?_; · omega) | simp -dsimp -implicitDefEqProofs (disch := omega) only [VCA, Z1, ↓Q3, Nat.reduceEqDiff, Nat.reduceBEq, Nat.reduceAdd, Nat.reduceSub, Nat.reduceMul, Nat.reduceLT, Nat.reduceLeDiff, ↓reduceIte, reduceCtorEq, Z7, Q6, SOp.rd, SI.rd, SX.rd, rdL, rdO, rdP, Q5, Q4, Q2, Q8, Q7, Z0, implies_true, forall_const, forall_eq, ne_eq, exists_eq_right_right, exists_eq_right, exists_eq_left, exists_eq_left', Q9, Z3, Z8, Z6, Z4])
 all_goals exact Sub.refl _
def c21 : SFun := ⟨.seq (.reg [o 0 (.mv (.c (.bool false)))]) (.seq (.reg [o 8 (.pcall 64 []), o 9 (.pcall 18 [.t 8, .c (.int .i64 0)]), o 7 (.mv (.t 9)), o 10 (.ext (.t 7) 0), o 11 (.ext (.t 7) 1), o 1 (.mv (.t 10)), o 2 (.mv (.t 11))]) (.seq (.reg [o 13 (.pcall 64 []), o 14 (.pcall 19 [.t 13]), o 12 (.mv (.t 14)), o 15 (.ext (.t 12) 0), o 16 (.ext (.t 12) 1), o 3 (.mv (.t 15)), o 4 (.mv (.t 16))]) (.seq (.reg [o 18 (.mv (.t 3)), o 19 (.pcall 65 [.t 18]), o 17 (.mv (.t 19)), o 20 (.ext (.t 17) 0), o 21 (.ext (.t 17) 1), o 5 (.new 39 2 [.emp, .bool false]), ⟨none, .st 2 (.t 5) (.t 20), none⟩, o 6 (.mv (.t 21))]) (.seq (.dreg [(o 22 (.mv (.t 1)), none), (o 23 (.bin .eql (.t 22) (.c (.str [60, 112, 32, 97, 61, 34, 38, 113, 117, 111, 116, 59, 34, 62, 38, 108, 116, 59, 10, 60, 47, 112, 62]))), none), (o 24 (.mv (.t 23)), none), (⟨some 25, .mv (.t 2), some (24, true)⟩, none), (⟨some 26, .bin .eql (.t 25) (.c (.int .i64 0)), some (24, true)⟩, none), (o 27 (.pick (.t 24) (.t 26) (.c (.bool false))), none), (o 28 (.mv (.t 27)), none), (⟨some 29, .mv (.t 3), some (28, true)⟩, none), (⟨some 30, .bin .eql (.t 29) (.c (.str [112, 32, 97, 61, 34, 92, 50, 50, 34, 10, 32, 34, 60, 92, 48, 97, 34, 10])), some (28, true)⟩, none), (o 31 (.pick (.t 28) (.t 30) (.c (.bool false))), none), (o 32 (.mv (.t 31)), none), (⟨some 33, .mv (.t 4), some (32, true)⟩, none), (⟨some 34, .bin .eql (.t 33) (.c (.int .i64 0)), some (32, true)⟩, none), (o 35 (.pick (.t 32) (.t 34) (.c (.bool false))), none), (o 36 (.mv (.t 35)), none), (⟨some 37, .ld 2 true (.t 5), some (36, true)⟩, none), (⟨some 38, .pcall 64 [], some (36, true)⟩, none), (⟨some 39, .pcall 66 [.t 37, .t 38], some (36, true)⟩, none), (o 40 (.pick (.t 36) (.t 39) (.c (.bool false))), none), (o 41 (.mv (.t 40)), none), (⟨some 42, .mv (.t 6), some (41, true)⟩, none), (⟨some 43, .bin .eql (.t 42) (.c (.int .i64 0)), some (41, true)⟩, none), (o 44 (.pick (.t 41) (.t 43) (.c (.bool false))), none), (o 0 (.mv (.t 44)), none)]) .ret)))), [.tmp 0]⟩
theorem hc21 : X8 Tryz.prog {pure := [64, 18, 19, 65, 66]} Tryz.f21 = some c21 := by kernel_rfl
theorem serialBegun_ok (hG : MaxOK G) (hM : MaxLenOK G) : PCalls (Pg G) 21 [] (.bool true) := fun h => by
 obtain ⟨p1, p2, p3, p4⟩ := onePD_is
 have cO := oneP_ok (G := G)
 have cH := html_ok (G := G) hG onePD onePD_sm 0
 have cT := stree_ok (G := G) onePD onePD_sm p1
 have cB := backS_ok (G := G) hM (treeM onePD) (by rw [p3]; decide)
 have cS := sameDoc_ok (G := G) onePD onePD onePD_sm onePD_sm
 rw [p2] at cH
 simp only at cH
 rw [p3, p4] at cB
 rw [p3] at cT
 have q1 : (onePD == onePD) = true := by simp
 rw [q1] at cS
 simp only [strR] at cB
 refine Z9 Tryz.func21 (by kernel_rfl) hc21 (by rw [Tryz.ntmps21]; simp) (by rw [Tryz.ntmps21]; decide) ?_
 simp -dsimp -implicitDefEqProofs (disch := omega) only [↓Q0 24, ↓Q1 24, ↓Q0 28, ↓Q1 28, ↓Q0 32, ↓Q1 32, ↓Q0 36, ↓Q1 36, ↓Q0 41, ↓Q1 41, VCA, Z1, ↓Q3, Nat.reduceEqDiff, Nat.reduceBEq, Nat.reduceAdd, Nat.reduceSub, Nat.reduceMul, Nat.reduceLT, Nat.reduceLeDiff, ↓reduceIte, reduceCtorEq, Z7, Q6, SOp.rd, SI.rd, SX.rd, rdL, rdO, rdP, Q5, Q4, Q2, Q8, Q7, Z0, implies_true, forall_const, forall_eq, ne_eq, exists_eq_right_right, exists_eq_right, exists_eq_left, exists_eq_left', Q9, Z3, Z8, Z6, Z4, c21]
 repeat' (first | ((with_reducible refine brC (fun _ => ?_) fun _ => ?_) <;> try (exfalso; omega)) | (with_reducible apply pcallE.of; · exact cO) | (with_reducible apply pcallE.of; · exact cH) | (with_reducible apply pcallE.of; · exact cT) | (with_reducible apply pcallE.of; · exact cB) | (with_reducible apply pcallE.of; · exact cS) | (with_reducible refine And.intro ?_ ?_; · omega) | simp -dsimp -implicitDefEqProofs (disch := omega) only [↓Q0 24, ↓Q1 24, ↓Q0 28, ↓Q1 28, ↓Q0 32, ↓Q1 32, ↓Q0 36, ↓Q1 36, ↓Q0 41, ↓Q1 41, VCA, Z1, ↓Q3, Nat.reduceEqDiff, Nat.reduceBEq, Nat.reduceAdd, Nat.reduceSub, Nat.reduceMul, Nat.reduceLT, Nat.reduceLeDiff, ↓reduceIte, reduceCtorEq, Z7, Q6, SOp.rd, SI.rd, SX.rd, rdL, rdO, rdP, Q5, Q4, Q2, Q8, Q7, Z0, implies_true, forall_const, forall_eq, ne_eq, exists_eq_right_right, exists_eq_right, exists_eq_left, exists_eq_left', Q9, Z3, Z8, Z6, Z4])
 intro r5 hr5
 repeat' (first | ((with_reducible refine brC (fun _ => ?_) fun _ => ?_) <;> try (exfalso; omega)) | (with_reducible apply pcallE.of; · exact cO) | (with_reducible apply pcallE.of; · exact cH) | (with_reducible apply pcallE.of; · exact cT) | (with_reducible apply pcallE.of; · exact cB) | (with_reducible apply pcallE.of; · exact cS) | (with_reducible refine And.intro ?_ ?_; · omega) | simp -dsimp -implicitDefEqProofs (disch := omega) only [↓Q0 24, ↓Q1 24, ↓Q0 28, ↓Q1 28, ↓Q0 32, ↓Q1 32, ↓Q0 36, ↓Q1 36, ↓Q0 41, ↓Q1 41, VCA, Z1, ↓Q3, Nat.reduceEqDiff, Nat.reduceBEq, Nat.reduceAdd, Nat.reduceSub, Nat.reduceMul, Nat.reduceLT, Nat.reduceLeDiff, ↓reduceIte, reduceCtorEq, Z7, Q6, SOp.rd, SI.rd, SX.rd, rdL, rdO, rdP, Q5, Q4, Q2, Q8, Q7, Z0, implies_true, forall_const, forall_eq, ne_eq, exists_eq_right_right, exists_eq_right, exists_eq_left, exists_eq_left', Q9, Z3, Z8, Z6, Z4, J5, docLen, docTake, docDrop, List.append_nil])
 all_goals first | (exfalso; exact absurd rfl (by assumption)) | exact ⟨(Sub.refl h).upd hr5, rfl⟩
theorem stree_bad (d : HDoc) (sm : DocSm d) (hd : docE d ≠ 0) : PCalls (Pg G) 19 [.agg (J4 d)] (.tup [.str [], Y0 (docE d)]) := fun h => by
 have hC := check_ok (G := G) d sm
 unfold J4 at hC ⊢
 refine Z9 Tryz.func19 (by kernel_rfl) hc19 (by rw [Tryz.ntmps19]; simp) (by rw [Tryz.ntmps19]; decide) ?_
 simp -dsimp -implicitDefEqProofs (disch := omega) only [VCA, Z1, ↓Q3, Nat.reduceEqDiff, Nat.reduceBEq, Nat.reduceAdd, Nat.reduceSub, Nat.reduceMul, Nat.reduceLT, Nat.reduceLeDiff, ↓reduceIte, reduceCtorEq, Z7, Q6, SOp.rd, SI.rd, SX.rd, rdL, rdO, rdP, Q5, Q4, Q2, Q8, Q7, Z0, implies_true, forall_const, forall_eq, ne_eq, exists_eq_right_right, exists_eq_right, exists_eq_left, exists_eq_left', Q9, Z3, Z8, Z6, Z4, J4, c19]
 repeat' (first | ((with_reducible refine brC (fun _ => ?_) fun _ => ?_) <;> try (exfalso; omega)) | (with_reducible apply pcallE.of; · exact hC) | (with_reducible refine And.intro ?_ ?_; · omega) | simp -dsimp -implicitDefEqProofs (disch := omega) only [VCA, Z1, ↓Q3, Nat.reduceEqDiff, Nat.reduceBEq, Nat.reduceAdd, Nat.reduceSub, Nat.reduceMul, Nat.reduceLT, Nat.reduceLeDiff, ↓reduceIte, reduceCtorEq, Z7, Q6, SOp.rd, SI.rd, SX.rd, rdL, rdO, rdP, Q5, Q4, Q2, Q8, Q7, Z0, implies_true, forall_const, forall_eq, ne_eq, exists_eq_right_right, exists_eq_right, exists_eq_left, exists_eq_left', Q9, Z3, Z8, Z6, Z4, J4])
 all_goals first | exact Sub.refl _ | (exfalso; omega) | trace_state
def c5 : SFun := ⟨.seq (.reg [o 2 (.box 39 2 (.t 0)), o 4 (.mv (.c (.bool false)))]) (.seq (.reg [o 10 (.ld 2 true (.t 2)), o 11 (.pcall 17 [.t 10, .c (.int .i64 60)]), ⟨none, .st 2 (.t 2) (.t 11), none⟩]) (.seq (.reg [o 13 (.ld 2 true (.t 2)), o 14 (.mv (.t 1)), o 15 (.pcall 18 [.t 13, .t 14]), o 12 (.mv (.t 15)), o 16 (.ext (.t 12) 0), o 17 (.ext (.t 12) 1), o 5 (.mv (.t 16)), o 6 (.mv (.t 17))]) (.seq (.reg [o 19 (.ld 2 true (.t 2)), o 20 (.pcall 19 [.t 19]), o 18 (.mv (.t 20)), o 21 (.ext (.t 18) 0), o 22 (.ext (.t 18) 1), o 7 (.mv (.t 21)), o 8 (.mv (.t 22))]) (.seq (.reg [o 23 (.ld 2 true (.t 2)), o 24 (.pcall 20 [.t 23]), o 9 (.mv (.t 24))]) (.seq (.seq (.reg [o 25 (.mv (.t 9)), o 26 (.bin .neq (.t 25) (.c (.int .i64 0)))]) (.cond (.t 26) (.seq (.reg [o 27 (.pcall 21 []), o 28 (.mv (.t 27)), ⟨some 29, .mv (.t 6), some (28, true)⟩, ⟨some 30, .mv (.t 9), some (28, true)⟩, ⟨some 31, .bin .eql (.t 29) (.t 30), some (28, true)⟩, o 32 (.pick (.t 28) (.t 31) (.c (.bool false))), o 33 (.mv (.t 32)), ⟨some 34, .mv (.t 8), some (33, true)⟩, ⟨some 35, .mv (.t 9), some (33, true)⟩, ⟨some 36, .bin .eql (.t 34) (.t 35), some (33, true)⟩, o 37 (.pick (.t 33) (.t 36) (.c (.bool false))), o 38 (.mv (.t 37)), ⟨some 39, .mv (.t 5), some (38, true)⟩, ⟨some 40, .bin .eql (.t 39) (.c (.str [])), some (38, true)⟩, o 41 (.pick (.t 38) (.t 40) (.c (.bool false))), o 42 (.mv (.t 41)), ⟨some 43, .mv (.t 7), some (42, true)⟩, ⟨some 44, .bin .eql (.t 43) (.c (.str [])), some (42, true)⟩, o 45 (.pick (.t 42) (.t 44) (.c (.bool false))), o 4 (.mv (.t 45))]) .ret) .skip)) (.seq (.seq (.reg [o 46 (.mv (.t 8)), o 47 (.bin .neq (.t 46) (.c (.int .i64 0))), o 48 (.mv (.t 47)), ⟨some 49, .mv (.t 7), some (48, false)⟩, ⟨some 50, .ld 2 true (.t 2), some (48, false)⟩, ⟨some 51, .pcall 22 [.t 50], some (48, false)⟩, ⟨some 52, .bin .neq (.t 49) (.t 51), some (48, false)⟩, o 53 (.pick (.t 48) (.c (.bool true)) (.t 52))]) (.cond (.t 53) (.seq (.reg [o 4 (.mv (.c (.bool false)))]) .ret) .skip)) (.seq (.seq (.reg [o 54 (.mv (.t 1)), o 55 (.bin .lss (.t 54) (.c (.int .i64 0))), o 56 (.mv (.t 55)), ⟨some 57, .mv (.t 1), some (56, false)⟩, ⟨some 58, .fldA 0 (.t 2), some (56, false)⟩, ⟨some 59, .ld 1 false (.t 58), some (56, false)⟩, ⟨some 60, .len (.t 59), some (56, false)⟩, ⟨some 61, .bin .geq (.t 57) (.t 60), some (56, false)⟩, o 62 (.pick (.t 56) (.c (.bool true)) (.t 61))]) (.cond (.t 62) (.seq (.reg [o 63 (.pcall 21 []), o 64 (.mv (.t 63)), ⟨some 65, .mv (.t 6), some (64, true)⟩, ⟨some 66, .bin .eql (.t 65) (.c (.int .i64 1)), some (64, true)⟩, o 67 (.pick (.t 64) (.t 66) (.c (.bool false))), o 68 (.mv (.t 67)), ⟨some 69, .mv (.t 5), some (68, true)⟩, ⟨some 70, .bin .eql (.t 69) (.c (.str [])), some (68, true)⟩, o 71 (.pick (.t 68) (.t 70) (.c (.bool false))), o 4 (.mv (.t 71))]) .ret) .skip)) (.seq (.reg [o 72 (.pcall 21 []), o 73 (.mv (.t 72)), ⟨some 74, .mv (.t 6), some (73, true)⟩, ⟨some 75, .bin .eql (.t 74) (.c (.int .i64 0)), some (73, true)⟩, o 76 (.pick (.t 73) (.t 75) (.c (.bool false))), o 77 (.mv (.t 76)), ⟨some 78, .mv (.t 5), some (77, true)⟩, ⟨some 79, .ld 2 true (.t 2), some (77, true)⟩, ⟨some 80, .mv (.t 1), some (77, true)⟩, ⟨some 81, .pcall 23 [.t 79, .t 80], some (77, true)⟩, ⟨some 82, .bin .eql (.t 78) (.t 81), some (77, true)⟩, o 83 (.pick (.t 77) (.t 82) (.c (.bool false))), o 4 (.mv (.t 83))]) .ret)))))))), [.tmp 4]⟩
theorem hc5 : X8 Tryz.prog {pure := [17, 18, 19, 20, 21, 22, 23], how := [(2, 6)]} Tryz.f5 = some c5 := by kernel_rfl
theorem hn5 : (Tryz.f5.name == "runtime.NumGoroutine") = false := by kernel_rfl
theorem serialWrites_ok (hG : MaxOK G) (hM : MaxLenOK G) (d : HDoc) (sm : DocSm d) (n : Int) : PCalls (Pg G) 5 [.agg (J4 d), Y0 n] (.bool true) := fun h => by
 have hF : PCalls (Pg G) 17 [.agg (J4 d), .int .i64 60] (.agg (J4 ⟨d.nodes.take 60, d.quirks⟩)) := few_ok (G := G) d 60 sm
 have fs := sm.few 60
 have dl : (J4 d).length = 2 := rfl
 generalize (⟨d.nodes.take 60, d.quirks⟩ : HDoc) = f at *
 have cH := html_ok (G := G) hG f fs n
 have cD := docErr_ok (G := G) f fs
 have cB := serialBegun_ok (G := G) hG hM
 have ee : (([] : List UInt8) == []) = true := rfl
 have fl : (J4 f).length = 2 := rfl
 have ft : (J4 f).take 2 = J4 f := rfl
 have fd : (J4 f).drop 2 = [] := rfl
 unfold htmlV at cH
 by_cases hd : docE f = 0
 ·have cT := stree_ok (G := G) f fs hd
  have V := (docE_iff f).1 hd
  have cR := refTree_ok (G := G) f V fs
  have z0 : (docE f != 0) = false := by rw [hd]; rfl
  rw [if_neg (by simpa using hd)] at cH
  rw [hd] at cD
  have tt : (treeM f != treeM f) = false := by simp
  by_cases hn : inD f n
  ·have n0 := hn.1
   have n1 := hn.2
   rw [if_neg (by simpa using hn)] at cH
   have cX := refHTML_ok (G := G) hG f V n hn
   have hh : (K3 f n == K3 f n) = true := by simp
   refine Z9 Tryz.func5 hn5 hc5 (by rw [Tryz.ntmps5]; simp) (by rw [Tryz.ntmps5]; decide) ?_
   simp -dsimp -implicitDefEqProofs (disch := omega) only [↓Q0 28, ↓Q1 28, ↓Q0 33, ↓Q1 33, ↓Q0 38, ↓Q1 38, ↓Q0 42, ↓Q1 42, ↓Q0 48, ↓Q1 48, ↓Q0 56, ↓Q1 56, ↓Q0 64, ↓Q1 64, ↓Q0 68, ↓Q1 68, ↓Q0 73, ↓Q1 73, ↓Q0 77, ↓Q1 77, VCA, Z1, ↓Q3, Nat.reduceEqDiff, Nat.reduceBEq, Nat.reduceAdd, Nat.reduceSub, Nat.reduceMul, Nat.reduceLT, Nat.reduceLeDiff, ↓reduceIte, reduceCtorEq, Z7, Q6, SOp.rd, SI.rd, SX.rd, rdL, rdO, rdP, Q5, Q4, Q2, Q8, Q7, Z0, implies_true, forall_const, forall_eq, ne_eq, exists_eq_right_right, exists_eq_right, exists_eq_left, exists_eq_left', Q9, Z3, Z8, Z6, Z4, J4, c5, J4]
   unfold J4 at *
   intro r2 hr2
   repeat' (first | ((with_reducible refine brC (fun _ => ?_) fun _ => ?_) <;> try (exfalso; omega)) | (with_reducible apply pcallE.of; · exact hF) | (with_reducible apply pcallE.of; · exact cH) | (with_reducible apply pcallE.of; · exact cT) | (with_reducible apply pcallE.of; · exact cD) | (with_reducible apply pcallE.of; · exact cR) | (with_reducible apply pcallE.of; · exact cB) | (with_reducible apply pcallE.of; · exact cX) | (with_reducible refine And.intro ?_ ?_; · omega) | simp -dsimp -implicitDefEqProofs (disch := omega) only [↓Q0 28, ↓Q1 28, ↓Q0 33, ↓Q1 33, ↓Q0 38, ↓Q1 38, ↓Q0 42, ↓Q1 42, ↓Q0 48, ↓Q1 48, ↓Q0 56, ↓Q1 56, ↓Q0 64, ↓Q1 64, ↓Q0 68, ↓Q1 68, ↓Q0 73, ↓Q1 73, ↓Q0 77, ↓Q1 77, VCA, Z1, ↓Q3, Nat.reduceEqDiff, Nat.reduceBEq, Nat.reduceAdd, Nat.reduceSub, Nat.reduceMul, Nat.reduceLT, Nat.reduceLeDiff, ↓reduceIte, reduceCtorEq, Z7, Q6, SOp.rd, SI.rd, SX.rd, rdL, rdO, rdP, Q5, Q4, Q2, Q8, Q7, Z0, implies_true, forall_const, forall_eq, ne_eq, exists_eq_right_right, exists_eq_right, exists_eq_left, exists_eq_left', Q9, Z3, Z8, Z6, Z4, J4, J5, List.append_nil])
   all_goals first | exact (Sub.refl h).upd hr2 | exact ⟨(Sub.refl h).upd hr2, by simp⟩ | (exfalso; exact absurd rfl (by assumption)) | trace_state
  ·rw [if_pos (by simpa using hn)] at cH
   have hn' : n < 0 \/ (f.nodes.length : Int) <= n := by unfold inD at hn; omega
   refine Z9 Tryz.func5 hn5 hc5 (by rw [Tryz.ntmps5]; simp) (by rw [Tryz.ntmps5]; decide) ?_
   simp -dsimp -implicitDefEqProofs (disch := omega) only [↓Q0 28, ↓Q1 28, ↓Q0 33, ↓Q1 33, ↓Q0 38, ↓Q1 38, ↓Q0 42, ↓Q1 42, ↓Q0 48, ↓Q1 48, ↓Q0 56, ↓Q1 56, ↓Q0 64, ↓Q1 64, ↓Q0 68, ↓Q1 68, ↓Q0 73, ↓Q1 73, ↓Q0 77, ↓Q1 77, VCA, Z1, ↓Q3, Nat.reduceEqDiff, Nat.reduceBEq, Nat.reduceAdd, Nat.reduceSub, Nat.reduceMul, Nat.reduceLT, Nat.reduceLeDiff, ↓reduceIte, reduceCtorEq, Z7, Q6, SOp.rd, SI.rd, SX.rd, rdL, rdO, rdP, Q5, Q4, Q2, Q8, Q7, Z0, implies_true, forall_const, forall_eq, ne_eq, exists_eq_right_right, exists_eq_right, exists_eq_left, exists_eq_left', Q9, Z3, Z8, Z6, Z4, J4, c5, J4]
   unfold J4 at *
   intro r2 hr2
   repeat' (first | ((with_reducible refine brC (fun _ => ?_) fun _ => ?_) <;> try (exfalso; omega)) | (with_reducible apply pcallE.of; · exact hF) | (with_reducible apply pcallE.of; · exact cH) | (with_reducible apply pcallE.of; · exact cT) | (with_reducible apply pcallE.of; · exact cD) | (with_reducible apply pcallE.of; · exact cR) | (with_reducible apply pcallE.of; · exact cB) | (with_reducible refine And.intro ?_ ?_; · omega) | simp -dsimp -implicitDefEqProofs (disch := omega) only [↓Q0 28, ↓Q1 28, ↓Q0 33, ↓Q1 33, ↓Q0 38, ↓Q1 38, ↓Q0 42, ↓Q1 42, ↓Q0 48, ↓Q1 48, ↓Q0 56, ↓Q1 56, ↓Q0 64, ↓Q1 64, ↓Q0 68, ↓Q1 68, ↓Q0 73, ↓Q1 73, ↓Q0 77, ↓Q1 77, VCA, Z1, ↓Q3, Nat.reduceEqDiff, Nat.reduceBEq, Nat.reduceAdd, Nat.reduceSub, Nat.reduceMul, Nat.reduceLT, Nat.reduceLeDiff, ↓reduceIte, reduceCtorEq, Z7, Q6, SOp.rd, SI.rd, SX.rd, rdL, rdO, rdP, Q5, Q4, Q2, Q8, Q7, Z0, implies_true, forall_const, forall_eq, ne_eq, exists_eq_right_right, exists_eq_right, exists_eq_left, exists_eq_left', Q9, Z3, Z8, Z6, Z4, J4, J5, List.append_nil, ee])
   all_goals first | exact (Sub.refl h).upd hr2 | exact ⟨(Sub.refl h).upd hr2, by simp⟩ | (exfalso; exact absurd rfl (by assumption)) | trace_state
 ·have cT := stree_bad (G := G) f fs hd
  have z0 : (docE f != 0) = true := by simpa using hd
  have z1 : (docE f == docE f) = true := by simp
  rw [if_pos hd] at cH
  refine Z9 Tryz.func5 hn5 hc5 (by rw [Tryz.ntmps5]; simp) (by rw [Tryz.ntmps5]; decide) ?_
  simp -dsimp -implicitDefEqProofs (disch := omega) only [↓Q0 28, ↓Q1 28, ↓Q0 33, ↓Q1 33, ↓Q0 38, ↓Q1 38, ↓Q0 42, ↓Q1 42, ↓Q0 48, ↓Q1 48, ↓Q0 56, ↓Q1 56, ↓Q0 64, ↓Q1 64, ↓Q0 68, ↓Q1 68, ↓Q0 73, ↓Q1 73, ↓Q0 77, ↓Q1 77, VCA, Z1, ↓Q3, Nat.reduceEqDiff, Nat.reduceBEq, Nat.reduceAdd, Nat.reduceSub, Nat.reduceMul, Nat.reduceLT, Nat.reduceLeDiff, ↓reduceIte, reduceCtorEq, Z7, Q6, SOp.rd, SI.rd, SX.rd, rdL, rdO, rdP, Q5, Q4, Q2, Q8, Q7, Z0, implies_true, forall_const, forall_eq, ne_eq, exists_eq_right_right, exists_eq_right, exists_eq_left, exists_eq_left', Q9, Z3, Z8, Z6, Z4, J4, c5, J4]
  unfold J4 at *
  intro r2 hr2
  repeat' (first | ((with_reducible refine brC (fun _ => ?_) fun _ => ?_) <;> try (exfalso; omega)) | (with_reducible apply pcallE.of; · exact hF) | (with_reducible apply pcallE.of; · exact cH) | (with_reducible apply pcallE.of; · exact cT) | (with_reducible apply pcallE.of; · exact cD) | (with_reducible apply pcallE.of; · exact cB) | (with_reducible refine And.intro ?_ ?_; · omega) | simp -dsimp -implicitDefEqProofs (disch := omega) only [↓Q0 28, ↓Q1 28, ↓Q0 33, ↓Q1 33, ↓Q0 38, ↓Q1 38, ↓Q0 42, ↓Q1 42, ↓Q0 48, ↓Q1 48, ↓Q0 56, ↓Q1 56, ↓Q0 64, ↓Q1 64, ↓Q0 68, ↓Q1 68, ↓Q0 73, ↓Q1 73, ↓Q0 77, ↓Q1 77, VCA, Z1, ↓Q3, Nat.reduceEqDiff, Nat.reduceBEq, Nat.reduceAdd, Nat.reduceSub, Nat.reduceMul, Nat.reduceLT, Nat.reduceLeDiff, ↓reduceIte, reduceCtorEq, Z7, Q6, SOp.rd, SI.rd, SX.rd, rdL, rdO, rdP, Q5, Q4, Q2, Q8, Q7, Z0, implies_true, forall_const, forall_eq, ne_eq, exists_eq_right_right, exists_eq_right, exists_eq_left, exists_eq_left', Q9, Z3, Z8, Z6, Z4, J4, J5, List.append_nil, ee, z0, z1])
  exact (Sub.refl h).upd hr2
end Go.Proofs.K
end
