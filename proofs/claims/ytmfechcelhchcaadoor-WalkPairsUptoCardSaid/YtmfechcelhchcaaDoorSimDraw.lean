/- Regions that draw their order: what only computes may be done first. -/
import Derived.Test.YtmfechcelhchcaaDoorSimVc
import Derived.Orders
namespace Go.Sim
open Go

section
variable {P : PG} {h h' : Heap} {e e' : Env}

theorem ev_congr {x : SX} (ha : ∀ t ∈ x.rd, e t = e' t) : ev e x = ev e' x := by
  cases x with
  | t n => exact ha n (by simp [SX.rd])
  | c v => rfl
theorem evO_congr {x : Option SX} (ha : ∀ t ∈ rdO x, e t = e' t) : evO e x = evO e' x := by
  cases x with
  | none => rfl
  | some x => simp only [evO, ev_congr (x := x) ha]
theorem evL_congr : ∀ {l : List SX}, (∀ t ∈ rdL l, e t = e' t) → l.map (ev e) = l.map (ev e')
  | [], _ => rfl
  | x :: r, ha => by
    simp only [List.map_cons]
    rw [ev_congr (x := x) (fun t ht => ha t (List.mem_append.2 (.inl ht))), evL_congr (l := r) (fun t ht => ha t (List.mem_append.2 (.inr ht)))]
theorem evP_congr : ∀ {l : List (Nat × Nat × SX)}, (∀ t ∈ rdP l, e t = e' t) → (l.map fun p => (p.1, p.2.1, ev e p.2.2)) = l.map fun p => (p.1, p.2.1, ev e' p.2.2)
  | [], _ => rfl
  | p :: r, ha => by
    simp only [List.map_cons]
    rw [ev_congr (x := p.2.2) (fun t ht => ha t (List.mem_append.2 (.inl ht))), evP_congr (l := r) (fun t ht => ha t (List.mem_append.2 (.inr ht)))]
theorem okParts_congr {sz : Nat} : ∀ {l : List SX}, (∀ t ∈ rdL l, e t = e' t) → okParts sz e l = okParts sz e' l
  | [], _ => rfl
  | x :: r, ha => by
    simp only [okParts]
    rw [ev_congr (x := x) (fun t ht => ha t (List.mem_append.2 (.inl ht))), okParts_congr (l := r) (fun t ht => ha t (List.mem_append.2 (.inr ht)))]
theorem evC_congr {l : List SX} (ha : ∀ t ∈ rdL l, e t = e' t) : (l.map fun x => cellsOf (ev e x)) = l.map fun x => cellsOf (ev e' x) := by
  have := congrArg (List.map cellsOf) (evL_congr (l := l) ha)
  simpa [List.map_map] using this

theorem agree_app {l1 l2 : List Nat} (ha : ∀ t ∈ l1 ++ l2, e t = e' t) : (∀ t ∈ l1, e t = e' t) ∧ ∀ t ∈ l2, e t = e' t :=
  ⟨fun t ht => ha t (List.mem_append.2 (.inl ht)), fun t ht => ha t (List.mem_append.2 (.inr ht))⟩

theorem fopk_congr {si : SI} (hg : si.gated = true) (ha : ∀ t ∈ si.rd, e t = e' t) : fop si e h = fop si e' h ∧ fok si e h = fok si e' h := by
  cases si with
  | mv x => simp only [fok, fop, ev_congr (x := x) ha, and_self]
  | pick c a b => obtain ⟨h1, h2⟩ := agree_app ha; obtain ⟨h2, h3⟩ := agree_app h2; simp only [fok, fop, ev_congr h1, ev_congr h2, ev_congr h3, and_self]
  | bin op x y => obtain ⟨h1, h2⟩ := agree_app ha; simp only [fok, fop, ev_congr h1, ev_congr h2, and_self]
  | eqs n ks x y => obtain ⟨h1, h2⟩ := agree_app ha; simp only [fok, fop, ev_congr h1, ev_congr h2, and_self]
  | eqb n x y => obtain ⟨h1, h2⟩ := agree_app ha; simp only [fok, fop, ev_congr h1, ev_congr h2, and_self]
  | un op x => simp only [fok, fop, ev_congr (x := x) ha, and_self]
  | cvi k x => simp only [fok, fop, ev_congr (x := x) ha, and_self]
  | idc x => simp only [fok, fop, ev_congr (x := x) ha, and_self]
  | fld o s b x => simp only [fok, fop, ev_congr (x := x) ha, and_self]
  | fldA o x => simp only [fok, fop, ev_congr (x := x) ha, and_self]
  | idxA s x i => obtain ⟨h1, h2⟩ := agree_app ha; simp only [fok, fop, ev_congr h1, ev_congr h2, and_self]
  | idxS x i => obtain ⟨h1, h2⟩ := agree_app ha; simp only [fok, fop, ev_congr h1, ev_congr h2, and_self]
  | ld s b x => simp only [fok, fop, ev_congr (x := x) ha, and_self]
  | slS x lo hi => obtain ⟨h1, h2⟩ := agree_app ha; obtain ⟨h2, h3⟩ := agree_app h2; simp only [fok, fop, ev_congr h1, evO_congr h2, evO_congr h3, and_self]
  | slA s x lo hi => obtain ⟨h1, h2⟩ := agree_app ha; obtain ⟨h2, h3⟩ := agree_app h2; simp only [fok, fop, ev_congr h1, evO_congr h2, evO_congr h3, and_self]
  | slM s x lo hi mx => obtain ⟨h1, h2⟩ := agree_app ha; obtain ⟨h2, h3⟩ := agree_app h2; obtain ⟨h3, h4⟩ := agree_app h3; simp only [fok, fop, ev_congr h1, evO_congr h2, evO_congr h3, evO_congr h4, and_self]
  | ext x i => simp only [fok, fop, ev_congr (x := x) ha, and_self]
  | bld z parts => simp only [fok, fop, evP_congr (l := parts) ha, and_self]
  | bldF ty s parts => cases hg
  | len x => simp only [fok, fop, ev_congr (x := x) ha, and_self]
  | lenS x => simp only [fok, fop, ev_congr (x := x) ha, and_self]
  | min2 x y => obtain ⟨h1, h2⟩ := agree_app ha; simp only [fok, fop, ev_congr h1, ev_congr h2, and_self]
  | max2 x y => obtain ⟨h1, h2⟩ := agree_app ha; simp only [fok, fop, ev_congr h1, ev_congr h2, and_self]
  | mkf f a b => obtain ⟨h1, h2⟩ := agree_app ha; simp only [fok, fop, evL_congr h1, evL_congr h2, and_self]
  | isnil k n x => cases hg
  | bldR ty s p => cases hg
  | box ty s x => cases hg
  | boxF ty s x => cases hg
  | new ty s z => cases hg
  | newnil ty s => cases hg
  | st s x v => cases hg
  | app ty s b x y => cases hg
  | appS ty b x y => cases hg
  | appIn ty s x y => cases hg
  | slX s x lo hi => cases hg
  | mks ty s b z m c => cases hg
  | copy s x y => cases hg
  | clear s z x => cases hg
  | call f args => cases hg
  | pcall f args => cases hg
  | b2s x => cases hg
  | usd x => cases hg
  | ustr ty x y => cases hg

/-- what an operation asks depends on the slots that it reads alone -/
theorem vcI_congr {si : SI} (ha : ∀ t ∈ si.rd, e t = e' t) {K : AVal → Heap → Prop} : vcI P si e h K = vcI P si e' h K := by
  by_cases hg : si.gated = true
  · have hf := fopk_congr (h := h) hg ha
    have hv : ∀ e, vcI P si e h K = (fok si e h ∧ K (fop si e h) h) := by
      intro e
      cases si <;> first | rfl | cases hg
    rw [hv, hv, hf.1, hf.2]
  cases si with
  | mv x => exact absurd rfl hg
  | pick c a b => exact absurd rfl hg
  | bin op x y => exact absurd rfl hg
  | eqs n ks x y => exact absurd rfl hg
  | eqb n x y => exact absurd rfl hg
  | un op x => exact absurd rfl hg
  | cvi k x => exact absurd rfl hg
  | idc x => exact absurd rfl hg
  | fld o s b x => exact absurd rfl hg
  | fldA o x => exact absurd rfl hg
  | idxA s x i => exact absurd rfl hg
  | idxS x i => exact absurd rfl hg
  | ld s b x => exact absurd rfl hg
  | slS x lo hi => exact absurd rfl hg
  | slA s x lo hi => exact absurd rfl hg
  | slM s x lo hi mx => exact absurd rfl hg
  | ext x i => exact absurd rfl hg
  | bld z parts => exact absurd rfl hg
  | len x => exact absurd rfl hg
  | lenS x => exact absurd rfl hg
  | min2 x y => exact absurd rfl hg
  | max2 x y => exact absurd rfl hg
  | mkf f a b => exact absurd rfl hg
  | bldF ty s parts => simp only [vcI, fop, evC_congr (l := parts) ha, okParts_congr (l := parts) ha]
  | isnil k n x => simp only [vcI, ev_congr (x := x) ha]
  | bldR ty s parts => simp only [vcI, litE, evC_congr (l := parts) ha, okParts_congr (l := parts) ha]
  | box ty s x => simp only [vcI, ev_congr (x := x) ha]
  | boxF ty s x => simp only [vcI, ev_congr (x := x) ha]
  | new ty s z => rfl
  | newnil ty s => rfl
  | st s x v => obtain ⟨h1, h2⟩ := agree_app ha; simp only [vcI, ev_congr h1, ev_congr h2]
  | app ty s b x y => obtain ⟨h1, h2⟩ := agree_app ha; simp only [vcI, ev_congr h1, ev_congr h2]
  | appS ty b x y => obtain ⟨h1, h2⟩ := agree_app ha; simp only [vcI, ev_congr h1, ev_congr h2]
  | appIn ty s x y => obtain ⟨h1, h2⟩ := agree_app ha; simp only [vcI, ev_congr h1, ev_congr h2]
  | slX s x lo hi => obtain ⟨h1, h2⟩ := agree_app ha; obtain ⟨h2, h3⟩ := agree_app h2; simp only [vcI, ev_congr h1, evO_congr h2, evO_congr h3]
  | mks ty s b z m c => obtain ⟨h1, h2⟩ := agree_app ha; simp only [vcI, ev_congr h1, ev_congr h2]
  | copy s x y => obtain ⟨h1, h2⟩ := agree_app ha; simp only [vcI, ev_congr h1, ev_congr h2]
  | clear s z x => simp only [vcI, ev_congr (x := x) ha]
  | call f args => obtain ⟨h1, h2⟩ := agree_app ha; simp only [vcI, ev_congr h1, evL_congr h2]
  | pcall f args => simp only [vcI, evL_congr (l := args) ha]
  | b2s x => simp only [vcI, ev_congr (x := x) ha]
  | usd x => simp only [vcI, ev_congr (x := x) ha]
  | ustr ty x y => obtain ⟨h1, h2⟩ := agree_app ha; simp only [vcI, ev_congr h1, ev_congr h2]

def SI.stb : SI → Bool
  | .pcall _ _ => true
  | si => si.stable
/-- what a stable operation yields depends on the roots that it reads -/
theorem fop_heap {si : SI} (hr : ∀ s b x r i j, si = .ld s b x → deVp (ev e x) = .ptr r i j → h r = h' r) : fop si e h = fop si e h' ∧ fok si e h = fok si e h' := by
  cases si <;> first | exact ⟨rfl, rfl⟩ | skip
  rename_i s b x
  have := hr s b x
  simp only [fop, fok, aLd, okLd]
  cases hx : deVp (ev e x) <;> first | exact ⟨rfl, rfl⟩ | skip
  rename_i r i j
  have hh := this r i j rfl hx
  simp only [aLd0, okLd0, hh, and_self]

theorem gated_stb {si : SI} (h1 : si.gated = true) : si.stb = true := by cases si <;> first | rfl | cases h1
theorem vcG_congr {s : Nat} {b : Bool} {si : SI} (ha : ∀ t ∈ si.rd, e t = e' t) (hs : e s = e' s) {K : AVal → Heap → Prop} : vcG P s b si e h K = vcG P s b si e' h K := by
  have hv : ∀ K, vcI P si e h K = vcI P si e' h K := fun K => vcI_congr ha
  unfold vcG
  split
  · rename_i f args
    rw [hs, evL_congr (l := args) ha]
  · have hf : si.gated = true → fop si e h = fop si e' h ∧ fok si e h = fok si e' h := by
      intro hg
      exact fopk_congr hg ha
    rw [hs, hv]
    split
    · rename_i hg; rw [(hf hg).1, (hf hg).2]
    · rfl
end

/-! ## The order -/
def preOf (ops : Array Oper) (i : Nat) : List Nat :=
  match ops[i]? with
  | some o => (o.after.toList.filter fun e => Region.binds .any e).map (·.on)
  | none => []
def dd : List Nat → List Nat
  | [] => []
  | x :: r => if (dd r).contains x then dd r else x :: dd r
def ancTbl (ops : Array Oper) : List Nat → List (Nat × List Nat) → List (Nat × List Nat)
  | [], T => T
  | i :: r, T => ancTbl ops r ((i, dd (preOf ops i ++ (preOf ops i).flatMap fun p => (T.lookup p).getD [])) :: T)
def ancIn (T : List (Nat × List Nat)) (i : Nat) : List Nat := (T.lookup i).getD []
def effOf (sops : List SOp) (T : List (Nat × List Nat)) (i : Nat) : Bool :=
  match sops[i]? with
  | some op => !op.si.stb || (match op.dst with
    | some d => op.rd.contains d || (List.range sops.length).any fun j => j != i && (match sops[j]? with
      | some o2 => (o2.rd.contains d && !(ancIn T j).contains i) || o2.dst == some d
      | none => false)
    | none => true)
  | none => true
def slotOK (sops : List SOp) (T : List (Nat × List Nat)) (i : Nat) : Bool :=
  match sops[i]? with
  | some op => match op.dst with
    | some d => (List.range sops.length).all fun j => j == i || (match sops[j]? with
      | some o2 => !o2.rd.contains d || (ancIn T j).contains i || (ancIn T i).contains j
      | none => true)
    | none => true
  | none => false
def isAlloc (ops : Array Oper) (i : Nat) : Bool :=
  match ops[i]? with
  | some o => (match o.op with | .alloc _ => true | _ => false)
  | none => false
/-- a variable of the region's own that may be made at any time: only what does something, behind it, reads it -/
def dlyOf (ops : Array Oper) (sops : List SOp) (T : List (Nat × List Nat)) (eff : Nat → Bool) (i : Nat) : Bool :=
  isAlloc ops i && match sops[i]? with
  | some ⟨some d, .new _ _ _, none⟩ => (List.range sops.length).all fun j => j == i || (match sops[j]? with
      | some o2 => o2.dst != some d && (!o2.rd.contains d || (eff j && (ancIn T j).contains i)) && (eff j || !(preOf ops j).contains i)
      | none => true)
  | _ => false
/-- what has been loaded for certain ahead of an operation -/
def ancD (sops : List SOp) (T : List (Nat × List Nat)) (i : Nat) : List Nat :=
  (ancIn T i).filterMap fun j => match sops[j]? with
    | some (SOp.mk (some d) (SI.ld _ _ _) _) => some d
    | _ => none
def flg (sops : List SOp) (T : List (Nat × List Nat)) (eff : Nat → Bool) (i : Nat) : Option (List Nat) := if eff i = true then some (ancD sops T i) else none
def chkL (ops : Array Oper) (sops : List SOp) (T : List (Nat × List Nat)) (eff dly : Nat → Bool) : List Nat → List Nat → Bool
  | _, [] => true
  | done, i :: r => decide (i < sops.length) && (preOf ops i).all (fun p => done.contains p) && !done.contains i &&
      (if eff i then ((List.range sops.length).all fun s => eff s || done.contains s || (preOf ops s).any fun p => !done.contains p) && (r.all fun j => !eff j || (dly j || (ancIn T j).contains i)) && slotOK sops T i else true) &&
      chkL ops sops T eff dly (i :: done) r
/-- stable ones first; what may be made at any time last -/
def sfo (ops : Array Oper) (eff dly : Nat → Bool) (n : Nat) : Nat → List Nat → List Nat
  | 0, _ => []
  | f + 1, done =>
    match (List.range n).find? fun i => !done.contains i && !eff i && (preOf ops i).all fun p => done.contains p with
    | some i => i :: sfo ops eff dly n f (i :: done)
    | none => match (List.range n).find? fun i => !done.contains i && !dly i && (preOf ops i).all fun p => done.contains p with
      | some i => i :: sfo ops eff dly n f (i :: done)
      | none => match (List.range n).find? fun i => !done.contains i && (preOf ops i).all fun p => done.contains p with
        | some i => i :: sfo ops eff dly n f (i :: done)
        | none => []
def toSD (P : Program) (ann : Ann) (n : Nat) (ops : Array Oper) : Option (List (SOp × Option (List Nat))) :=
  (toSOps P ann n ops ops.toList).bind fun sops =>
    let T := ancTbl ops (List.range sops.length) []
    let effs := (List.range sops.length).map (effOf sops T)
    let eff := fun i => effs.getD i true
    let dlys := (List.range sops.length).map (dlyOf ops sops T eff)
    let dly := fun i => dlys.getD i true
    let L := sfo ops eff dly sops.length sops.length []
    if P.follows .mixedOrders = true ∧ ((List.range sops.length).all fun i => (preOf ops i).all fun p => decide (p < i)) = true ∧ ((List.range sops.length).all fun i => L.contains i) = true ∧ chkL ops sops T eff dly [] L = true then
      some (L.map fun i => (sops.getD i ⟨none, .mv (.c .dead), none⟩, flg sops T eff i))
    else none

theorem dd_sub : ∀ (l : List Nat) (x : Nat), x ∈ dd l → x ∈ l
  | [], x, h => by cases h
  | y :: r, x, h => by
    unfold dd at h
    split at h
    · exact List.mem_cons_of_mem _ (dd_sub r x h)
    · rcases List.mem_cons.1 h with rfl | h
      · exact List.mem_cons_self
      · exact List.mem_cons_of_mem _ (dd_sub r x h)

def Closed (ops : Array Oper) (A : Nat → Prop) : Prop := ∀ i, A i → ∀ p ∈ preOf ops i, A p
def TblOK (ops : Array Oper) (T : List (Nat × List Nat)) : Prop := ∀ i l, T.lookup i = some l → ∀ j ∈ l, ∀ A : Nat → Prop, Closed ops A → (∀ p ∈ preOf ops i, A p) → A j
theorem ancTbl_ok (ops : Array Oper) : ∀ (l : List Nat) (T : List (Nat × List Nat)), TblOK ops T → TblOK ops (ancTbl ops l T)
  | [], _, h => h
  | i :: r, T, h => by
    refine ancTbl_ok ops r _ fun k l hk j hj A hA hp => ?_
    rw [List.lookup_cons] at hk
    split at hk
    · rename_i hki
      have hki : k = i := by simpa using hki
      subst hki
      cases hk
      rcases List.mem_append.1 (dd_sub _ _ hj) with h1 | h1
      · exact hp j h1
      · obtain ⟨p, hpp, hjp⟩ := List.mem_flatMap.1 h1
        cases hl : T.lookup p with
        | none => rw [hl] at hjp; cases hjp
        | some l' => rw [hl] at hjp; exact h p l' hl j hjp A hA (hA p (hp p hpp))
    · exact h k l hk j hj A hA hp
theorem anc_in {ops : Array Oper} {T : List (Nat × List Nat)} (hT : TblOK ops T) {i j : Nat} (hj : (ancIn T i).contains j = true) {A : Nat → Prop} (hA : Closed ops A) (hp : ∀ p ∈ preOf ops i, A p) : A j := by
  unfold ancIn at hj
  cases hl : T.lookup i with
  | none => rw [hl] at hj; simp at hj
  | some l => rw [hl] at hj; exact hT i l hl j (by simpa using hj) A hA hp

theorem filter_lt {p q : Nat → Bool} : ∀ {l : List Nat} {i : Nat}, i ∈ l → p i = true → q i = false → (∀ x, q x = true → p x = true) → (l.filter q).length < (l.filter p).length
  | x :: r, i, hi, hp, hq, hh => by
    have hle : (r.filter q).length ≤ (r.filter p).length := by
      clear hi
      induction r with
      | nil => simp
      | cons y r ih =>
        simp only [List.filter_cons]
        cases hqy : q y with
        | true => rw [hh y hqy]; simpa using ih
        | false => cases p y <;> simp <;> omega
    rcases List.mem_cons.1 hi with rfl | hi
    · simp only [List.filter_cons, hp, hq, if_true, Bool.false_eq_true, if_false, List.length_cons]
      omega
    · have := filter_lt hi hp hq hh
      simp only [List.filter_cons]
      cases hqx : q x with
      | true => rw [hh x hqx]; simpa using this
      | false => cases p x <;> simp <;> omega

theorem ready_iff {ops : Array Oper} {listed : Array Bool} {i : Nat} : i ∈ Region.ready .any ops listed ↔ i < ops.size ∧ listed.getD i true = false ∧ ∀ p ∈ preOf ops i, listed.getD p false = true := by
  unfold Region.ready
  rw [List.mem_filter, List.mem_range]
  constructor
  · rintro ⟨hi, h⟩
    simp only [Bool.and_eq_true, Bool.not_eq_true'] at h
    refine ⟨hi, h.1, fun p hp => ?_⟩
    have h2 := h.2
    rw [Array.getElem?_eq_getElem hi] at h2
    simp only [Option.map_some, Option.getD_some] at h2
    unfold preOf at hp
    rw [Array.getElem?_eq_getElem hi] at hp
    simp only [List.mem_map, List.mem_filter, Array.mem_toList_iff] at hp
    obtain ⟨ed, ⟨hed, hb⟩, rfl⟩ := hp
    have := Array.all_eq_true'.1 h2 ed hed
    simpa [hb] using this
  · rintro ⟨hi, h1, h2⟩
    refine ⟨hi, ?_⟩
    rw [Array.getElem?_eq_getElem hi]
    simp only [Option.map_some, Option.getD_some, Bool.and_eq_true, Bool.not_eq_true']
    refine ⟨h1, Array.all_eq_true'.2 fun ed hed => ?_⟩
    cases hb : Region.binds .any ed with
    | false => simp
    | true =>
      have := h2 ed.on (by
        unfold preOf
        rw [Array.getElem?_eq_getElem hi]
        simp only [List.mem_map, List.mem_filter, Array.mem_toList_iff]
        exact ⟨ed, ⟨hed, hb⟩, rfl⟩)
      simp [this]

section
variable {P : PG} {h h' : Heap} {e e' : Env}

/-- what a stable operation comes to -/
def stbR (P : PG) (si : SI) (e : Env) (h : Heap) (r : AVal) : Prop :=
  match si with
  | .pcall f args => PCalls P f (args.map (ev e)) r
  | .bldF ty sz parts => okParts sz e parts ∧ r = fop (.bldF ty sz parts) e h
  | si => fok si e h ∧ r = fop si e h
theorem vcI_stb {si : SI} (hs : si.stb = true) {K : AVal → Heap → Prop} : vcI P si e h K ↔ ∃ r, stbR P si e h r ∧ K r h := by
  cases si <;> first
    | (cases hs; done)
    | exact Iff.rfl
    | exact ⟨fun ⟨h1, h2⟩ => ⟨_, ⟨h1, rfl⟩, h2⟩, fun ⟨r, ⟨h1, h2⟩, h3⟩ => by subst h2; exact ⟨h1, h3⟩⟩
theorem stbR_heap {si : SI} (_hs : si.stb = true) (hr : ∀ s b x r i j, si = .ld s b x → deVp (ev e x) = .ptr r i j → h r = h' r) {r : AVal} (k : stbR P si e h r) : stbR P si e h' r := by
  obtain ⟨h1, h2⟩ := fop_heap hr
  cases si <;> first
    | exact k
    | exact ⟨k.1, k.2⟩
    | exact ⟨h2 ▸ k.1, h1 ▸ k.2⟩

def SV (P : PG) (op : SOp) (e : Env) (h : Heap) (r : AVal) : Prop := vcV P op e h fun r' h' => r' = r ∧ h' = h

theorem vcV_congr {op : SOp} (ha : ∀ t ∈ op.rd, e t = e' t) {K : AVal → Heap → Prop} : vcV P op e h K = vcV P op e' h K := by
  obtain ⟨dst, si, g⟩ := op
  cases g with
  | none => exact vcI_congr fun t ht => ha t (List.mem_append.2 (.inl ht))
  | some sb =>
    obtain ⟨s, b⟩ := sb
    exact vcG_congr (fun t ht => ha t (List.mem_append.2 (.inl ht))) (ha s (List.mem_append.2 (.inr (by simp))))

theorem vcI_mono {si : SI} {K K' : AVal → Heap → Prop} (hk : vcI P si e h K) (hm : ∀ r h', K r h' → K' r h') : vcI P si e h K' := by
  have app : ∀ {ty sz b : Nat} {x : AVal} {es2 : List (List AVal)}, appE ty sz b x es2 h K → appE ty sz b x es2 h K' := by
    intro ty sz b x es2 hk
    cases x <;> try exact hk.elim
    · exact ⟨hk.1, hk.2.1, fun r hr => hm _ _ (hk.2.2 r hr)⟩
    · obtain ⟨h1, ob, h2, h3, h4, h5, h6, h7⟩ := hk
      exact ⟨h1, ob, h2, h3, h4, h5, h6, fun r hr => hm _ _ (h7 r hr)⟩
  cases si with
  | isnil k neg x =>
    have hk : nilE k neg (ev e x) (fun r => K r h) := hk
    show nilE k neg (ev e x) (fun r => K' r h)
    unfold nilE at hk ⊢
    split <;> simp_all
  | bldR ty sz parts => exact ⟨hk.1, fun r hr => hm _ _ (hk.2 r hr)⟩
  | box ty sz x => exact ⟨hk.1, hk.2.1, fun r hr => hm _ _ (hk.2.2 r hr)⟩
  | boxF ty sz x => exact ⟨hk.1, hk.2.1, hm _ _ hk.2.2⟩
  | new ty sz z => exact fun r hr => hm _ _ (hk r hr)
  | newnil ty sz => exact fun r hr => hm _ _ (hk r hr)
  | st size x v =>
    have hk : stE size (ev e x) (ev e v) h K := hk
    show stE size (ev e x) (ev e v) h K'
    revert hk
    cases ev e x <;> intro hk <;> try exact hk.elim
    · obtain ⟨ob, h1, h2, h3, h4, h5, h6⟩ := hk
      exact ⟨ob, h1, h2, h3, h4, h5, hm _ _ h6⟩
    · obtain ⟨ob, h1, h2, h3, h4, h5, h6⟩ := hk
      exact ⟨ob, h1, h2, h3, h4, h5, hm _ _ h6⟩
  | app ty sz b x y =>
    obtain ⟨es2, h1, h2⟩ := hk
    exact ⟨es2, h1, app h2⟩
  | appS ty b x y =>
    obtain ⟨l, h1, h2⟩ := hk
    exact ⟨l, h1, app h2⟩
  | appIn ty sz x y =>
    obtain ⟨es2, h1, hk⟩ := hk
    refine ⟨es2, h1, ?_⟩
    revert hk
    cases ev e x <;> intro hk <;> try exact hk.elim
    obtain ⟨h1, ob, h2, h3, h4⟩ := hk
    exact ⟨h1, ob, h2, h3, hm _ _ h4⟩
  | slX sz x lo hi =>
    have hk : slXE sz (ev e x) (evO e lo) (evO e hi) h K := hk
    show slXE sz (ev e x) (evO e lo) (evO e hi) h K'
    revert hk
    cases ev e x <;> intro hk <;> try exact hk.elim
    obtain ⟨h1, ob, h2, h3, h4, h5, h6, h7, h8⟩ := hk
    exact ⟨h1, ob, h2, h3, h4, h5, h6, h7, hm _ _ h8⟩
  | mks ty sz b z m c =>
    have hk : mksE ty sz b z (ev e m) (ev e c) h K := hk
    show mksE ty sz b z (ev e m) (ev e c) h K'
    revert hk
    cases ev e m <;> cases ev e c <;> intro hk <;> try exact hk.elim
    obtain ⟨h1, h2, h3, h4, h5⟩ := hk
    exact ⟨h1, h2, h3, h4, fun r hr => hm _ _ (h5 r hr)⟩
  | copy sz x y =>
    obtain ⟨es2, h1, hk⟩ := hk
    refine ⟨es2, h1, ?_⟩
    revert hk
    cases ev e x <;> intro hk <;> try exact hk.elim
    obtain ⟨h1, ob, h2, h3, h4⟩ := hk
    exact ⟨h1, ob, h2, h3, hm _ _ h4⟩
  | clear sz z x =>
    have hk : clearE sz z (ev e x) h K := hk
    show clearE sz z (ev e x) h K'
    revert hk
    cases ev e x <;> intro hk <;> try exact hk.elim
    obtain ⟨h1, ob, h2, h3, h4⟩ := hk
    exact ⟨h1, ob, h2, h3, hm _ _ h4⟩
  | call f args =>
    have hk : callE P (ev e f) (args.map (ev e)) h K := hk
    show callE P (ev e f) (args.map (ev e)) h K'
    revert hk
    cases ev e f <;> intro hk <;> try exact hk.elim
    exact DCalls.mono hk hm
  | pcall f args =>
    obtain ⟨v, h1, h2⟩ := hk
    exact ⟨v, h1, hm _ _ h2⟩
  | b2s x =>
    obtain ⟨l, h1, h2⟩ := hk
    exact ⟨l, h1, hm _ _ h2⟩
  | usd x =>
    have hk : usdE (ev e x) h K := hk
    show usdE (ev e x) h K'
    revert hk
    cases ev e x <;> intro hk <;> try exact hk.elim
    · exact hm _ _ hk
    · exact ⟨hk.1, hm _ _ hk.2⟩
  | ustr ty x y =>
    have hk : ustrE ty (ev e x) (ev e y) h K := hk
    show ustrE ty (ev e x) (ev e y) h K'
    unfold ustrE at hk ⊢
    split
    · simp_all
    · simp_all
      obtain ⟨h1, l, ob, h2, h3, h4, h5, h6, h7, h8, h9, h10⟩ := hk
      exact ⟨l, ob, h2, h3, h4, h5, h6, h7, h8, h9, hm _ _ h10⟩
    · simp_all
  | _ => exact ⟨hk.1, hm _ _ hk.2⟩
theorem gateP_mono {v : AVal} {b : Bool} {ok ok' k k' : Prop} (hk : gateP v b ok k) (h1 : ok → ok') (h2 : k → k') : gateP v b ok' k' := by
  obtain ⟨t, ht, k1, k2⟩ := gateP_out hk
  rw [gateP_w ht]; exact ⟨fun h => h1 (k1 h), h2 k2⟩
theorem gateE_mono {v : AVal} {b : Bool} {ok ok' k k' : Prop} (hk : gateE v b ok k) (h1 : ok → ok') (h2 : k → k') : gateE v b ok' k' := by
  obtain ⟨t, ht, k1, k2⟩ := gateE_out hk
  rw [gateE_w ht]; exact ⟨fun h => h1 (k1 h), fun h => h2 (k2 h)⟩
theorem vcV_mono {op : SOp} {K K' : AVal → Heap → Prop} (hk : vcV P op e h K) (hm : ∀ r h', K r h' → K' r h') : vcV P op e h K' := by
  obtain ⟨dst, si, g⟩ := op
  cases g with
  | none => exact vcI_mono (si := si) hk hm
  | some sb =>
    obtain ⟨s, b⟩ := sb
    have hk : vcG P s b si e h K := hk
    show vcG P s b si e h K'
    unfold vcG at hk ⊢
    split at hk
    · obtain ⟨v, hk⟩ := hk
      exact ⟨v, gateP_mono hk id (hm _ _)⟩
    · split at hk
      · rename_i hg; rw [if_pos hg]; exact gateP_mono hk id (hm _ _)
      · rename_i hg; rw [if_neg hg]; exact gateE_mono hk (fun h => vcI_mono h hm) (hm _ _)

theorem vcG_other {s : Nat} {b : Bool} {si : SI} {K : AVal → Heap → Prop} (hn : ¬ ∃ f args, si = .pcall f args) :
    vcG P s b si e h K = (if si.gated = true then gateP (e s) b (fok si e h) (K (gateV (e s) b (fop si e h)) h) else gateE (e s) b (vcI P si e h K) (K (.tup []) h)) := by
  cases si <;> first | rfl | exact absurd ⟨_, _, rfl⟩ hn

theorem stable_split {op : SOp} (hs : op.si.stb = true) {K : AVal → Heap → Prop} (hk : vcV P op e h K) : ∃ r, SV P op e h r ∧ K r h := by
  obtain ⟨dst, si, g⟩ := op
  cases g with
  | none =>
    obtain ⟨r, h1, h2⟩ := (vcI_stb (si := si) hs).1 hk
    refine ⟨r, ?_, h2⟩
    show vcI P si e h (fun r' h' => r' = r ∧ h' = h)
    exact (vcI_stb hs).2 ⟨r, h1, rfl, rfl⟩
  | some sb =>
    obtain ⟨s, b⟩ := sb
    have hk : vcG P s b si e h K := hk
    show ∃ r, vcG P s b si e h (fun r' h' => r' = r ∧ h' = h) ∧ K r h
    by_cases hp : ∃ f args, si = .pcall f args
    · obtain ⟨f, args, rfl⟩ := hp
      obtain ⟨v, hk⟩ := hk
      obtain ⟨t, het, h1, h2⟩ := gateP_out hk
      refine ⟨_, ⟨v, ?_⟩, h2⟩
      rw [gateP_w het]
      exact ⟨h1, rfl, rfl⟩
    · rw [vcG_other hp] at hk
      by_cases hg : si.gated = true
      · rw [if_pos hg] at hk
        obtain ⟨t, het, h1, h2⟩ := gateP_out hk
        refine ⟨_, ?_, h2⟩
        rw [vcG_other hp, if_pos hg, gateP_w het]
        exact ⟨h1, rfl, rfl⟩
      · rw [if_neg hg] at hk
        obtain ⟨t, het, h1, h2⟩ := gateE_out hk
        cases t with
        | true =>
          obtain ⟨r, h3, h4⟩ := (vcI_stb (si := si) hs).1 (h1 rfl)
          refine ⟨r, ?_, h4⟩
          rw [vcG_other hp, if_neg hg, gateE_w het]
          exact ⟨fun _ => (vcI_stb hs).2 ⟨r, h3, rfl, rfl⟩, fun hne => by cases hne⟩
        | false =>
          refine ⟨.tup [], ?_, h2 rfl⟩
          rw [vcG_other hp, if_neg hg, gateE_w het]
          exact ⟨(fun h => by cases h), fun _ => ⟨rfl, rfl⟩⟩

theorem SV.heap {op : SOp} (hs : op.si.stb = true) {r : AVal} (hk : SV P op e h r) (hr : ∀ t ∈ rootsOf op e, h' t = h t) : SV P op e h' r := by
  have hroot : ∀ s b x r i j, op.si = .ld s b x → deVp (ev e x) = .ptr r i j → h r = h' r := by
    intro s b x r i j h1 h2
    exact (hr r (by simp [rootsOf, h1, h2])).symm
  obtain ⟨dst, si, g⟩ := op
  cases g with
  | none =>
    have hk : vcI P si e h (fun r' h' => r' = r ∧ h' = h) := hk
    obtain ⟨r', h1, rfl, _⟩ := (vcI_stb (si := si) hs).1 hk
    show vcI P si e h' (fun r'' h'' => r'' = r' ∧ h'' = h')
    exact (vcI_stb hs).2 ⟨r', stbR_heap hs hroot h1, rfl, rfl⟩
  | some sb =>
    obtain ⟨s, b⟩ := sb
    have hk : vcG P s b si e h (fun r' h' => r' = r ∧ h' = h) := hk
    show vcG P s b si e h' (fun r' h'' => r' = r ∧ h'' = h')
    by_cases hp : ∃ f args, si = .pcall f args
    · obtain ⟨f, args, rfl⟩ := hp
      obtain ⟨v, hk⟩ := hk
      obtain ⟨t, het, h1, h2, _⟩ := gateP_out hk
      refine ⟨v, ?_⟩
      rw [gateP_w het]
      exact ⟨h1, h2, rfl⟩
    · rw [vcG_other hp] at hk ⊢
      by_cases hg : si.gated = true
      · rw [if_pos hg] at hk ⊢
        obtain ⟨t, het, h1, h2, _⟩ := gateP_out hk
        obtain ⟨e1, e2⟩ := fop_heap (h' := h') hroot
        rw [gateP_w het, ← e1, ← e2]
        exact ⟨h1, h2, rfl⟩
      · rw [if_neg hg] at hk ⊢
        obtain ⟨t, het, h1, h2⟩ := gateE_out hk
        rw [gateE_w het]
        refine ⟨fun htb => ?_, fun hne => ⟨(h2 hne).1, rfl⟩⟩
        obtain ⟨r', h3, rfl, _⟩ := (vcI_stb (si := si) hs).1 (h1 htb)
        exact (vcI_stb hs).2 ⟨r', stbR_heap hs hroot h3, rfl, rfl⟩

theorem rootsOf_congr {op : SOp} (ha : ∀ t ∈ op.rd, e t = e' t) : rootsOf op e = rootsOf op e' := by
  unfold rootsOf
  split
  · rename_i s b x hx
    have : ev e x = ev e' x := ev_congr fun t ht => ha t (List.mem_append.2 (.inl (by rw [hx]; exact ht)))
    rw [this]
  · rfl

theorem toSOps_get {ann : Ann} {n : Nat} {ops : Array Oper} : ∀ {l : List Oper} {sl : List SOp}, toSOps P ann n ops l = some sl → sl.length = l.length ∧ ∀ (i : Nat) (o : Oper), l[i]? = some o → ∃ op, sl[i]? = some op ∧ toSOp P ann n ops o = some op
  | [], sl, ht => by simp [toSOps] at ht; subst ht; simp
  | o :: r, sl, ht => by
    simp only [toSOps, Option.bind_eq_some_iff, Option.map_eq_some_iff] at ht
    obtain ⟨s, hs, sr, hsr, rfl⟩ := ht
    obtain ⟨h1, h2⟩ := toSOps_get hsr
    refine ⟨by simp [h1], fun i o' hi => ?_⟩
    cases i with
    | zero => simp at hi; subst hi; exact ⟨s, rfl, hs⟩
    | succ i => simp at hi ⊢; exact h2 i o' hi
end

/-! ## The theorem -/
def opAt (sops : List SOp) (i : Nat) : SOp := sops.getD i ⟨none, .mv (.c .dead), none⟩

/-- a variable that has been made already, and is taken up later -/
def Pend (sops : List SOp) (g : Ghost) (w0 w : World) (a : Act) (i b : Nat) : Prop :=
  ∃ (d ty sz : Nat) (z : List AVal) (cur : Array Value), opAt sops i = ⟨some d, .new ty sz z, none⟩ ∧ d < 1000000 ∧ a.tmps.getD d undef = .pointer (some ⟨b, 0, none⟩) ∧ w.heap[b]? = some (.cells cur ty (0, 0)) ∧ cur.size = sz ∧ z.length = sz ∧ 0 < sz ∧
    (∀ (j : Nat) (u : Value) (x : AVal), cur[j]? = some u → z[j]? = some x → u.oneCell' = true ∧ ∀ g w, VRel g w u x) ∧ ¬ Own g b ∧ ¬ g.fz b ∧ w0.heap.size ≤ b

structure DI (P : PG) (ops : Array Oper) (sops : List SOp) (T : List (Nat × List Nat)) (eff dly : Nat → Bool) (n : Nat) (g0 : Ghost) (w0 : World) (K : Env → Heap → Prop)
    (A : Nat → Prop) (Pn : List (Nat × Nat)) (V R : List Nat) (e : Env) (h : Heap) (rs : List (Nat × Nat)) (a : Act) (w : World) : Prop where
  vR : ∀ i, i < sops.length → i ∈ V ∨ i ∈ R
  Vlt : ∀ i ∈ V, i < sops.length
  Vcl : ∀ i ∈ V, ∀ p ∈ preOf ops i, p ∈ V
  Acl : ∀ i, A i → ∀ p ∈ preOf ops i, A p
  Asub : ∀ i, A i → i ∈ V ∨ ∃ b, (i, b) ∈ Pn
  Pn1 : ∀ i b, (i, b) ∈ Pn → A i ∧ i ∉ V ∧ i < sops.length ∧ dly i = true
  Pn2 : Pn.Pairwise fun p q => p.1 ≠ q.1 ∧ p.2 ≠ q.2
  chk : chkL ops sops T eff dly V R = true
  st : ∀ i ∈ V, ¬ A i → eff i = false
  E : ∃ ea g, ERel n ea g w a ∧ HRel h g w ∧ GS g0 w0 g w ∧ MK w0 a ∧ (∀ t, (∀ j ∈ V, ¬ A j → (opAt sops j).dst ≠ some t) → (∀ p ∈ Pn, (opAt sops p.1).dst ≠ some t) → ea t = e t) ∧ ∀ i b, (i, b) ∈ Pn → Pend sops g w0 w a i b
  sv : ∀ i ∈ V, ¬ A i → ∀ d, (opAt sops i).dst = some d → SV P (opAt sops i) e h (e d)
  rt : ∀ i ∈ V, ¬ A i → ∀ t ∈ rootsOf (opAt sops i) e, ((opAt sops i).dst.getD 0, t) ∈ rs
  vcd : vcD P (R.map fun i => (opAt sops i, flg sops T eff i)) rs e h K

section
variable {P : PG} {ann : Ann} {ops : Array Oper} {sops : List SOp} {T : List (Nat × List Nat)} {eff dly : Nat → Bool} {n : Nat} {g0 : Ghost} {w0 : World} {K : Env → Heap → Prop}

theorem opAt_get {i : Nat} (hi : i < sops.length) : sops[i]? = some (opAt sops i) := getD_getElem? sops i _ hi

theorem eff_false {i : Nat} (heff : ∀ i, i < sops.length → eff i = effOf sops T i) (hi : i < sops.length) (h : eff i = false) : (opAt sops i).si.stb = true ∧ ∃ d, (opAt sops i).dst = some d ∧ d ∉ (opAt sops i).rd ∧
    ∀ j, j < sops.length → j ≠ i → (d ∈ (opAt sops j).rd → (ancIn T j).contains i = true) ∧ (opAt sops j).dst ≠ some d := by
  rw [heff i hi] at h
  unfold effOf at h
  rw [opAt_get hi] at h
  simp only [Bool.or_eq_false_iff, Bool.not_eq_false'] at h
  obtain ⟨h1, h2⟩ := h
  refine ⟨h1, ?_⟩
  cases hd : (opAt sops i).dst with
  | none => rw [hd] at h2; cases h2
  | some d =>
    rw [hd] at h2
    simp only [Bool.or_eq_false_iff] at h2
    obtain ⟨h0, h2⟩ := h2
    refine ⟨d, rfl, by simpa using h0, fun j hj hne => ?_⟩
    have h3 := List.any_eq_false.1 h2 j (List.mem_range.2 hj)
    rw [opAt_get hj] at h3
    simp only [Bool.and_eq_true, bne_iff_ne, ne_eq, Bool.or_eq_true, Bool.not_eq_true', beq_iff_eq] at h3
    refine ⟨fun hr => ?_, fun hd' => h3 ⟨hne, .inr hd'⟩⟩
    cases hc : (ancIn T j).contains i with
    | true => rfl
    | false => exact absurd ⟨hne, .inl ⟨by simpa using hr, hc⟩⟩ h3

theorem slotOK_out {i d : Nat} (hi : i < sops.length) (h : slotOK sops T i = true) (hd : (opAt sops i).dst = some d) : ∀ j, j < sops.length → j ≠ i → d ∈ (opAt sops j).rd → (ancIn T j).contains i = true ∨ (ancIn T i).contains j = true := by
  unfold slotOK at h
  rw [opAt_get hi] at h
  simp only [hd] at h
  intro j hj hne hr
  have h3 := List.all_eq_true.1 h j (List.mem_range.2 hj)
  rw [opAt_get hj] at h3
  simp only [Bool.or_eq_true, beq_iff_eq, Bool.not_eq_true'] at h3
  rcases h3 with h3 | (h3 | h3) | h3
  · exact absurd h3 hne
  · have : (opAt sops j).rd.contains d = true := by simpa using hr
    rw [this] at h3; cases h3
  · exact .inl h3
  · exact .inr h3

theorem chkL_cons {V : List Nat} {i : Nat} {r : List Nat} (h : chkL ops sops T eff dly V (i :: r) = true) : i < sops.length ∧ (∀ p ∈ preOf ops i, p ∈ V) ∧ i ∉ V ∧ chkL ops sops T eff dly (i :: V) r = true ∧
    (eff i = true → (∀ s, s < sops.length → eff s = false → s ∈ V ∨ ∃ p ∈ preOf ops s, p ∉ V) ∧ (∀ j ∈ r, eff j = true → dly j = true ∨ (ancIn T j).contains i = true) ∧ slotOK sops T i = true) := by
  simp only [chkL, Bool.and_eq_true, decide_eq_true_eq, List.all_eq_true, Bool.not_eq_true'] at h
  obtain ⟨⟨⟨⟨h1, h2⟩, h3⟩, h4⟩, h5⟩ := h
  refine ⟨h1, fun p hp => by simpa using h2 p hp, by simpa using h3, h5, fun he => ?_⟩
  rw [if_pos he] at h4
  simp only [Bool.and_eq_true, List.all_eq_true] at h4
  obtain ⟨⟨h6, h7⟩, h8⟩ := h4
  refine ⟨fun s hs hes => ?_, fun j hj hej => ?_, h8⟩
  · have := h6 s (List.mem_range.2 hs)
    simp only [hes, Bool.false_or, Bool.or_eq_true, List.any_eq_true, Bool.not_eq_true'] at this
    rcases this with h9 | ⟨p, hp, h9⟩
    · exact .inl (by simpa using h9)
    · exact .inr ⟨p, hp, by simpa using h9⟩
  · have := h7 j hj
    simpa only [hej, Bool.not_true, Bool.false_or, Bool.or_eq_true] using this

theorem flg_true {i : Nat} (h : eff i = true) : flg sops T eff i = some (ancD sops T i) := if_pos h
theorem flg_false {i : Nat} (h : eff i = false) : flg sops T eff i = none := if_neg (by rw [h]; simp)
theorem dly_out {i : Nat} (hdly : ∀ i, i < sops.length → dly i = dlyOf ops sops T eff i) (hi : i < sops.length) (h : dly i = true) : isAlloc ops i = true ∧ ∃ d ty sz z, opAt sops i = ⟨some d, .new ty sz z, none⟩ ∧ ∀ j, j < sops.length → j ≠ i →
    (opAt sops j).dst ≠ some d ∧ (d ∈ (opAt sops j).rd → eff j = true ∧ (ancIn T j).contains i = true) ∧ (i ∈ preOf ops j → eff j = true) := by
  rw [hdly i hi] at h
  unfold dlyOf at h
  rw [opAt_get hi, Bool.and_eq_true] at h
  obtain ⟨h0, h⟩ := h
  split at h
  · rename_i d ty sz z he
    refine ⟨h0, d, ty, sz, z, Option.some.inj he, fun j hj hne => ?_⟩
    have h3 := List.all_eq_true.1 h j (List.mem_range.2 hj)
    rw [opAt_get hj] at h3
    simp only [Bool.or_eq_true, beq_iff_eq, Bool.and_eq_true, bne_iff_ne, ne_eq, Bool.not_eq_true'] at h3
    rcases h3 with h3 | ⟨⟨h4, h5⟩, h6⟩
    · exact absurd h3 hne
    · refine ⟨h4, fun hr => ?_, fun hp => ?_⟩
      · rcases h5 with h5 | h5
        · rw [show (opAt sops j).rd.contains d = true by simpa using hr] at h5; cases h5
        · exact h5
      · rcases h6 with h6 | h6
        · exact h6
        · rw [show (preOf ops j).contains i = true by simpa using hp] at h6; cases h6
  · cases h
theorem GS.addTo2 {g0 g : Ghost} {w0 w : World} (S : GS g0 w0 g w) {blk : Nat} (bo cap sz : Nat) (hb : w0.heap.size ≤ blk) : GS g0 w0 (g.add blk bo cap sz) w := by
  refine ⟨S.toGStep.trans (GStep.add g w blk bo cap sz), S.own, fun b hlt ⟨r, hr, hc, he⟩ => ?_, fun b h1 h2 h3 => S.fzn b h1 h2 h3, fun b h => S.fzc b h⟩
  by_cases hrn : r = g.nxt
  · subst hrn
    simp only [Ghost.add, upd_same] at hc he
    omega
  · have hr' : r < g.nxt := by simp only [Ghost.add] at hr; omega
    refine S.new b hlt ⟨r, hr', ?_, ?_⟩
    · simpa only [Ghost.add, upd_ne _ _ hrn] using hc
    · simpa only [Ghost.add, upd_ne _ _ hrn] using he
/-- what is pending stays so while something else is done -/
theorem Pend.step {g g' : Ghost} {w0 w w' : World} {a a' : Act} {i b : Nat} (hp : Pend sops g w0 w a i b) (S : GS g w g' w') (ht : ∀ d, (opAt sops i).dst = some d → a'.tmps.getD d undef = a.tmps.getD d undef) : Pend sops g' w0 w' a' i b := by
  obtain ⟨d, ty, sz, z, cur, ho, hd, hv, hc, h1, h2, h3, h4, h5, h6, h7⟩ := hp
  have hlt : b < w.heap.size := (Array.getElem?_eq_some_iff.1 hc).1
  refine ⟨d, ty, sz, z, cur, ho, hd, (ht d (by rw [ho])).trans hv, (S.own b hlt (.inl h5)).trans hc, h1, h2, h3, h4, fun h => h5 (S.new b hlt h), fun h => h6 (S.fzn b hlt h5 h), h7⟩
/-- the next one that does something has been done -/
theorem DI.eff_step (heff : ∀ i, i < sops.length → eff i = effOf sops T i) (hT : TblOK ops T) {A A' : Nat → Prop} {Pn Pn' : List (Nat × Nat)} {V r : List Nat} {i : Nat} {e : Env} {h h' : Heap} {rs : List (Nat × Nat)} {a a' : Act} {w w' : World} {v : AVal}
    (D : DI P ops sops T eff dly n g0 w0 K A Pn V (i :: r) e h rs a w) (hef : eff i = true) (hA' : ∀ k, A' k ↔ k = i ∨ A k) (hpre : ∀ p ∈ preOf ops i, A p) (hPn : ∀ k b, (k, b) ∈ Pn' ↔ k ≠ i ∧ (k, b) ∈ Pn) (hPn2 : Pn'.Pairwise fun p q => p.1 ≠ q.1 ∧ p.2 ≠ q.2)
    (hroots : keepR ((opAt sops i).rd ++ ancD sops T i) rs h h') (hrest : vcD P (r.map fun i => (opAt sops i, flg sops T eff i)) (dropR ((opAt sops i).rd ++ ancD sops T i) rs) (setD e (opAt sops i).dst v) h' K)
    (hE : ∃ ea g, ERel n ea g w' a' ∧ HRel h' g w' ∧ GS g0 w0 g w' ∧ MK w0 a' ∧ (∀ t, (∀ j ∈ V, ¬ A j → (opAt sops j).dst ≠ some t) → (∀ p ∈ Pn', (opAt sops p.1).dst ≠ some t) → ea t = setD e (opAt sops i).dst v t) ∧ ∀ i b, (i, b) ∈ Pn' → Pend sops g w0 w' a' i b) :
    DI P ops sops T eff dly n g0 w0 K A' Pn' (i :: V) r (setD e (opAt sops i).dst v) h' (dropR ((opAt sops i).rd ++ ancD sops T i) rs) a' w' := by
  obtain ⟨hiN, hp0, hiV, hchk, hC⟩ := chkL_cons D.chk
  obtain ⟨hC1, hC2, hC3⟩ := hC hef
  have agree : ∀ j ∈ V, ¬ A j → ∀ t ∈ (opAt sops j).rd, e t = setD e (opAt sops i).dst v t := by
    intro j hj hnj t ht
    cases hd : (opAt sops i).dst with
    | none => rfl
    | some d =>
      have hji : j ≠ i := fun hh => hiV (hh ▸ hj)
      have : t ≠ d := by
        rintro rfl
        rcases slotOK_out hiN hC3 hd j (D.Vlt j hj) hji ht with h1 | h1
        · exact hiV (anc_in hT h1 (A := fun x => x ∈ V) D.Vcl (D.Vcl j hj))
        · exact hnj (anc_in hT h1 (A := A) D.Acl hpre)
      simp only [setD]
      rw [upd_ne e v this]
  have dstne : ∀ j ∈ V, ¬ A j → ∀ d', (opAt sops j).dst = some d' → (opAt sops i).dst ≠ some d' := by
    intro j hj hnj d' hd'
    have hji : j ≠ i := fun hh => hiV (hh ▸ hj)
    obtain ⟨_, d, hd, _, hoth⟩ := eff_false heff (D.Vlt j hj) (D.st j hj hnj)
    rw [hd'] at hd; cases hd
    exact (hoth i hiN (fun h => hji h.symm)).2
  have unread : ∀ j ∈ V, ¬ A j → ((opAt sops i).rd ++ ancD sops T i).contains ((opAt sops j).dst.getD 0) = false := by
    intro j hj hnj
    have hji : j ≠ i := fun hh => hiV (hh ▸ hj)
    obtain ⟨_, d, hd, _, hoth⟩ := eff_false heff (D.Vlt j hj) (D.st j hj hnj)
    rw [hd]
    cases hc : ((opAt sops i).rd ++ ancD sops T i).contains d with
    | false => exact hc
    | true =>
      exfalso
      rw [List.contains_iff_mem, List.mem_append] at hc
      rcases hc with hc | hc
      · have h1 := (hoth i hiN (fun h => hji h.symm)).1 hc
        exact hnj (anc_in hT h1 (A := A) D.Acl hpre)
      · unfold ancD at hc
        rw [List.mem_filterMap] at hc
        obtain ⟨k, hk, hkd⟩ := hc
        have hkA : A k := anc_in hT (by simpa using hk) (A := A) D.Acl hpre
        have hkN : k < sops.length := by
          cases hs : sops[k]? with
          | none => rw [hs] at hkd; cases hkd
          | some o => exact (List.getElem?_eq_some_iff.1 hs).1
        rw [opAt_get hkN] at hkd
        have hkd2 : (opAt sops k).dst = some d := by
          generalize opAt sops k = o at hkd ⊢
          split at hkd
          · rename_i d' s b x gd ho
            cases ho
            simpa using hkd
          · cases hkd
        have hkj : k ≠ j := fun hh => hnj (hh ▸ hkA)
        exact (hoth k hkN hkj).2 hkd2
  have nA : ∀ k, k ∈ i :: V → ¬ A' k → k ∈ V ∧ ¬ A k := by
    intro k hk hnk
    rcases List.mem_cons.1 hk with rfl | hk
    · exact absurd ((hA' k).2 (.inl rfl)) hnk
    · exact ⟨hk, fun h => hnk ((hA' k).2 (.inr h))⟩
  obtain ⟨ea, g, E, H, S, hM, hag, hPd⟩ := hE
  refine ⟨fun k hk => ?_, fun k hk => ?_, fun k hk p hpk => ?_, fun k hk p hp => ?_, fun k hk => ?_, fun k b hk => ?_, hPn2, hchk, fun k hk hnk => ?_, ⟨ea, g, E, H, S, hM, fun t ht ht2 => ?_, hPd⟩, fun k hk hnk d' hd' => ?_, fun k hk hnk t ht => ?_, hrest⟩
  · rcases D.vR k hk with h1 | h1
    · exact .inl (List.mem_cons_of_mem _ h1)
    · rcases List.mem_cons.1 h1 with rfl | h1
      · exact .inl List.mem_cons_self
      · exact .inr h1
  · rcases List.mem_cons.1 hk with rfl | hk
    · exact hiN
    · exact D.Vlt k hk
  · rcases List.mem_cons.1 hk with rfl | hk
    · exact List.mem_cons_of_mem _ (hp0 p hpk)
    · exact List.mem_cons_of_mem _ (D.Vcl k hk p hpk)
  · rw [hA'] at hk ⊢
    rcases hk with rfl | hk
    · exact .inr (hpre p hp)
    · exact .inr (D.Acl k hk p hp)
  · rcases (hA' k).1 hk with rfl | hk
    · exact .inl List.mem_cons_self
    · rcases D.Asub k hk with h1 | ⟨b, h1⟩
      · exact .inl (List.mem_cons_of_mem _ h1)
      · by_cases hki : k = i
        · subst hki; exact .inl List.mem_cons_self
        · exact .inr ⟨b, (hPn k b).2 ⟨hki, h1⟩⟩
  · obtain ⟨hki, hk⟩ := (hPn k b).1 hk
    obtain ⟨h1, h2, h3, h4⟩ := D.Pn1 k b hk
    refine ⟨(hA' k).2 (.inr h1), fun hm => ?_, h3, h4⟩
    rcases List.mem_cons.1 hm with hm | hm
    · exact hki hm
    · exact h2 hm
  · obtain ⟨h1, h2⟩ := nA k hk hnk
    exact D.st k h1 h2
  · refine hag t (fun j hj hnj => ?_) ht2
    have hji : j ≠ i := fun hh => hiV (hh ▸ hj)
    exact ht j (List.mem_cons_of_mem _ hj) (fun h => by rcases (hA' j).1 h with h1 | h1; exact hji h1; exact hnj h1)
  · obtain ⟨h1, h2⟩ := nA k hk hnk
    have hne := dstne k h1 h2 d' hd'
    have hed : setD e (opAt sops i).dst v d' = e d' := by
      cases hd : (opAt sops i).dst with
      | none => rfl
      | some d =>
        simp only [setD]
        exact upd_ne e v (fun h => hne (by rw [hd, h]))
    rw [hed]
    have hs := D.sv k h1 h2 d' hd'
    have hstb := (eff_false heff (D.Vlt k h1) (D.st k h1 h2)).1
    have hs2 : SV P (opAt sops k) (setD e (opAt sops i).dst v) h (e d') := by
      unfold SV at hs ⊢
      rw [← vcV_congr (agree k h1 h2)]
      exact hs
    refine hs2.heap hstb fun t ht => ?_
    rw [← rootsOf_congr (agree k h1 h2)] at ht
    exact hroots _ (D.rt k h1 h2 t ht) (unread k h1 h2)
  · obtain ⟨h1, h2⟩ := nA k hk hnk
    rw [← rootsOf_congr (agree k h1 h2)] at ht
    refine List.mem_filter.2 ⟨D.rt k h1 h2 t ht, ?_⟩
    have := unread k h1 h2
    simp only [this, Bool.not_false]
theorem pw_mem {α : Type} {R : α → α → Prop} : ∀ {l : List α}, l.Pairwise R → ∀ {p q : α}, p ∈ l → q ∈ l → p ≠ q → R p q ∨ R q p
  | x :: r, h, p, q, hp, hq, hne => by
    rw [List.pairwise_cons] at h
    rcases List.mem_cons.1 hp with hp | hp <;> rcases List.mem_cons.1 hq with hq | hq
    · exact absurd (hp.trans hq.symm) hne
    · rw [hp]; exact .inl (h.1 q hq)
    · rw [hq]; exact .inr (h.1 p hp)
    · exact pw_mem h.2 hp hq hne
/-- taking up what is pending -/
theorem DI.adopt (heff : ∀ i, i < sops.length → eff i = effOf sops T i) (hT : TblOK ops T) {A : Nat → Prop} {Pn : List (Nat × Nat)} {V r : List Nat} {i b : Nat} {e : Env} {h : Heap} {rs : List (Nat × Nat)} {a : Act} {w : World}
    (D : DI P ops sops T eff dly n g0 w0 K A Pn V (i :: r) e h rs a w) (hef : eff i = true) (hb : (i, b) ∈ Pn) : ∃ e' h' rs', DI P ops sops T eff dly n g0 w0 K A (Pn.filter fun p => p.1 != i) (i :: V) r e' h' rs' a w := by
  obtain ⟨hAi, hiV, hiN, hdl⟩ := D.Pn1 i b hb
  obtain ⟨ea, g, E, H, S, hM, hag, hPd⟩ := D.E
  obtain ⟨d, ty, sz, z, cur, ho, hd6, hv, hc, hcs, hzl, hs0, hcell, hown, hfz, hlo⟩ := hPd i b hb
  have hlt : b < w.heap.size := (Array.getElem?_eq_some_iff.1 hc).1
  have hvcd := D.vcd
  simp only [List.map_cons, flg_true hef, vcD, vcOp, ho] at hvcd
  have hvcd := (show ∀ r0, h r0 = none → _ from hvcd) g.nxt H.none_nxt
  obtain ⟨hroots, hrest⟩ := hvcd
  have H' := H.add (blk := b) (bo := 0) (cap := 1) (sz := sz) (ty := ty) (es := [z]) hs0 (by simpa using hzl) (by simp) (.inr ⟨hlt, hfz, (fun r0 ob hr hc0 he => hown ⟨r0, (H.obj r0 ob hr).lt, hc0, he⟩), cur, hc, by omega, fun k j f x hf hx => by
    cases k with
    | succ k => simp at hf
    | zero =>
      simp at hf; subst hf
      have hj := (List.getElem?_eq_some_iff.1 hx).1
      have hju : j < cur.size := by omega
      obtain ⟨h1, h2⟩ := hcell j _ x (Array.getElem?_eq_getElem hju) hx
      exact ⟨_, by rw [Nat.zero_mul, Nat.zero_add, Nat.zero_add]; exact Array.getElem?_eq_getElem hju, h1, h2 g w⟩⟩)
  have St' : GStep g w (g.add b 0 1 sz) w := GStep.add g w b 0 1 sz
  have hvr : VRel (g.add b 0 1 sz) w (a.tmps.getD d undef) (.vp g.nxt 0) := by
    rw [hv]
    have := VRel.vp (g := g.add b 0 1 sz) (w := w) g.nxt 0 (Nat.lt_succ_self _) (by simp [Ghost.add]) (by simp [Ghost.add])
    simpa [Ghost.add] using this
  have newown : ∀ c, c ≠ b → Own (g.add b 0 1 sz) c → Own g c := by
    rintro c hcb ⟨r0, hr0, hc0, he0⟩
    by_cases hrn : r0 = g.nxt
    · subst hrn
      simp only [Ghost.add, upd_same] at he0
      exact absurd he0.symm hcb
    · exact ⟨r0, by simp only [Ghost.add] at hr0; omega, by simpa only [Ghost.add, upd_ne _ _ hrn] using hc0, by simpa only [Ghost.add, upd_ne _ _ hrn] using he0⟩
  have E' : ERel n (upd ea d (.vp g.nxt 0)) (g.add b 0 1 sz) w a := by
    refine ⟨⟨fun x hx => ?_, E.defers.two⟩, E.size, E.bnd, fun t ht => ?_, fun c => ?_⟩
    · obtain ⟨m, h1, h2, h3, h4⟩ := E.defers.one x hx
      refine ⟨m, h1, h2, fun hh => h3 (newown m ?_ hh), h4⟩
      rintro rfl
      rw [hc] at h2; cases h2
    · unfold upd
      split
      · rename_i e1; subst e1; exact hvr
      · exact (E.slot t ht).step St'
    · rw [upd_ne _ _ (by omega)]
      exact (E.glo c).step St'
  have hPn : ∀ k c, (k, c) ∈ Pn.filter (fun p => p.1 != i) ↔ k ≠ i ∧ (k, c) ∈ Pn := fun k c => by rw [List.mem_filter]; simp [and_comm]
  refine ⟨_, _, _, D.eff_step (A' := A) (v := .vp g.nxt 0) heff hT hef (fun k => ⟨fun h => .inr h, fun h => h.elim (fun e => e ▸ hAi) id⟩) (D.Acl i hAi) hPn (D.Pn2.sublist List.filter_sublist) (by rw [ho]; exact hroots) (by rw [ho]; exact hrest) ⟨_, _, E', H', S.addTo2 0 1 sz hlo, hM, fun t ht ht2 => ?_, fun k c hk => ?_⟩⟩
  · rw [ho]
    simp only [setD, upd]
    split
    · rfl
    · rename_i htd
      refine hag t ht fun p hp => ?_
      by_cases hpi : p.1 = i
      · rw [hpi, ho]; exact fun hh => htd (Option.some.inj hh).symm
      · exact ht2 p ((hPn p.1 p.2).2 ⟨hpi, hp⟩)
  · obtain ⟨hki, hk⟩ := (hPn k c).1 hk
    have hcb : c ≠ b := by
      have hne : ((k, c) : Nat × Nat) ≠ (i, b) := fun hh => hki (congrArg Prod.fst hh)
      rcases pw_mem D.Pn2 hk hb hne with h1 | h1
      · exact h1.2
      · exact fun hh => h1.2 hh.symm
    obtain ⟨d2, ty2, sz2, z2, cur2, q1, q2, q3, q4, q5, q6, q7, q8, q9, q10, q11⟩ := hPd k c hk
    exact ⟨d2, ty2, sz2, z2, cur2, q1, q2, q3, q4, q5, q6, q7, q8, fun hh => q9 (newown c hcb hh), q10, q11⟩
theorem DI.advance (heff : ∀ i, i < sops.length → eff i = effOf sops T i) (hT : TblOK ops T) {A : Nat → Prop} {a : Act} {w : World} : ∀ (R V : List Nat) (Pn : List (Nat × Nat)) (e : Env) (h : Heap) (rs : List (Nat × Nat)), DI P ops sops T eff dly n g0 w0 K A Pn V R e h rs a w →
    ∃ Pn' V' R' e' h' rs', DI P ops sops T eff dly n g0 w0 K A Pn' V' R' e' h' rs' a w ∧ (R' = [] ∨ ∃ i r, R' = i :: r ∧ eff i = true ∧ ¬ A i)
  | [], V, Pn, e, h, rs, D => ⟨Pn, V, [], e, h, rs, D, .inl rfl⟩
  | i :: r, V, Pn, e, h, rs, D => by
    obtain ⟨hi, hp, hnV, hchk, _⟩ := chkL_cons D.chk
    cases hef : eff i with
    | true =>
      by_cases hAi : A i
      · rcases D.Asub i hAi with h1 | ⟨b, hb⟩
        · exact absurd h1 hnV
        · obtain ⟨e', h', rs', D'⟩ := D.adopt heff hT hef hb
          exact DI.advance heff hT r _ _ _ _ _ D'
      · exact ⟨Pn, V, i :: r, e, h, rs, D, .inr ⟨i, r, rfl, hef, hAi⟩⟩
    | false =>
      obtain ⟨hstb, d, hd, hself, hoth⟩ := eff_false heff hi hef
      have hv := D.vcd
      simp only [List.map_cons, flg_false hef, vcD, vcOp] at hv
      obtain ⟨v, hSV, hrest⟩ := stable_split hstb hv
      rw [hd] at hrest
      have hnA : ¬ A i := fun ha => by
        rcases D.Asub i ha with h1 | ⟨b, hb⟩
        · exact hnV h1
        · obtain ⟨_, _, _, hdl⟩ := D.Pn1 i b hb
          obtain ⟨_, _, _, _, _, _, _, ho, _⟩ : ∃ x1 x2 x3 x4 x5 x6 x7, opAt sops i = ⟨some x1, .new x2 x3 x4, none⟩ ∧ x5 = x6 + x7 := by
            obtain ⟨ea, g, _, _, _, _, _, hPd⟩ := D.E
            obtain ⟨d, ty, sz, z, _, ho, _⟩ := hPd i b hb
            exact ⟨d, ty, sz, z, 0, 0, 0, ho, rfl⟩
          rw [ho] at hstb; cases hstb
      have agree : ∀ j ∈ V, ∀ t ∈ (opAt sops j).rd, e t = upd e d v t := by
        intro j hj t ht
        have hji : j ≠ i := fun hh => hnV (hh ▸ hj)
        have : t ≠ d := by
          rintro rfl
          have := (hoth j (D.Vlt j hj) hji).1 ht
          exact hnV (anc_in hT this (A := fun x => x ∈ V) D.Vcl (D.Vcl j hj))
        rw [upd_ne e v this]
      have agreei : ∀ t ∈ (opAt sops i).rd, e t = upd e d v t := by
        intro t ht
        have : t ≠ d := by rintro rfl; exact hself ht
        rw [upd_ne e v this]
      refine DI.advance heff hT r (i :: V) Pn (upd e d v) h (rsOf (opAt sops i) e ++ rs) ⟨fun k hk => ?_, fun k hk => ?_, fun k hk p hpk => ?_, D.Acl, fun k hk => ?_, fun k b hk => ?_, D.Pn2, hchk, fun k hk hA => ?_, ?_, fun k hk hA d' hd' => ?_, fun k hk hA t ht => ?_, hrest⟩
      · rcases D.vR k hk with h1 | h1
        · exact .inl (List.mem_cons_of_mem _ h1)
        · rcases List.mem_cons.1 h1 with rfl | h1
          · exact .inl List.mem_cons_self
          · exact .inr h1
      · rcases List.mem_cons.1 hk with rfl | hk
        · exact hi
        · exact D.Vlt k hk
      · rcases List.mem_cons.1 hk with rfl | hk
        · exact List.mem_cons_of_mem _ (hp p hpk)
        · exact List.mem_cons_of_mem _ (D.Vcl k hk p hpk)
      · exact (D.Asub k hk).imp (List.mem_cons_of_mem _) id
      · obtain ⟨h1, h2, h3, h4⟩ := D.Pn1 k b hk
        refine ⟨h1, fun hm => ?_, h3, h4⟩
        rcases List.mem_cons.1 hm with rfl | hm
        · exact hnA h1
        · exact h2 hm
      · rcases List.mem_cons.1 hk with rfl | hk
        · exact hef
        · exact D.st k hk hA
      · obtain ⟨ea, g, E, H, S, hM, hag, hPd⟩ := D.E
        refine ⟨ea, g, E, H, S, hM, fun t ht ht2 => ?_, hPd⟩
        have htd : t ≠ d := by
          rintro rfl
          exact ht i List.mem_cons_self hnA hd
        rw [upd_ne e v htd]
        exact hag t (fun j hj hA => ht j (List.mem_cons_of_mem _ hj) hA) ht2
      · rcases List.mem_cons.1 hk with rfl | hk
        · rw [hd] at hd'; cases hd'
          rw [upd_same]
          unfold SV at hSV ⊢
          rw [← vcV_congr agreei]
          exact hSV
        · have hki : k ≠ i := fun hh => hnV (hh ▸ hk)
          have hdd : d' ≠ d := fun hh => (hoth k (D.Vlt k hk) hki).2 (hh ▸ hd')
          rw [upd_ne e v hdd]
          have := D.sv k hk hA d' hd'
          unfold SV at this ⊢
          rw [← vcV_congr (agree k hk)]
          exact this
      · rcases List.mem_cons.1 hk with rfl | hk
        · rw [← rootsOf_congr agreei] at ht
          exact List.mem_append.2 (.inl (List.mem_map.2 ⟨t, ht, rfl⟩))
        · rw [← rootsOf_congr (agree k hk)] at ht
          exact List.mem_append.2 (.inr (D.rt k hk hA t ht))

def unl (N : Nat) (listed : Array Bool) : Nat := ((List.range N).filter fun i => !listed.getD i false).length

theorem getD_set {listed : Array Bool} {i k : Nat} (hi : i < listed.size) : (listed.setIfInBounds i true).getD k false = if k = i then true else listed.getD k false := by
  simp only [Array.getD_eq_getD_getElem?, Array.getElem?_setIfInBounds]
  by_cases h : i = k
  · subst h; simp [hi]
  · rw [if_neg h, if_neg (fun h' => h h'.symm)]

theorem DI.done {A : Nat → Prop} {a : Act} {w : World} {Pn : List (Nat × Nat)} {V R : List Nat} {e : Env} {h : Heap} {rs : List (Nat × Nat)} (D : DI P ops sops T eff dly n g0 w0 K A Pn V R e h rs a w) (hhead : R = [] ∨ ∃ i r, R = i :: r ∧ eff i = true ∧ ¬ A i) (hall : ∀ i, i < sops.length → A i) : Lift n g0 w0 K a w := by
  have hR : R = [] := by
    rcases hhead with h | ⟨i, r, rfl, _, hA⟩
    · exact h
    · exact absurd (hall i (chkL_cons D.chk).1) hA
  subst hR
  have hPn : Pn = [] := by
    cases Pn with
    | nil => rfl
    | cons p r =>
      obtain ⟨_, h2, h3, _⟩ := D.Pn1 p.1 p.2 List.mem_cons_self
      rcases D.vR p.1 h3 with h | h
      · exact absurd h h2
      · cases h
  subst hPn
  obtain ⟨ea, g, E, H, S, hM, hag, _⟩ := D.E
  have : ea = e := funext fun t => hag t (fun j hj hA => absurd (hall j (D.Vlt j hj)) hA) (fun p hp => by cases hp)
  subst this
  exact ⟨ea, h, g, D.vcd, E, H, S, hM⟩

/-- what makes a variable, in the program -/
theorem toSI_new {o : Oper} {t ty sz : Nat} {z : List AVal} (ho : o.op = .alloc t) (h : toSI P.p ann o = some (.new ty sz z)) : t = ty ∧ zeroT P.p ty = some z ∧ 0 < sz ∧ z.length = sz := by
  unfold toSI at h
  rw [ho] at h
  simp only [Option.bind_eq_some_iff] at h
  obtain ⟨s, hs, z', hz, h⟩ := h
  split at h
  · rename_i hc
    cases h
    exact ⟨rfl, hz, hc.1, hc.2⟩
  · cases h
theorem toSOp_dst {o : Oper} {op : SOp} (h : toSOp P.p ann n ops o = some op) : o.dst = op.dst := by
  unfold toSOp at h
  simp only [Option.bind_eq_some_iff] at h
  obtain ⟨si, hsi, h⟩ := h
  split at h
  · split at h
    · cases h; rfl
    · rw [Option.bind_eq_some_iff] at h
      obtain ⟨s, _, h⟩ := h
      split at h
      · cases h; rfl
      · cases h
  · cases h
/-- a variable made ahead of its turn -/
theorem new_ahead {o : Oper} {t : Nat} {op : SOp} {i d ty sz : Nat} {z : List AVal} {ea : Env} {h : Heap} {g : Ghost} {a : Act} {w : World} (ho : o.op = .alloc t) (hto : toSOp P.p ann n ops o = some op) (he : op = ⟨some d, .new ty sz z, none⟩) (hop : opAt sops i = op) (E : ERel n ea g w a) (H : HRel h g w) (S : GS g0 w0 g w) (hM : MK w0 a)
    {next : Act → World → Prop} {Q : Exit → Act → World → Prop}
    (hn : ∀ a' w' b, ERel n (upd ea d .dead) g w' a' → HRel h g w' → GS g0 w0 g w' → GS g w g w' → MK w0 a' → b = w.heap.size → (∀ t, t ≠ d → a'.tmps.getD t undef = a.tmps.getD t undef) → Pend sops g w0 w' a' i b → next a' w') :
    if Region.wanted o (yielded ops a.tmps) then o.wp P a w next Q ∨ (o.asks P a w ∧ LetsOut Q) else next (a.put o.dst undef) w := by
  subst he
  unfold toSOp at hto
  simp only [Option.bind_eq_some_iff] at hto
  obtain ⟨si, hsi, hto⟩ := hto
  split at hto
  case isFalse => cases hto
  rename_i hd
  have hd := dstOK_out hd
  split at hto
  case h_2 =>
    rw [Option.bind_eq_some_iff] at hto
    obtain ⟨s, _, hto⟩ := hto
    split at hto
    · simp at hto
    · cases hto
  rename_i hg
  simp only [Option.some.injEq, SOp.mk.injEq] at hto
  obtain ⟨hdst, hsie, _⟩ := hto
  subst hsie
  obtain ⟨rfl, hz, hs0, hzl⟩ := toSI_new ho hsi
  have hw : Region.wanted o (yielded ops a.tmps) = true := by simp [Region.wanted, hg]
  rw [if_pos hw]
  refine .inl ?_
  obtain ⟨inf, zv, hi, hzv, hc⟩ := zeroT_out (g := g) (w := w) hz
  have hrun : (execOp a.eval o).run P.p w = .ok (.value (.pointer (some ⟨w.heap.size, 0, none⟩))) (w.alloc (.cells zv.cells t)) := by
    simp [execOp, ho, Instr.alloc, zeroValue, typeInfo, hi, hzv, newVar, newRow]
  unfold Oper.wp
  rw [hrun]
  obtain ⟨s1, H'⟩ := H.alloc (.cells zv.cells t)
  have hdn : d < n := hd d hdst
  have hE := (E.step s1).put (v := .pointer (some ⟨w.heap.size, 0, none⟩)) (x := .dead) hd (.dead _)
  rw [hdst] at hE
  refine hn _ _ w.heap.size ?_ H' (S.trans s1) s1 (hM.put _ _) rfl (fun t htd => ?_) ⟨d, t, sz, z, zv.cells, hop, by have := E.bnd; omega, ?_, (MapKept.heap_alloc w _).1, by rw [hc.1, hzl], hzl, hs0, fun j u x hu hx => ⟨hc.2.1 j u hu, fun g1 w1 => ?_⟩, fun ho2 => ?_, fun hf => ?_, S.size⟩
  · rw [hdst]; exact hE
  · rw [hdst]
    simp only [Act.put, Array.getD_eq_getD_getElem?, Array.getElem?_setIfInBounds]
    rw [if_neg (fun hh => htd hh.symm)]
  · rw [hdst]
    have := E.size
    simp only [Act.put, Array.getD_eq_getD_getElem?, Array.getElem?_setIfInBounds]
    simp only [if_true]
    rw [if_pos (by omega)]; rfl
  · obtain ⟨inf1, zv1, hi1, hzv1, hc1⟩ := zeroT_out (g := g1) (w := w1) hz
    rw [hi] at hi1; cases hi1
    rw [hzv] at hzv1; cases hzv1
    exact hc1.2.2 j u x hu hx
  · obtain ⟨cur, _, _, hh⟩ := H.ow _ ho2
    have := (Array.getElem?_eq_some_iff.1 hh).1
    omega
  · have := H.fz _ hf
    omega

theorem draw_aux (GR : GRel P.gl g0 w0) (hsops : toSOps P ann n ops ops.toList = some sops) (heff : ∀ i, i < sops.length → eff i = effOf sops T i) (hdly : ∀ i, i < sops.length → dly i = dlyOf ops sops T eff i) (hT : TblOK ops T) (hpred : ∀ i, i < sops.length → ∀ p ∈ preOf ops i, p < i)
    {Q : Exit → Act → World → Prop} (hQ : ∀ a w, Lift n g0 w0 K a w → Q .normal a w) :
    ∀ (fuel : Nat) (listed : Array Bool) (Pn : List (Nat × Nat)) (V R : List Nat) (e : Env) (h : Heap) (rs : List (Nat × Nat)) (a : Act) (w : World), listed.size = sops.length → DI P ops sops T eff dly n g0 w0 K (fun i => listed.getD i false = true) Pn V R e h rs a w →
      (R = [] ∨ ∃ i r, R = i :: r ∧ eff i = true ∧ ¬ listed.getD i false = true) → unl sops.length listed ≤ fuel → wpAny P .any ops Q fuel listed a w := by
  obtain ⟨hlen, hget⟩ := toSOps_get hsops
  have hN : sops.length = ops.size := by simpa using hlen
  have fin : ∀ (listed : Array Bool) (Pn : List (Nat × Nat)) (V R : List Nat) (e : Env) (h : Heap) (rs : List (Nat × Nat)) (a : Act) (w : World), listed.size = sops.length → DI P ops sops T eff dly n g0 w0 K (fun i => listed.getD i false = true) Pn V R e h rs a w →
      (R = [] ∨ ∃ i r, R = i :: r ∧ eff i = true ∧ ¬ listed.getD i false = true) → Region.ready .any ops listed = [] → Q .normal a w := by
    intro listed Pn V R e h rs a w hsz D hhead hr
    refine hQ a w (D.done hhead fun i hi => ?_)
    induction i using Nat.strongRecOn with
    | _ i ih =>
      cases hc : listed.getD i false with
      | true => rfl
      | false =>
        exfalso
        have hlt : i < listed.size := by omega
        have hmem : i ∈ Region.ready .any ops listed := by
          refine ready_iff.2 ⟨by omega, ?_, fun p hp => ?_⟩
          · simp only [Array.getD_eq_getD_getElem?, Array.getElem?_eq_getElem hlt, Option.getD_some] at hc ⊢
            exact hc
          · have hpi := hpred i hi p hp
            exact ih p hpi (by omega)
        rw [hr] at hmem
        cases hmem
  intro fuel
  induction fuel with
  | zero =>
    intro listed Pn V R e h rs a w hsz D hhead hf
    have hr : Region.ready .any ops listed = [] := by
      cases hr : Region.ready .any ops listed with
      | nil => rfl
      | cons i r =>
        exfalso
        obtain ⟨h1, h2, _⟩ := ready_iff.1 (show i ∈ Region.ready .any ops listed by rw [hr]; exact List.mem_cons_self)
        have hlt : i < listed.size := by omega
        have : i ∈ (List.range sops.length).filter fun i => !listed.getD i false := by
          refine List.mem_filter.2 ⟨List.mem_range.2 (by omega), ?_⟩
          simp only [Array.getD_eq_getD_getElem?, Array.getElem?_eq_getElem hlt, Option.getD_some] at h2 ⊢
          simp [h2]
        have hpos := List.length_pos_of_mem this
        unfold unl at hf
        omega
    exact ⟨hr, fin listed Pn V R e h rs a w hsz D hhead hr⟩
  | succ fuel ih =>
    intro listed Pn V R e h rs a w hsz D hhead hf
    refine ⟨fin listed Pn V R e h rs a w hsz D hhead, fun i hi => ?_⟩
    obtain ⟨hio, hnl, hpre⟩ := ready_iff.1 hi
    have hiN : i < sops.length := by omega
    have hlt : i < listed.size := by omega
    have hnA : ¬ listed.getD i false = true := by
      simp only [Array.getD_eq_getD_getElem?, Array.getElem?_eq_getElem hlt, Option.getD_some] at hnl ⊢
      simp [hnl]
    have hoi : ops[i]? = some ops[i] := Array.getElem?_eq_getElem hio
    obtain ⟨op, hop, hto⟩ := hget i ops[i] (by simp)
    obtain rfl : op = opAt sops i := by have := opAt_get hiN; rw [hop] at this; exact Option.some.inj this
    have hodst : (ops[i]).dst = (opAt sops i).dst := toSOp_dst hto
    have hA' : ∀ k, (listed.setIfInBounds i true).getD k false = true ↔ k = i ∨ listed.getD k false = true := by
      intro k
      rw [getD_set hlt]
      by_cases hk : k = i
      · simp [hk]
      · simp [hk]
    have hcl' : ∀ k, (listed.setIfInBounds i true).getD k false = true → ∀ p ∈ preOf ops k, (listed.setIfInBounds i true).getD p false = true := by
      intro k hk p hp
      rw [hA'] at hk ⊢
      rcases hk with rfl | hk
      · exact .inr (hpre p hp)
      · exact .inr (D.Acl k hk p hp)
    have hunl : unl sops.length (listed.setIfInBounds i true) < unl sops.length listed := by
      unfold unl
      refine filter_lt (i := i) (List.mem_range.2 hiN) ?_ ?_ fun x hx => ?_
      · simp [hnA]
      · simp [getD_set hlt]
      · rw [getD_set hlt] at hx
        split at hx
        · simp at hx
        · exact hx
    obtain ⟨ea, g, E, H, S, hM, hag, hPd⟩ := D.E
    have St' : St n g0 w0 ea h g a w := ⟨E, H, S, hM⟩
    -- what is pending is not written by it
    have pendt : ∀ k b, (k, b) ∈ Pn → ∀ d, (opAt sops k).dst = some d → ∀ v, (a.put (ops[i]).dst v).tmps.getD d undef = a.tmps.getD d undef := by
      intro k b hk d hd v
      obtain ⟨h1, h2, h3, h4⟩ := D.Pn1 k b hk
      obtain ⟨_, d', ty, sz, z, ho, hoth⟩ := dly_out hdly h3 h4
      rw [ho] at hd
      have hdd : d' = d := Option.some.inj hd
      subst hdd
      have hki : i ≠ k := fun hh => hnA (hh ▸ h1)
      have hne := (hoth i hiN hki).1
      rw [hodst]
      cases hd2 : (opAt sops i).dst with
      | none => rfl
      | some x =>
        have : x ≠ d' := fun hh => hne (by rw [hd2, hh])
        simp only [Act.put, Array.getD_eq_getD_getElem?, Array.getElem?_setIfInBounds]
        rw [if_neg this]
    -- the slots that it reads are as they stand
    have reads : ∀ t ∈ (opAt sops i).rd, ea t = e t := by
      intro t ht
      refine hag t (fun j hj hnj hdj => ?_) (fun p hp hdp => ?_)
      · have hji : j ≠ i ∨ j = i := by omega
        obtain ⟨_, d, hd, hself, hoth⟩ := eff_false heff (D.Vlt j hj) (D.st j hj hnj)
        rw [hdj] at hd; cases hd
        rcases hji with hji | rfl
        · have := (hoth i hiN (fun h => hji h.symm)).1 ht
          exact hnj (anc_in hT this (A := fun x => listed.getD x false = true) D.Acl hpre)
        · exact hself ht
      · obtain ⟨h1, h2, h3, h4⟩ := D.Pn1 p.1 p.2 hp
        obtain ⟨_, d', ty, sz, z, ho, hoth⟩ := dly_out hdly h3 h4
        rw [ho] at hdp
        have hdd : d' = t := Option.some.inj hdp
        subst hdd
        have hki : i ≠ p.1 := fun hh => hnA (hh ▸ h1)
        obtain ⟨hef, hanc⟩ := (hoth i hiN hki).2.1 ht
        -- it reads what is pending: then it is ahead of its turn
        by_cases hiV : i ∈ V
        · have := D.st i hiV hnA
          rw [hef] at this; cases this
        · have hiR : i ∈ R := (D.vR i hiN).resolve_left hiV
          rcases hhead with rfl | ⟨i0, r, rfl, hef0, hn0⟩
          · cases hiR
          · obtain ⟨hi0, hp0, hn0V, hchk, hC⟩ := chkL_cons D.chk
            obtain ⟨hC1, hC2, hC3⟩ := hC hef0
            rcases List.mem_cons.1 hiR with hii | hir
            · subst hii
              have hpV : p.1 ∈ V := anc_in hT hanc (A := fun x => x ∈ V) D.Vcl hp0
              exact h2 hpV
            · rcases hC2 i hir hef with hdl | hanc0
              · obtain ⟨_, d2, ty2, sz2, z2, ho2, _⟩ := dly_out hdly hiN hdl
                rw [ho2] at ht
                simp [SOp.rd, SI.rd] at ht
              · exact hn0 (anc_in hT hanc0 (A := fun x => listed.getD x false = true) D.Acl hpre)
    show wpOp P ops Q i (wpAny P .any ops Q fuel (listed.setIfInBounds i true)) a w
    unfold wpOp
    rw [hoi]
    by_cases hiV : i ∈ V
    · -- done already, in thought
      obtain ⟨_, d, hd, _, _⟩ := eff_false heff hiN (D.st i hiV hnA)
      have hSV := D.sv i hiV hnA d hd
      refine vcOp_soundS (e := ea) (h := h) (K := fun e' h' => e' = setD ea (opAt sops i).dst (e d) ∧ h' = h) hto ?_ GR St' fun a' w' ⟨e', h', g', v, ⟨he', hh'⟩, T', SS, hav⟩ => ?_
      · unfold vcOp
        rw [vcV_congr reads]
        have : SV P (opAt sops i) e h (e d) := hSV
        unfold SV at this
        exact vcV_mono this (by rintro r h' ⟨rfl, rfl⟩; exact ⟨rfl, rfl⟩)
      · subst he' hh'
        rw [hd] at T'
        refine ih _ Pn V R e h' rs a' w' (by simp [hsz]) ⟨D.vR, D.Vlt, D.Vcl, hcl', fun k hk => ?_, fun k b hk => ?_, D.Pn2, D.chk, fun k hk hnk => D.st k hk fun h => hnk ((hA' k).2 (.inr h)), ⟨_, g', T'.E, T'.H, T'.S, T'.M, fun t ht ht2 => ?_, fun k b hk => ?_⟩,
          fun k hk hnk => D.sv k hk fun h => hnk ((hA' k).2 (.inr h)), fun k hk hnk => D.rt k hk fun h => hnk ((hA' k).2 (.inr h)), D.vcd⟩ ?_ (by omega)
        · rcases (hA' k).1 hk with rfl | hk
          · exact .inl hiV
          · exact D.Asub k hk
        · obtain ⟨h1, h2⟩ := D.Pn1 k b hk
          exact ⟨(hA' k).2 (.inr h1), h2⟩
        · simp only [setD]
          by_cases htd : t = d
          · subst htd; rw [upd_same]
          · rw [upd_ne _ _ htd]
            refine hag t (fun j hj hnj hdj => ?_) ht2
            by_cases hji : j = i
            · subst hji; rw [hd] at hdj; exact htd (Option.some.inj hdj).symm
            · exact ht j hj (fun h => by rcases (hA' j).1 h with h1 | h1; exact hji h1; exact hnj h1) hdj
        · refine (hPd k b hk).step SS fun d2 hd2 => ?_
          rw [hav]; exact pendt k b hk d2 hd2 v
        · rcases hhead with h1 | ⟨i0, r, h1, h2, h3⟩
          · exact .inl h1
          · refine .inr ⟨i0, r, h1, h2, fun hh => ?_⟩
            rcases (hA' i0).1 hh with h4 | h4
            · subst h4
              subst h1
              exact (chkL_cons D.chk).2.2.1 hiV
            · exact h3 h4
    · have hiR : i ∈ R := (D.vR i hiN).resolve_left hiV
      rcases hhead with rfl | ⟨i0, r, rfl, hef0, hnA0⟩
      · cases hiR
      · obtain ⟨hi0, hp0, hn0, hchk, hC⟩ := chkL_cons D.chk
        obtain ⟨hC1, hC2, hC3⟩ := hC hef0
        by_cases hii : i = i0
        · -- it is the next one that does something
          subst hii
          have hv := D.vcd
          simp only [List.map_cons, flg_true hef0, vcD] at hv
          refine vcOp_soundS (e := ea) (h := h) (K := fun e' h' => ∃ v, e' = setD ea (opAt sops i).dst v ∧ keepR ((opAt sops i).rd ++ ancD sops T i) rs h h' ∧ vcD P (r.map fun i => (opAt sops i, flg sops T eff i)) (dropR ((opAt sops i).rd ++ ancD sops T i) rs) (setD e (opAt sops i).dst v) h' K) hto ?_ GR St' fun a' w' ⟨e', h', g', v', ⟨v, he', hroots, hrest⟩, T', SS, hav⟩ => ?_
          · unfold vcOp at hv ⊢
            rw [vcV_congr reads]
            exact vcV_mono hv fun r h' hh => ⟨r, rfl, hh⟩
          · subst he'
            have nPn : ∀ b, (i, b) ∉ Pn := fun b hb => hnA (D.Pn1 i b hb).1
            have D' := D.eff_step (A' := fun k => (listed.setIfInBounds i true).getD k false = true) (Pn' := Pn) heff hT hef0 hA' hpre (fun k b => ⟨fun hk => ⟨fun hh => nPn b (hh ▸ hk), hk⟩, fun hk => hk.2⟩) D.Pn2 hroots hrest ⟨_, g', T'.E, T'.H, T'.S, T'.M, fun t ht ht2 => by
              cases hd : (opAt sops i).dst with
              | none => exact hag t ht ht2
              | some d =>
                simp only [setD, upd]
                split
                · rfl
                · exact hag t ht ht2, fun k b hk => (hPd k b hk).step SS fun d2 hd2 => by rw [hav]; exact pendt k b hk d2 hd2 v'⟩
            obtain ⟨Pn', V', R', e', h'', rs', D'', hh⟩ := D'.advance heff hT
            exact ih _ Pn' V' R' e' h'' rs' a' w' (by simp [hsz]) D'' hh (by omega)
        · -- a variable made ahead of its turn
          have hir : i ∈ r := (List.mem_cons.1 hiR).resolve_left hii
          have hdl : dly i = true := by
            cases hefi : eff i with
            | true =>
              rcases hC2 i hir hefi with h1 | h1
              · exact h1
              · exact absurd (anc_in hT h1 (A := fun x => listed.getD x false = true) D.Acl hpre) hnA0
            | false =>
              exfalso
              rcases hC1 i hiN hefi with h1 | ⟨p, hp, h1⟩
              · exact hiV h1
              · rcases D.Asub p (hpre p hp) with h2 | ⟨b, h2⟩
                · exact h1 h2
                · obtain ⟨g1, g2, g3, g4⟩ := D.Pn1 p b h2
                  obtain ⟨_, d', ty, sz, z, ho, hoth⟩ := dly_out hdly g3 g4
                  have hpi : i ≠ p := fun hh => hnA (hh ▸ g1)
                  have := (hoth i hiN hpi).2.2 hp
                  rw [hefi] at this; cases this
          obtain ⟨hal, d, ty, sz, z, ho, hoth⟩ := dly_out hdly hiN hdl
          obtain ⟨t0, hot⟩ : ∃ t0, (ops[i]).op = .alloc t0 := by
            unfold isAlloc at hal
            rw [hoi] at hal
            simp only at hal
            split at hal
            · rename_i t0 h0; exact ⟨t0, h0⟩
            · cases hal
          refine new_ahead hot hto ho rfl E H S hM fun a' w' b E2 H2 S2 SS M2 hb ht2 hP => ?_
          have hbn : ∀ k c, (k, c) ∈ Pn → c ≠ b := by
            intro k c hk hcb
            obtain ⟨_, _, _, _, _, _, _, _, hc, _⟩ := hPd k c hk
            have := (Array.getElem?_eq_some_iff.1 hc).1
            omega
          refine ih _ ((i, b) :: Pn) V (i0 :: r) e h rs a' w' (by simp [hsz]) ⟨D.vR, D.Vlt, D.Vcl, hcl', fun k hk => ?_, fun k c hk => ?_, ?_, D.chk, fun k hk hnk => D.st k hk fun h => hnk ((hA' k).2 (.inr h)), ⟨_, g, E2, H2, S2, M2, fun t ht htp => ?_, fun k c hk => ?_⟩,
            fun k hk hnk => D.sv k hk fun h => hnk ((hA' k).2 (.inr h)), fun k hk hnk => D.rt k hk fun h => hnk ((hA' k).2 (.inr h)), D.vcd⟩ (.inr ⟨i0, r, rfl, hef0, fun hh => ?_⟩) (by omega)
          · rcases (hA' k).1 hk with rfl | hk
            · exact .inr ⟨b, List.mem_cons_self⟩
            · exact (D.Asub k hk).imp id fun ⟨c, hc⟩ => ⟨c, List.mem_cons_of_mem _ hc⟩
          · rcases List.mem_cons.1 hk with hk | hk
            · cases hk
              exact ⟨(hA' i).2 (.inl rfl), hiV, hiN, hdl⟩
            · obtain ⟨h1, h2⟩ := D.Pn1 k c hk
              exact ⟨(hA' k).2 (.inr h1), h2⟩
          · refine List.pairwise_cons.2 ⟨fun q hq => ⟨fun hh => hnA ?_, fun hh => hbn q.1 q.2 hq hh.symm⟩, D.Pn2⟩
            have := (D.Pn1 q.1 q.2 hq).1
            rw [← hh] at this; exact this
          · have htd : t ≠ d := fun hh => htp (i, b) List.mem_cons_self (by rw [ho, hh])
            rw [upd_ne _ _ htd]
            refine hag t (fun j hj hnj => ?_) (fun p hp => htp p (List.mem_cons_of_mem _ hp))
            have hji : j ≠ i := fun hh => hiV (hh ▸ hj)
            exact ht j hj (fun h => by rcases (hA' j).1 h with h1 | h1; exact hji h1; exact hnj h1)
          · rcases List.mem_cons.1 hk with hk | hk
            · cases hk; exact hP
            · refine (hPd k c hk).step SS fun d2 hd2 => ht2 d2 ?_
              rintro rfl
              have hki : k ≠ i := fun hh => hnA (by have := (D.Pn1 k c hk).1; rw [hh] at this; exact this)
              exact (hoth k (D.Pn1 k c hk).2.2.1 hki).1 hd2
          · rcases (hA' i0).1 hh with h4 | h4
            · exact hii h4.symm
            · exact hnA0 h4
end
end Go.Sim
