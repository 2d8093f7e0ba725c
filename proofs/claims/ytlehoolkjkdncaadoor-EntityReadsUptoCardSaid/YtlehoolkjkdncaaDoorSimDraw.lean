/- Regions that draw their order: what only computes may be done first. -/
import Derived.Test.YtlehoolkjkdncaaDoorSimVc
import Derived.Orders
namespace Go.Sim
open Go

section
variable {P : PG} {h h' : Heap} {e e' : Env}

theorem ev_congr {x : SX} (ha : ∀ t ∈ x.rd, e t = e' t) : ev e x = ev e' x := by
  cases x with
  | t n => exact ha n (by simp [SX.rd])
  | c v => rfl
theorem evO_congr {x : Option SX} (ha : ∀ t ∈ rdO x, e t = e' t) : evO e x = evO e' x := by
  cases x with
  | none => rfl
  | some x => simp only [evO, ev_congr (x := x) ha]
theorem evL_congr : ∀ {l : List SX}, (∀ t ∈ rdL l, e t = e' t) → l.map (ev e) = l.map (ev e')
  | [], _ => rfl
  | x :: r, ha => by
    simp only [List.map_cons]
    rw [ev_congr (x := x) (fun t ht => ha t (List.mem_append.2 (.inl ht))), evL_congr (l := r) (fun t ht => ha t (List.mem_append.2 (.inr ht)))]
theorem evP_congr : ∀ {l : List (Nat × Nat × SX)}, (∀ t ∈ rdP l, e t = e' t) → (l.map fun p => (p.1, p.2.1, ev e p.2.2)) = l.map fun p => (p.1, p.2.1, ev e' p.2.2)
  | [], _ => rfl
  | p :: r, ha => by
    simp only [List.map_cons]
    rw [ev_congr (x := p.2.2) (fun t ht => ha t (List.mem_append.2 (.inl ht))), evP_congr (l := r) (fun t ht => ha t (List.mem_append.2 (.inr ht)))]
theorem okParts_congr {sz : Nat} : ∀ {l : List SX}, (∀ t ∈ rdL l, e t = e' t) → okParts sz e l = okParts sz e' l
  | [], _ => rfl
  | x :: r, ha => by
    simp only [okParts]
    rw [ev_congr (x := x) (fun t ht => ha t (List.mem_append.2 (.inl ht))), okParts_congr (l := r) (fun t ht => ha t (List.mem_append.2 (.inr ht)))]
theorem evC_congr {l : List SX} (ha : ∀ t ∈ rdL l, e t = e' t) : (l.map fun x => cellsOf (ev e x)) = l.map fun x => cellsOf (ev e' x) := by
  have := congrArg (List.map cellsOf) (evL_congr (l := l) ha)
  simpa [List.map_map] using this

theorem agree_app {l1 l2 : List Nat} (ha : ∀ t ∈ l1 ++ l2, e t = e' t) : (∀ t ∈ l1, e t = e' t) ∧ ∀ t ∈ l2, e t = e' t :=
  ⟨fun t ht => ha t (List.mem_append.2 (.inl ht)), fun t ht => ha t (List.mem_append.2 (.inr ht))⟩

theorem fopk_congr {si : SI} (hg : si.gated = true) (ha : ∀ t ∈ si.rd, e t = e' t) : fop si e h = fop si e' h ∧ fok si e h = fok si e' h := by
  cases si with
  | mv x => simp only [fok, fop, ev_congr (x := x) ha, and_self]
  | pick c a b => obtain ⟨h1, h2⟩ := agree_app ha; obtain ⟨h2, h3⟩ := agree_app h2; simp only [fok, fop, ev_congr h1, ev_congr h2, ev_congr h3, and_self]
  | bin op x y => obtain ⟨h1, h2⟩ := agree_app ha; simp only [fok, fop, ev_congr h1, ev_congr h2, and_self]
  | eqs n ks x y => obtain ⟨h1, h2⟩ := agree_app ha; simp only [fok, fop, ev_congr h1, ev_congr h2, and_self]
  | eqb n x y => obtain ⟨h1, h2⟩ := agree_app ha; simp only [fok, fop, ev_congr h1, ev_congr h2, and_self]
  | un op x => simp only [fok, fop, ev_congr (x := x) ha, and_self]
  | cvi k x => simp only [fok, fop, ev_congr (x := x) ha, and_self]
  | idc x => simp only [fok, fop, ev_congr (x := x) ha, and_self]
  | fld o s b x => simp only [fok, fop, ev_congr (x := x) ha, and_self]
  | fldA o x => simp only [fok, fop, ev_congr (x := x) ha, and_self]
  | idxA s x i => obtain ⟨h1, h2⟩ := agree_app ha; simp only [fok, fop, ev_congr h1, ev_congr h2, and_self]
  | idxS x i => obtain ⟨h1, h2⟩ := agree_app ha; simp only [fok, fop, ev_congr h1, ev_congr h2, and_self]
  | ld s b x => simp only [fok, fop, ev_congr (x := x) ha, and_self]
  | slS x lo hi => obtain ⟨h1, h2⟩ := agree_app ha; obtain ⟨h2, h3⟩ := agree_app h2; simp only [fok, fop, ev_congr h1, evO_congr h2, evO_congr h3, and_self]
  | slA s x lo hi => obtain ⟨h1, h2⟩ := agree_app ha; obtain ⟨h2, h3⟩ := agree_app h2; simp only [fok, fop, ev_congr h1, evO_congr h2, evO_congr h3, and_self]
  | slM s x lo hi mx => obtain ⟨h1, h2⟩ := agree_app ha; obtain ⟨h2, h3⟩ := agree_app h2; obtain ⟨h3, h4⟩ := agree_app h3; simp only [fok, fop, ev_congr h1, evO_congr h2, evO_congr h3, evO_congr h4, and_self]
  | ext x i => simp only [fok, fop, ev_congr (x := x) ha, and_self]
  | bld z parts => simp only [fok, fop, evP_congr (l := parts) ha, and_self]
  | bldF ty s parts => cases hg
  | len x => simp only [fok, fop, ev_congr (x := x) ha, and_self]
  | lenS x => simp only [fok, fop, ev_congr (x := x) ha, and_self]
  | min2 x y => obtain ⟨h1, h2⟩ := agree_app ha; simp only [fok, fop, ev_congr h1, ev_congr h2, and_self]
  | max2 x y => obtain ⟨h1, h2⟩ := agree_app ha; simp only [fok, fop, ev_congr h1, ev_congr h2, and_self]
  | mkf f a b => obtain ⟨h1, h2⟩ := agree_app ha; simp only [fok, fop, evL_congr h1, evL_congr h2, and_self]
  | isnil k n x => cases hg
  | bldR ty s p => cases hg
  | box ty s x => cases hg
  | boxF ty s x => cases hg
  | new ty s z => cases hg
  | newnil ty s => cases hg
  | st s x v => cases hg
  | app ty s b x y => cases hg
  | appS ty b x y => cases hg
  | appIn ty s x y => cases hg
  | slX s x lo hi => cases hg
  | mks ty s b z m c => cases hg
  | copy s x y => cases hg
  | clear s z x => cases hg
  | call f args => cases hg
  | pcall f args => cases hg
  | b2s x => cases hg
  | usd x => cases hg
  | ustr ty x y => cases hg

/-- what an operation asks depends on the slots that it reads alone -/
theorem vcI_congr {si : SI} (ha : ∀ t ∈ si.rd, e t = e' t) {K : AVal → Heap → Prop} : vcI P si e h K = vcI P si e' h K := by
  by_cases hg : si.gated = true
  · have hf := fopk_congr (h := h) hg ha
    have hv : ∀ e, vcI P si e h K = (fok si e h ∧ K (fop si e h) h) := by
      intro e
      cases si <;> first | rfl | cases hg
    rw [hv, hv, hf.1, hf.2]
  cases si with
  | mv x => exact absurd rfl hg
  | pick c a b => exact absurd rfl hg
  | bin op x y => exact absurd rfl hg
  | eqs n ks x y => exact absurd rfl hg
  | eqb n x y => exact absurd rfl hg
  | un op x => exact absurd rfl hg
  | cvi k x => exact absurd rfl hg
  | idc x => exact absurd rfl hg
  | fld o s b x => exact absurd rfl hg
  | fldA o x => exact absurd rfl hg
  | idxA s x i => exact absurd rfl hg
  | idxS x i => exact absurd rfl hg
  | ld s b x => exact absurd rfl hg
  | slS x lo hi => exact absurd rfl hg
  | slA s x lo hi => exact absurd rfl hg
  | slM s x lo hi mx => exact absurd rfl hg
  | ext x i => exact absurd rfl hg
  | bld z parts => exact absurd rfl hg
  | len x => exact absurd rfl hg
  | lenS x => exact absurd rfl hg
  | min2 x y => exact absurd rfl hg
  | max2 x y => exact absurd rfl hg
  | mkf f a b => exact absurd rfl hg
  | bldF ty s parts => simp only [vcI, fop, evC_congr (l := parts) ha, okParts_congr (l := parts) ha]
  | isnil k n x => simp only [vcI, ev_congr (x := x) ha]
  | bldR ty s parts => simp only [vcI, litE, evC_congr (l := parts) ha, okParts_congr (l := parts) ha]
  | box ty s x => simp only [vcI, ev_congr (x := x) ha]
  | boxF ty s x => simp only [vcI, ev_congr (x := x) ha]
  | new ty s z => rfl
  | newnil ty s => rfl
  | st s x v => obtain ⟨h1, h2⟩ := agree_app ha; simp only [vcI, ev_congr h1, ev_congr h2]
  | app ty s b x y => obtain ⟨h1, h2⟩ := agree_app ha; simp only [vcI, ev_congr h1, ev_congr h2]
  | appS ty b x y => obtain ⟨h1, h2⟩ := agree_app ha; simp only [vcI, ev_congr h1, ev_congr h2]
  | appIn ty s x y => obtain ⟨h1, h2⟩ := agree_app ha; simp only [vcI, ev_congr h1, ev_congr h2]
  | slX s x lo hi => obtain ⟨h1, h2⟩ := agree_app ha; obtain ⟨h2, h3⟩ := agree_app h2; simp only [vcI, ev_congr h1, evO_congr h2, evO_congr h3]
  | mks ty s b z m c => obtain ⟨h1, h2⟩ := agree_app ha; simp only [vcI, ev_congr h1, ev_congr h2]
  | copy s x y => obtain ⟨h1, h2⟩ := agree_app ha; simp only [vcI, ev_congr h1, ev_congr h2]
  | clear s z x => simp only [vcI, ev_congr (x := x) ha]
  | call f args => obtain ⟨h1, h2⟩ := agree_app ha; simp only [vcI, ev_congr h1, evL_congr h2]
  | pcall f args => simp only [vcI, evL_congr (l := args) ha]
  | b2s x => simp only [vcI, ev_congr (x := x) ha]
  | usd x => simp only [vcI, ev_congr (x := x) ha]
  | ustr ty x y => obtain ⟨h1, h2⟩ := agree_app ha; simp only [vcI, ev_congr h1, ev_congr h2]

def SI.stb : SI → Bool
  | .pcall _ _ => true
  | si => si.stable
/-- what a stable operation yields depends on the roots that it reads -/
theorem fop_heap {si : SI} (hr : ∀ s b x r i j, si = .ld s b x → deVp (ev e x) = .ptr r i j → h r = h' r) : fop si e h = fop si e h' ∧ fok si e h = fok si e h' := by
  cases si <;> first | exact ⟨rfl, rfl⟩ | skip
  rename_i s b x
  have := hr s b x
  simp only [fop, fok, aLd, okLd]
  cases hx : deVp (ev e x) <;> first | exact ⟨rfl, rfl⟩ | skip
  rename_i r i j
  have hh := this r i j rfl hx
  simp only [aLd0, okLd0, hh, and_self]

theorem gated_stb {si : SI} (h1 : si.gated = true) : si.stb = true := by cases si <;> first | rfl | cases h1
theorem vcG_congr {s : Nat} {b : Bool} {si : SI} (ha : ∀ t ∈ si.rd, e t = e' t) (hs : e s = e' s) {K : AVal → Heap → Prop} : vcG P s b si e h K = vcG P s b si e' h K := by
  have hv : ∀ K, vcI P si e h K = vcI P si e' h K := fun K => vcI_congr ha
  unfold vcG
  split
  · rename_i f args
    rw [hs, evL_congr (l := args) ha]
  · have hf : si.gated = true → fop si e h = fop si e' h ∧ fok si e h = fok si e' h := by
      intro hg
      exact fopk_congr hg ha
    rw [hs, hv]
    split
    · rename_i hg; rw [(hf hg).1, (hf hg).2]
    · rfl
end

/-! ## The order -/
def preOf (ops : Array Oper) (i : Nat) : List Nat :=
  match ops[i]? with
  | some o => (o.after.toList.filter fun e => Region.binds .any e).map (·.on)
  | none => []
def dd : List Nat → List Nat
  | [] => []
  | x :: r => if (dd r).contains x then dd r else x :: dd r
def ancTbl (ops : Array Oper) : List Nat → List (Nat × List Nat) → List (Nat × List Nat)
  | [], T => T
  | i :: r, T => ancTbl ops r ((i, dd (preOf ops i ++ (preOf ops i).flatMap fun p => (T.lookup p).getD [])) :: T)
def ancIn (T : List (Nat × List Nat)) (i : Nat) : List Nat := (T.lookup i).getD []
def effOf (sops : List SOp) (T : List (Nat × List Nat)) (i : Nat) : Bool :=
  match sops[i]? with
  | some op => !op.si.stb || (match op.dst with
    | some d => op.rd.contains d || (List.range sops.length).any fun j => j != i && (match sops[j]? with
      | some o2 => (o2.rd.contains d && !(ancIn T j).contains i) || o2.dst == some d
      | none => false)
    | none => true)
  | none => true
def slotOK (sops : List SOp) (T : List (Nat × List Nat)) (i : Nat) : Bool :=
  match sops[i]? with
  | some op => match op.dst with
    | some d => (List.range sops.length).all fun j => j == i || (match sops[j]? with
      | some o2 => !o2.rd.contains d || (ancIn T j).contains i || (ancIn T i).contains j
      | none => true)
    | none => true
  | none => false
def chkL (ops : Array Oper) (sops : List SOp) (T : List (Nat × List Nat)) (eff : Nat → Bool) : List Nat → List Nat → Bool
  | _, [] => true
  | done, i :: r => decide (i < sops.length) && (preOf ops i).all (fun p => done.contains p) && !done.contains i &&
      (if eff i then ((List.range sops.length).all fun s => eff s || done.contains s || (preOf ops s).any fun p => !done.contains p) && (r.all fun j => !eff j || (ancIn T j).contains i) && slotOK sops T i else true) &&
      chkL ops sops T eff (i :: done) r
/-- stable ones first -/
def sfo (ops : Array Oper) (eff : Nat → Bool) (n : Nat) : Nat → List Nat → List Nat
  | 0, _ => []
  | f + 1, done =>
    match (List.range n).find? fun i => !done.contains i && !eff i && (preOf ops i).all fun p => done.contains p with
    | some i => i :: sfo ops eff n f (i :: done)
    | none => match (List.range n).find? fun i => !done.contains i && (preOf ops i).all fun p => done.contains p with
      | some i => i :: sfo ops eff n f (i :: done)
      | none => []
def toSD (P : Program) (ann : Ann) (n : Nat) (ops : Array Oper) : Option (List (SOp × Bool)) :=
  (toSOps P ann n ops ops.toList).bind fun sops =>
    let T := ancTbl ops (List.range sops.length) []
    let effs := (List.range sops.length).map (effOf sops T)
    let eff := fun i => effs.getD i true
    let L := sfo ops eff sops.length sops.length []
    if P.follows .mixedOrders = true ∧ ((List.range sops.length).all fun i => (preOf ops i).all fun p => decide (p < i)) = true ∧ ((List.range sops.length).all fun i => L.contains i) = true ∧ chkL ops sops T eff [] L = true then
      some (L.map fun i => (sops.getD i ⟨none, .mv (.c .dead), none⟩, eff i))
    else none

theorem dd_sub : ∀ (l : List Nat) (x : Nat), x ∈ dd l → x ∈ l
  | [], x, h => by cases h
  | y :: r, x, h => by
    unfold dd at h
    split at h
    · exact List.mem_cons_of_mem _ (dd_sub r x h)
    · rcases List.mem_cons.1 h with rfl | h
      · exact List.mem_cons_self
      · exact List.mem_cons_of_mem _ (dd_sub r x h)

def Closed (ops : Array Oper) (A : Nat → Prop) : Prop := ∀ i, A i → ∀ p ∈ preOf ops i, A p
def TblOK (ops : Array Oper) (T : List (Nat × List Nat)) : Prop := ∀ i l, T.lookup i = some l → ∀ j ∈ l, ∀ A : Nat → Prop, Closed ops A → (∀ p ∈ preOf ops i, A p) → A j
theorem ancTbl_ok (ops : Array Oper) : ∀ (l : List Nat) (T : List (Nat × List Nat)), TblOK ops T → TblOK ops (ancTbl ops l T)
  | [], _, h => h
  | i :: r, T, h => by
    refine ancTbl_ok ops r _ fun k l hk j hj A hA hp => ?_
    rw [List.lookup_cons] at hk
    split at hk
    · rename_i hki
      have hki : k = i := by simpa using hki
      subst hki
      cases hk
      rcases List.mem_append.1 (dd_sub _ _ hj) with h1 | h1
      · exact hp j h1
      · obtain ⟨p, hpp, hjp⟩ := List.mem_flatMap.1 h1
        cases hl : T.lookup p with
        | none => rw [hl] at hjp; cases hjp
        | some l' => rw [hl] at hjp; exact h p l' hl j hjp A hA (hA p (hp p hpp))
    · exact h k l hk j hj A hA hp
theorem anc_in {ops : Array Oper} {T : List (Nat × List Nat)} (hT : TblOK ops T) {i j : Nat} (hj : (ancIn T i).contains j = true) {A : Nat → Prop} (hA : Closed ops A) (hp : ∀ p ∈ preOf ops i, A p) : A j := by
  unfold ancIn at hj
  cases hl : T.lookup i with
  | none => rw [hl] at hj; simp at hj
  | some l => rw [hl] at hj; exact hT i l hl j (by simpa using hj) A hA hp

theorem filter_lt {p q : Nat → Bool} : ∀ {l : List Nat} {i : Nat}, i ∈ l → p i = true → q i = false → (∀ x, q x = true → p x = true) → (l.filter q).length < (l.filter p).length
  | x :: r, i, hi, hp, hq, hh => by
    have hle : (r.filter q).length ≤ (r.filter p).length := by
      clear hi
      induction r with
      | nil => simp
      | cons y r ih =>
        simp only [List.filter_cons]
        cases hqy : q y with
        | true => rw [hh y hqy]; simpa using ih
        | false => cases p y <;> simp <;> omega
    rcases List.mem_cons.1 hi with rfl | hi
    · simp only [List.filter_cons, hp, hq, if_true, Bool.false_eq_true, if_false, List.length_cons]
      omega
    · have := filter_lt hi hp hq hh
      simp only [List.filter_cons]
      cases hqx : q x with
      | true => rw [hh x hqx]; simpa using this
      | false => cases p x <;> simp <;> omega

theorem ready_iff {ops : Array Oper} {listed : Array Bool} {i : Nat} : i ∈ Region.ready .any ops listed ↔ i < ops.size ∧ listed.getD i true = false ∧ ∀ p ∈ preOf ops i, listed.getD p false = true := by
  unfold Region.ready
  rw [List.mem_filter, List.mem_range]
  constructor
  · rintro ⟨hi, h⟩
    simp only [Bool.and_eq_true, Bool.not_eq_true'] at h
    refine ⟨hi, h.1, fun p hp => ?_⟩
    have h2 := h.2
    rw [Array.getElem?_eq_getElem hi] at h2
    simp only [Option.map_some, Option.getD_some] at h2
    unfold preOf at hp
    rw [Array.getElem?_eq_getElem hi] at hp
    simp only [List.mem_map, List.mem_filter, Array.mem_toList_iff] at hp
    obtain ⟨ed, ⟨hed, hb⟩, rfl⟩ := hp
    have := Array.all_eq_true'.1 h2 ed hed
    simpa [hb] using this
  · rintro ⟨hi, h1, h2⟩
    refine ⟨hi, ?_⟩
    rw [Array.getElem?_eq_getElem hi]
    simp only [Option.map_some, Option.getD_some, Bool.and_eq_true, Bool.not_eq_true']
    refine ⟨h1, Array.all_eq_true'.2 fun ed hed => ?_⟩
    cases hb : Region.binds .any ed with
    | false => simp
    | true =>
      have := h2 ed.on (by
        unfold preOf
        rw [Array.getElem?_eq_getElem hi]
        simp only [List.mem_map, List.mem_filter, Array.mem_toList_iff]
        exact ⟨ed, ⟨hed, hb⟩, rfl⟩)
      simp [this]

section
variable {P : PG} {h h' : Heap} {e e' : Env}

/-- what a stable operation comes to -/
def stbR (P : PG) (si : SI) (e : Env) (h : Heap) (r : AVal) : Prop :=
  match si with
  | .pcall f args => PCalls P f (args.map (ev e)) r
  | .bldF ty sz parts => okParts sz e parts ∧ r = fop (.bldF ty sz parts) e h
  | si => fok si e h ∧ r = fop si e h
theorem vcI_stb {si : SI} (hs : si.stb = true) {K : AVal → Heap → Prop} : vcI P si e h K ↔ ∃ r, stbR P si e h r ∧ K r h := by
  cases si <;> first
    | (cases hs; done)
    | exact Iff.rfl
    | exact ⟨fun ⟨h1, h2⟩ => ⟨_, ⟨h1, rfl⟩, h2⟩, fun ⟨r, ⟨h1, h2⟩, h3⟩ => by subst h2; exact ⟨h1, h3⟩⟩
theorem stbR_heap {si : SI} (_hs : si.stb = true) (hr : ∀ s b x r i j, si = .ld s b x → deVp (ev e x) = .ptr r i j → h r = h' r) {r : AVal} (k : stbR P si e h r) : stbR P si e h' r := by
  obtain ⟨h1, h2⟩ := fop_heap hr
  cases si <;> first
    | exact k
    | exact ⟨k.1, k.2⟩
    | exact ⟨h2 ▸ k.1, h1 ▸ k.2⟩

def SV (P : PG) (op : SOp) (e : Env) (h : Heap) (r : AVal) : Prop := vcV P op e h fun r' h' => r' = r ∧ h' = h

theorem vcV_congr {op : SOp} (ha : ∀ t ∈ op.rd, e t = e' t) {K : AVal → Heap → Prop} : vcV P op e h K = vcV P op e' h K := by
  obtain ⟨dst, si, g⟩ := op
  cases g with
  | none => exact vcI_congr fun t ht => ha t (List.mem_append.2 (.inl ht))
  | some sb =>
    obtain ⟨s, b⟩ := sb
    exact vcG_congr (fun t ht => ha t (List.mem_append.2 (.inl ht))) (ha s (List.mem_append.2 (.inr (by simp))))

theorem vcI_mono {si : SI} {K K' : AVal → Heap → Prop} (hk : vcI P si e h K) (hm : ∀ r h', K r h' → K' r h') : vcI P si e h K' := by
  have app : ∀ {ty sz b : Nat} {x : AVal} {es2 : List (List AVal)}, appE ty sz b x es2 h K → appE ty sz b x es2 h K' := by
    intro ty sz b x es2 hk
    cases x <;> try exact hk.elim
    · exact ⟨hk.1, hk.2.1, fun r hr => hm _ _ (hk.2.2 r hr)⟩
    · obtain ⟨h1, ob, h2, h3, h4, h5, h6, h7⟩ := hk
      exact ⟨h1, ob, h2, h3, h4, h5, h6, fun r hr => hm _ _ (h7 r hr)⟩
  cases si with
  | isnil k neg x =>
    have hk : nilE k neg (ev e x) (fun r => K r h) := hk
    show nilE k neg (ev e x) (fun r => K' r h)
    unfold nilE at hk ⊢
    split <;> simp_all
  | bldR ty sz parts => exact ⟨hk.1, fun r hr => hm _ _ (hk.2 r hr)⟩
  | box ty sz x => exact ⟨hk.1, hk.2.1, fun r hr => hm _ _ (hk.2.2 r hr)⟩
  | boxF ty sz x => exact ⟨hk.1, hk.2.1, hm _ _ hk.2.2⟩
  | new ty sz z => exact fun r hr => hm _ _ (hk r hr)
  | newnil ty sz => exact fun r hr => hm _ _ (hk r hr)
  | st size x v =>
    have hk : stE size (ev e x) (ev e v) h K := hk
    show stE size (ev e x) (ev e v) h K'
    revert hk
    cases ev e x <;> intro hk <;> try exact hk.elim
    · obtain ⟨ob, h1, h2, h3, h4, h5, h6⟩ := hk
      exact ⟨ob, h1, h2, h3, h4, h5, hm _ _ h6⟩
    · obtain ⟨ob, h1, h2, h3, h4, h5, h6⟩ := hk
      exact ⟨ob, h1, h2, h3, h4, h5, hm _ _ h6⟩
  | app ty sz b x y =>
    obtain ⟨es2, h1, h2⟩ := hk
    exact ⟨es2, h1, app h2⟩
  | appS ty b x y =>
    obtain ⟨l, h1, h2⟩ := hk
    exact ⟨l, h1, app h2⟩
  | appIn ty sz x y =>
    obtain ⟨es2, h1, hk⟩ := hk
    refine ⟨es2, h1, ?_⟩
    revert hk
    cases ev e x <;> intro hk <;> try exact hk.elim
    obtain ⟨h1, ob, h2, h3, h4⟩ := hk
    exact ⟨h1, ob, h2, h3, hm _ _ h4⟩
  | slX sz x lo hi =>
    have hk : slXE sz (ev e x) (evO e lo) (evO e hi) h K := hk
    show slXE sz (ev e x) (evO e lo) (evO e hi) h K'
    revert hk
    cases ev e x <;> intro hk <;> try exact hk.elim
    obtain ⟨h1, ob, h2, h3, h4, h5, h6, h7, h8⟩ := hk
    exact ⟨h1, ob, h2, h3, h4, h5, h6, h7, hm _ _ h8⟩
  | mks ty sz b z m c =>
    have hk : mksE ty sz b z (ev e m) (ev e c) h K := hk
    show mksE ty sz b z (ev e m) (ev e c) h K'
    revert hk
    cases ev e m <;> cases ev e c <;> intro hk <;> try exact hk.elim
    obtain ⟨h1, h2, h3, h4, h5⟩ := hk
    exact ⟨h1, h2, h3, h4, fun r hr => hm _ _ (h5 r hr)⟩
  | copy sz x y =>
    obtain ⟨es2, h1, hk⟩ := hk
    refine ⟨es2, h1, ?_⟩
    revert hk
    cases ev e x <;> intro hk <;> try exact hk.elim
    obtain ⟨h1, ob, h2, h3, h4⟩ := hk
    exact ⟨h1, ob, h2, h3, hm _ _ h4⟩
  | clear sz z x =>
    have hk : clearE sz z (ev e x) h K := hk
    show clearE sz z (ev e x) h K'
    revert hk
    cases ev e x <;> intro hk <;> try exact hk.elim
    obtain ⟨h1, ob, h2, h3, h4⟩ := hk
    exact ⟨h1, ob, h2, h3, hm _ _ h4⟩
  | call f args =>
    have hk : callE P (ev e f) (args.map (ev e)) h K := hk
    show callE P (ev e f) (args.map (ev e)) h K'
    revert hk
    cases ev e f <;> intro hk <;> try exact hk.elim
    exact DCalls.mono hk hm
  | pcall f args =>
    obtain ⟨v, h1, h2⟩ := hk
    exact ⟨v, h1, hm _ _ h2⟩
  | b2s x =>
    obtain ⟨l, h1, h2⟩ := hk
    exact ⟨l, h1, hm _ _ h2⟩
  | usd x =>
    have hk : usdE (ev e x) h K := hk
    show usdE (ev e x) h K'
    revert hk
    cases ev e x <;> intro hk <;> try exact hk.elim
    · exact hm _ _ hk
    · exact ⟨hk.1, hm _ _ hk.2⟩
  | ustr ty x y =>
    have hk : ustrE ty (ev e x) (ev e y) h K := hk
    show ustrE ty (ev e x) (ev e y) h K'
    unfold ustrE at hk ⊢
    split
    · simp_all
    · simp_all
      obtain ⟨h1, l, ob, h2, h3, h4, h5, h6, h7, h8, h9, h10⟩ := hk
      exact ⟨l, ob, h2, h3, h4, h5, h6, h7, h8, h9, hm _ _ h10⟩
    · simp_all
  | _ => exact ⟨hk.1, hm _ _ hk.2⟩
theorem gateP_mono {v : AVal} {b : Bool} {ok ok' k k' : Prop} (hk : gateP v b ok k) (h1 : ok → ok') (h2 : k → k') : gateP v b ok' k' := by
  obtain ⟨t, ht, k1, k2⟩ := gateP_out hk
  rw [gateP_w ht]; exact ⟨fun h => h1 (k1 h), h2 k2⟩
theorem gateE_mono {v : AVal} {b : Bool} {ok ok' k k' : Prop} (hk : gateE v b ok k) (h1 : ok → ok') (h2 : k → k') : gateE v b ok' k' := by
  obtain ⟨t, ht, k1, k2⟩ := gateE_out hk
  rw [gateE_w ht]; exact ⟨fun h => h1 (k1 h), fun h => h2 (k2 h)⟩
theorem vcV_mono {op : SOp} {K K' : AVal → Heap → Prop} (hk : vcV P op e h K) (hm : ∀ r h', K r h' → K' r h') : vcV P op e h K' := by
  obtain ⟨dst, si, g⟩ := op
  cases g with
  | none => exact vcI_mono (si := si) hk hm
  | some sb =>
    obtain ⟨s, b⟩ := sb
    have hk : vcG P s b si e h K := hk
    show vcG P s b si e h K'
    unfold vcG at hk ⊢
    split at hk
    · obtain ⟨v, hk⟩ := hk
      exact ⟨v, gateP_mono hk id (hm _ _)⟩
    · split at hk
      · rename_i hg; rw [if_pos hg]; exact gateP_mono hk id (hm _ _)
      · rename_i hg; rw [if_neg hg]; exact gateE_mono hk (fun h => vcI_mono h hm) (hm _ _)

theorem vcG_other {s : Nat} {b : Bool} {si : SI} {K : AVal → Heap → Prop} (hn : ¬ ∃ f args, si = .pcall f args) :
    vcG P s b si e h K = (if si.gated = true then gateP (e s) b (fok si e h) (K (gateV (e s) b (fop si e h)) h) else gateE (e s) b (vcI P si e h K) (K (.tup []) h)) := by
  cases si <;> first | rfl | exact absurd ⟨_, _, rfl⟩ hn

theorem stable_split {op : SOp} (hs : op.si.stb = true) {K : AVal → Heap → Prop} (hk : vcV P op e h K) : ∃ r, SV P op e h r ∧ K r h := by
  obtain ⟨dst, si, g⟩ := op
  cases g with
  | none =>
    obtain ⟨r, h1, h2⟩ := (vcI_stb (si := si) hs).1 hk
    refine ⟨r, ?_, h2⟩
    show vcI P si e h (fun r' h' => r' = r ∧ h' = h)
    exact (vcI_stb hs).2 ⟨r, h1, rfl, rfl⟩
  | some sb =>
    obtain ⟨s, b⟩ := sb
    have hk : vcG P s b si e h K := hk
    show ∃ r, vcG P s b si e h (fun r' h' => r' = r ∧ h' = h) ∧ K r h
    by_cases hp : ∃ f args, si = .pcall f args
    · obtain ⟨f, args, rfl⟩ := hp
      obtain ⟨v, hk⟩ := hk
      obtain ⟨t, het, h1, h2⟩ := gateP_out hk
      refine ⟨_, ⟨v, ?_⟩, h2⟩
      rw [gateP_w het]
      exact ⟨h1, rfl, rfl⟩
    · rw [vcG_other hp] at hk
      by_cases hg : si.gated = true
      · rw [if_pos hg] at hk
        obtain ⟨t, het, h1, h2⟩ := gateP_out hk
        refine ⟨_, ?_, h2⟩
        rw [vcG_other hp, if_pos hg, gateP_w het]
        exact ⟨h1, rfl, rfl⟩
      · rw [if_neg hg] at hk
        obtain ⟨t, het, h1, h2⟩ := gateE_out hk
        cases t with
        | true =>
          obtain ⟨r, h3, h4⟩ := (vcI_stb (si := si) hs).1 (h1 rfl)
          refine ⟨r, ?_, h4⟩
          rw [vcG_other hp, if_neg hg, gateE_w het]
          exact ⟨fun _ => (vcI_stb hs).2 ⟨r, h3, rfl, rfl⟩, fun hne => by cases hne⟩
        | false =>
          refine ⟨.tup [], ?_, h2 rfl⟩
          rw [vcG_other hp, if_neg hg, gateE_w het]
          exact ⟨(fun h => by cases h), fun _ => ⟨rfl, rfl⟩⟩

theorem SV.heap {op : SOp} (hs : op.si.stb = true) {r : AVal} (hk : SV P op e h r) (hr : ∀ t ∈ rootsOf op e, h' t = h t) : SV P op e h' r := by
  have hroot : ∀ s b x r i j, op.si = .ld s b x → deVp (ev e x) = .ptr r i j → h r = h' r := by
    intro s b x r i j h1 h2
    exact (hr r (by simp [rootsOf, h1, h2])).symm
  obtain ⟨dst, si, g⟩ := op
  cases g with
  | none =>
    have hk : vcI P si e h (fun r' h' => r' = r ∧ h' = h) := hk
    obtain ⟨r', h1, rfl, _⟩ := (vcI_stb (si := si) hs).1 hk
    show vcI P si e h' (fun r'' h'' => r'' = r' ∧ h'' = h')
    exact (vcI_stb hs).2 ⟨r', stbR_heap hs hroot h1, rfl, rfl⟩
  | some sb =>
    obtain ⟨s, b⟩ := sb
    have hk : vcG P s b si e h (fun r' h' => r' = r ∧ h' = h) := hk
    show vcG P s b si e h' (fun r' h'' => r' = r ∧ h'' = h')
    by_cases hp : ∃ f args, si = .pcall f args
    · obtain ⟨f, args, rfl⟩ := hp
      obtain ⟨v, hk⟩ := hk
      obtain ⟨t, het, h1, h2, _⟩ := gateP_out hk
      refine ⟨v, ?_⟩
      rw [gateP_w het]
      exact ⟨h1, h2, rfl⟩
    · rw [vcG_other hp] at hk ⊢
      by_cases hg : si.gated = true
      · rw [if_pos hg] at hk ⊢
        obtain ⟨t, het, h1, h2, _⟩ := gateP_out hk
        obtain ⟨e1, e2⟩ := fop_heap (h' := h') hroot
        rw [gateP_w het, ← e1, ← e2]
        exact ⟨h1, h2, rfl⟩
      · rw [if_neg hg] at hk ⊢
        obtain ⟨t, het, h1, h2⟩ := gateE_out hk
        rw [gateE_w het]
        refine ⟨fun htb => ?_, fun hne => ⟨(h2 hne).1, rfl⟩⟩
        obtain ⟨r', h3, rfl, _⟩ := (vcI_stb (si := si) hs).1 (h1 htb)
        exact (vcI_stb hs).2 ⟨r', stbR_heap hs hroot h3, rfl, rfl⟩

theorem rootsOf_congr {op : SOp} (ha : ∀ t ∈ op.rd, e t = e' t) : rootsOf op e = rootsOf op e' := by
  unfold rootsOf
  split
  · rename_i s b x hx
    have : ev e x = ev e' x := ev_congr fun t ht => ha t (List.mem_append.2 (.inl (by rw [hx]; exact ht)))
    rw [this]
  · rfl

theorem toSOps_get {ann : Ann} {n : Nat} {ops : Array Oper} : ∀ {l : List Oper} {sl : List SOp}, toSOps P ann n ops l = some sl → sl.length = l.length ∧ ∀ (i : Nat) (o : Oper), l[i]? = some o → ∃ op, sl[i]? = some op ∧ toSOp P ann n ops o = some op
  | [], sl, ht => by simp [toSOps] at ht; subst ht; simp
  | o :: r, sl, ht => by
    simp only [toSOps, Option.bind_eq_some_iff, Option.map_eq_some_iff] at ht
    obtain ⟨s, hs, sr, hsr, rfl⟩ := ht
    obtain ⟨h1, h2⟩ := toSOps_get hsr
    refine ⟨by simp [h1], fun i o' hi => ?_⟩
    cases i with
    | zero => simp at hi; subst hi; exact ⟨s, rfl, hs⟩
    | succ i => simp at hi ⊢; exact h2 i o' hi
end

/-! ## The theorem -/
def opAt (sops : List SOp) (i : Nat) : SOp := sops.getD i ⟨none, .mv (.c .dead), none⟩

structure DI (P : PG) (ops : Array Oper) (sops : List SOp) (T : List (Nat × List Nat)) (eff : Nat → Bool) (n : Nat) (g0 : Ghost) (w0 : World) (K : Env → Heap → Prop)
    (A : Nat → Prop) (V R : List Nat) (e : Env) (h : Heap) (rs : List (Nat × Nat)) (a : Act) (w : World) : Prop where
  vR : ∀ i, i < sops.length → i ∈ V ∨ i ∈ R
  Vlt : ∀ i ∈ V, i < sops.length
  Vcl : ∀ i ∈ V, ∀ p ∈ preOf ops i, p ∈ V
  Acl : ∀ i, A i → ∀ p ∈ preOf ops i, A p
  Asub : ∀ i, A i → i ∈ V
  chk : chkL ops sops T eff V R = true
  st : ∀ i ∈ V, ¬ A i → eff i = false
  E : ∃ ea g, ERel n ea g w a ∧ HRel h g w ∧ GS g0 w0 g w ∧ MK w0 a ∧ ∀ t, (∀ j ∈ V, ¬ A j → (opAt sops j).dst ≠ some t) → ea t = e t
  sv : ∀ i ∈ V, ¬ A i → ∀ d, (opAt sops i).dst = some d → SV P (opAt sops i) e h (e d)
  rt : ∀ i ∈ V, ¬ A i → ∀ t ∈ rootsOf (opAt sops i) e, ((opAt sops i).dst.getD 0, t) ∈ rs
  vcd : vcD P (R.map fun i => (opAt sops i, eff i)) rs e h K

section
variable {P : PG} {ann : Ann} {ops : Array Oper} {sops : List SOp} {T : List (Nat × List Nat)} {eff : Nat → Bool} {n : Nat} {g0 : Ghost} {w0 : World} {K : Env → Heap → Prop}

theorem opAt_get {i : Nat} (hi : i < sops.length) : sops[i]? = some (opAt sops i) := getD_getElem? sops i _ hi

theorem eff_false {i : Nat} (heff : ∀ i, i < sops.length → eff i = effOf sops T i) (hi : i < sops.length) (h : eff i = false) : (opAt sops i).si.stb = true ∧ ∃ d, (opAt sops i).dst = some d ∧ d ∉ (opAt sops i).rd ∧
    ∀ j, j < sops.length → j ≠ i → (d ∈ (opAt sops j).rd → (ancIn T j).contains i = true) ∧ (opAt sops j).dst ≠ some d := by
  rw [heff i hi] at h
  unfold effOf at h
  rw [opAt_get hi] at h
  simp only [Bool.or_eq_false_iff, Bool.not_eq_false'] at h
  obtain ⟨h1, h2⟩ := h
  refine ⟨h1, ?_⟩
  cases hd : (opAt sops i).dst with
  | none => rw [hd] at h2; cases h2
  | some d =>
    rw [hd] at h2
    simp only [Bool.or_eq_false_iff] at h2
    obtain ⟨h0, h2⟩ := h2
    refine ⟨d, rfl, by simpa using h0, fun j hj hne => ?_⟩
    have h3 := List.any_eq_false.1 h2 j (List.mem_range.2 hj)
    rw [opAt_get hj] at h3
    simp only [Bool.and_eq_true, bne_iff_ne, ne_eq, Bool.or_eq_true, Bool.not_eq_true', beq_iff_eq] at h3
    refine ⟨fun hr => ?_, fun hd' => h3 ⟨hne, .inr hd'⟩⟩
    cases hc : (ancIn T j).contains i with
    | true => rfl
    | false => exact absurd ⟨hne, .inl ⟨by simpa using hr, hc⟩⟩ h3

theorem slotOK_out {i d : Nat} (hi : i < sops.length) (h : slotOK sops T i = true) (hd : (opAt sops i).dst = some d) : ∀ j, j < sops.length → j ≠ i → d ∈ (opAt sops j).rd → (ancIn T j).contains i = true ∨ (ancIn T i).contains j = true := by
  unfold slotOK at h
  rw [opAt_get hi] at h
  simp only [hd] at h
  intro j hj hne hr
  have h3 := List.all_eq_true.1 h j (List.mem_range.2 hj)
  rw [opAt_get hj] at h3
  simp only [Bool.or_eq_true, beq_iff_eq, Bool.not_eq_true'] at h3
  rcases h3 with h3 | (h3 | h3) | h3
  · exact absurd h3 hne
  · have : (opAt sops j).rd.contains d = true := by simpa using hr
    rw [this] at h3; cases h3
  · exact .inl h3
  · exact .inr h3

theorem chkL_cons {V : List Nat} {i : Nat} {r : List Nat} (h : chkL ops sops T eff V (i :: r) = true) : i < sops.length ∧ (∀ p ∈ preOf ops i, p ∈ V) ∧ i ∉ V ∧ chkL ops sops T eff (i :: V) r = true ∧
    (eff i = true → (∀ s, s < sops.length → eff s = false → s ∈ V ∨ ∃ p ∈ preOf ops s, p ∉ V) ∧ (∀ j ∈ r, eff j = true → (ancIn T j).contains i = true) ∧ slotOK sops T i = true) := by
  simp only [chkL, Bool.and_eq_true, decide_eq_true_eq, List.all_eq_true, Bool.not_eq_true'] at h
  obtain ⟨⟨⟨⟨h1, h2⟩, h3⟩, h4⟩, h5⟩ := h
  refine ⟨h1, fun p hp => by simpa using h2 p hp, by simpa using h3, h5, fun he => ?_⟩
  rw [if_pos he] at h4
  simp only [Bool.and_eq_true, List.all_eq_true] at h4
  obtain ⟨⟨h6, h7⟩, h8⟩ := h4
  refine ⟨fun s hs hes => ?_, fun j hj hej => ?_, h8⟩
  · have := h6 s (List.mem_range.2 hs)
    simp only [hes, Bool.false_or, Bool.or_eq_true, List.any_eq_true, Bool.not_eq_true'] at this
    rcases this with h9 | ⟨p, hp, h9⟩
    · exact .inl (by simpa using h9)
    · exact .inr ⟨p, hp, by simpa using h9⟩
  · have := h7 j hj
    simpa [hej] using this

theorem DI.advance (heff : ∀ i, i < sops.length → eff i = effOf sops T i) (hT : TblOK ops T) {A : Nat → Prop} {a : Act} {w : World} : ∀ (R V : List Nat) (e : Env) (h : Heap) (rs : List (Nat × Nat)), DI P ops sops T eff n g0 w0 K A V R e h rs a w →
    ∃ V' R' e' rs', DI P ops sops T eff n g0 w0 K A V' R' e' h rs' a w ∧ (R' = [] ∨ ∃ i r, R' = i :: r ∧ eff i = true)
  | [], V, e, h, rs, D => ⟨V, [], e, rs, D, .inl rfl⟩
  | i :: r, V, e, h, rs, D => by
    obtain ⟨hi, hp, hnV, hchk, _⟩ := chkL_cons D.chk
    cases hef : eff i with
    | true => exact ⟨V, i :: r, e, rs, D, .inr ⟨i, r, rfl, hef⟩⟩
    | false =>
      obtain ⟨hstb, d, hd, hself, hoth⟩ := eff_false heff hi hef
      have hv := D.vcd
      simp only [List.map_cons, hef, vcD, vcOp] at hv
      obtain ⟨v, hSV, hrest⟩ := stable_split hstb hv
      rw [hd] at hrest
      have hnA : ¬ A i := fun ha => hnV (D.Asub i ha)
      have agree : ∀ j ∈ V, ∀ t ∈ (opAt sops j).rd, e t = upd e d v t := by
        intro j hj t ht
        have hji : j ≠ i := fun hh => hnV (hh ▸ hj)
        have : t ≠ d := by
          rintro rfl
          have := (hoth j (D.Vlt j hj) hji).1 ht
          exact hnV (anc_in hT this (A := fun x => x ∈ V) D.Vcl (D.Vcl j hj))
        rw [upd_ne e v this]
      have agreei : ∀ t ∈ (opAt sops i).rd, e t = upd e d v t := by
        intro t ht
        have : t ≠ d := by rintro rfl; exact hself ht
        rw [upd_ne e v this]
      refine DI.advance heff hT r (i :: V) (upd e d v) h (rsOf (opAt sops i) e ++ rs) ⟨fun k hk => ?_, fun k hk => ?_, fun k hk p hpk => ?_, D.Acl, fun k hk => List.mem_cons_of_mem _ (D.Asub k hk), hchk, fun k hk hA => ?_, ?_, fun k hk hA d' hd' => ?_, fun k hk hA t ht => ?_, hrest⟩
      · rcases D.vR k hk with h1 | h1
        · exact .inl (List.mem_cons_of_mem _ h1)
        · rcases List.mem_cons.1 h1 with rfl | h1
          · exact .inl List.mem_cons_self
          · exact .inr h1
      · rcases List.mem_cons.1 hk with rfl | hk
        · exact hi
        · exact D.Vlt k hk
      · rcases List.mem_cons.1 hk with rfl | hk
        · exact List.mem_cons_of_mem _ (hp p hpk)
        · exact List.mem_cons_of_mem _ (D.Vcl k hk p hpk)
      · rcases List.mem_cons.1 hk with rfl | hk
        · exact hef
        · exact D.st k hk hA
      · obtain ⟨ea, g, E, H, S, hM, hag⟩ := D.E
        refine ⟨ea, g, E, H, S, hM, fun t ht => ?_⟩
        have htd : t ≠ d := by
          rintro rfl
          exact ht i List.mem_cons_self hnA hd
        rw [upd_ne e v htd]
        exact hag t fun j hj hA => ht j (List.mem_cons_of_mem _ hj) hA
      · rcases List.mem_cons.1 hk with rfl | hk
        · rw [hd] at hd'; cases hd'
          rw [upd_same]
          unfold SV at hSV ⊢
          rw [← vcV_congr agreei]
          exact hSV
        · have hki : k ≠ i := fun hh => hnV (hh ▸ hk)
          have hdd : d' ≠ d := fun hh => (hoth k (D.Vlt k hk) hki).2 (hh ▸ hd')
          rw [upd_ne e v hdd]
          have := D.sv k hk hA d' hd'
          unfold SV at this ⊢
          rw [← vcV_congr (agree k hk)]
          exact this
      · rcases List.mem_cons.1 hk with rfl | hk
        · rw [← rootsOf_congr agreei] at ht
          exact List.mem_append.2 (.inl (List.mem_map.2 ⟨t, ht, rfl⟩))
        · rw [← rootsOf_congr (agree k hk)] at ht
          exact List.mem_append.2 (.inr (D.rt k hk hA t ht))

def unl (N : Nat) (listed : Array Bool) : Nat := ((List.range N).filter fun i => !listed.getD i false).length

theorem getD_set {listed : Array Bool} {i k : Nat} (hi : i < listed.size) : (listed.setIfInBounds i true).getD k false = if k = i then true else listed.getD k false := by
  simp only [Array.getD_eq_getD_getElem?, Array.getElem?_setIfInBounds]
  by_cases h : i = k
  · subst h; simp [hi]
  · rw [if_neg h, if_neg (fun h' => h h'.symm)]

theorem DI.done {A : Nat → Prop} {a : Act} {w : World} {V R : List Nat} {e : Env} {h : Heap} {rs : List (Nat × Nat)} (D : DI P ops sops T eff n g0 w0 K A V R e h rs a w) (hall : ∀ i, i < sops.length → A i) : Lift n g0 w0 K a w := by
  have hR : R = [] := by
    cases R with
    | nil => rfl
    | cons i r =>
      obtain ⟨hi, _, hnV, _⟩ := chkL_cons D.chk
      exact absurd (D.Asub i (hall i hi)) hnV
  subst hR
  obtain ⟨ea, g, E, H, S, hM, hag⟩ := D.E
  have : ea = e := funext fun t => hag t fun j hj hA => absurd (hall j (D.Vlt j hj)) hA
  subst this
  exact ⟨ea, h, g, D.vcd, E, H, S, hM⟩

theorem draw_aux (GR : GRel P.gl g0 w0) (hsops : toSOps P ann n ops ops.toList = some sops) (heff : ∀ i, i < sops.length → eff i = effOf sops T i) (hT : TblOK ops T) (hpred : ∀ i, i < sops.length → ∀ p ∈ preOf ops i, p < i)
    {Q : Exit → Act → World → Prop} (hQ : ∀ a w, Lift n g0 w0 K a w → Q .normal a w) :
    ∀ (fuel : Nat) (listed : Array Bool) (V R : List Nat) (e : Env) (h : Heap) (rs : List (Nat × Nat)) (a : Act) (w : World), listed.size = sops.length → DI P ops sops T eff n g0 w0 K (fun i => listed.getD i false = true) V R e h rs a w →
      (R = [] ∨ ∃ i r, R = i :: r ∧ eff i = true) → unl sops.length listed ≤ fuel → wpAny P .any ops Q fuel listed a w := by
  obtain ⟨hlen, hget⟩ := toSOps_get hsops
  have hN : sops.length = ops.size := by simpa using hlen
  have fin : ∀ (listed : Array Bool) (V R : List Nat) (e : Env) (h : Heap) (rs : List (Nat × Nat)) (a : Act) (w : World), listed.size = sops.length → DI P ops sops T eff n g0 w0 K (fun i => listed.getD i false = true) V R e h rs a w →
      Region.ready .any ops listed = [] → Q .normal a w := by
    intro listed V R e h rs a w hsz D hr
    refine hQ a w (D.done fun i hi => ?_)
    induction i using Nat.strongRecOn with
    | _ i ih =>
      cases hc : listed.getD i false with
      | true => rfl
      | false =>
        exfalso
        have hlt : i < listed.size := by omega
        have hmem : i ∈ Region.ready .any ops listed := by
          refine ready_iff.2 ⟨by omega, ?_, fun p hp => ?_⟩
          · simp only [Array.getD_eq_getD_getElem?, Array.getElem?_eq_getElem hlt, Option.getD_some] at hc ⊢
            exact hc
          · have hpi := hpred i hi p hp
            exact ih p hpi (by omega)
        rw [hr] at hmem
        cases hmem
  intro fuel
  induction fuel with
  | zero =>
    intro listed V R e h rs a w hsz D _ hf
    have hr : Region.ready .any ops listed = [] := by
      cases hr : Region.ready .any ops listed with
      | nil => rfl
      | cons i r =>
        exfalso
        obtain ⟨h1, h2, _⟩ := ready_iff.1 (show i ∈ Region.ready .any ops listed by rw [hr]; exact List.mem_cons_self)
        have hlt : i < listed.size := by omega
        have : i ∈ (List.range sops.length).filter fun i => !listed.getD i false := by
          refine List.mem_filter.2 ⟨List.mem_range.2 (by omega), ?_⟩
          simp only [Array.getD_eq_getD_getElem?, Array.getElem?_eq_getElem hlt, Option.getD_some] at h2 ⊢
          simp [h2]
        have hpos := List.length_pos_of_mem this
        unfold unl at hf
        omega
    exact ⟨hr, fin listed V R e h rs a w hsz D hr⟩
  | succ fuel ih =>
    intro listed V R e h rs a w hsz D hhead hf
    refine ⟨fin listed V R e h rs a w hsz D, fun i hi => ?_⟩
    obtain ⟨hio, hnl, hpre⟩ := ready_iff.1 hi
    have hiN : i < sops.length := by omega
    have hlt : i < listed.size := by omega
    have hnA : ¬ listed.getD i false = true := by
      simp only [Array.getD_eq_getD_getElem?, Array.getElem?_eq_getElem hlt, Option.getD_some] at hnl ⊢
      simp [hnl]
    have hoi : ops[i]? = some ops[i] := Array.getElem?_eq_getElem hio
    obtain ⟨op, hop, hto⟩ := hget i ops[i] (by simp)
    obtain rfl : op = opAt sops i := by have := opAt_get hiN; rw [hop] at this; exact Option.some.inj this
    have hA' : ∀ k, (listed.setIfInBounds i true).getD k false = true ↔ k = i ∨ listed.getD k false = true := by
      intro k
      rw [getD_set hlt]
      by_cases hk : k = i
      · simp [hk]
      · simp [hk]
    have hcl' : ∀ k, (listed.setIfInBounds i true).getD k false = true → ∀ p ∈ preOf ops k, (listed.setIfInBounds i true).getD p false = true := by
      intro k hk p hp
      rw [hA'] at hk ⊢
      rcases hk with rfl | hk
      · exact .inr (hpre p hp)
      · exact .inr (D.Acl k hk p hp)
    have hunl : unl sops.length (listed.setIfInBounds i true) < unl sops.length listed := by
      unfold unl
      refine filter_lt (i := i) (List.mem_range.2 hiN) ?_ ?_ fun x hx => ?_
      · simp [hnA]
      · simp [getD_set hlt]
      · rw [getD_set hlt] at hx
        split at hx
        · simp at hx
        · exact hx
    obtain ⟨ea, g, E, H, S, hM, hag⟩ := D.E
    have St' : St n g0 w0 ea h g a w := ⟨E, H, S, hM⟩
    -- the slots that it reads are as they stand
    have reads : ∀ t ∈ (opAt sops i).rd, ea t = e t := by
      intro t ht
      refine hag t fun j hj hnj hdj => ?_
      have hji : j ≠ i ∨ j = i := by omega
      obtain ⟨_, d, hd, hself, hoth⟩ := eff_false heff (D.Vlt j hj) (D.st j hj hnj)
      rw [hdj] at hd; cases hd
      rcases hji with hji | rfl
      · have := (hoth i hiN (fun h => hji h.symm)).1 ht
        exact hnj (anc_in hT this (A := fun x => listed.getD x false = true) D.Acl hpre)
      · exact hself ht
    show wpOp P ops Q i (wpAny P .any ops Q fuel (listed.setIfInBounds i true)) a w
    unfold wpOp
    rw [hoi]
    by_cases hiV : i ∈ V
    · -- done already, in thought
      obtain ⟨_, d, hd, _, _⟩ := eff_false heff hiN (D.st i hiV hnA)
      have hSV := D.sv i hiV hnA d hd
      refine vcOp_sound (e := ea) (h := h) (K := fun e' h' => e' = setD ea (opAt sops i).dst (e d) ∧ h' = h) hto ?_ GR St' fun a' w' ⟨e', h', g', ⟨he', hh'⟩, T'⟩ => ?_
      · unfold vcOp
        rw [vcV_congr reads]
        have : SV P (opAt sops i) e h (e d) := hSV
        unfold SV at this
        exact vcV_mono this (by rintro r h' ⟨rfl, rfl⟩; exact ⟨rfl, rfl⟩)
      · subst he' hh'
        rw [hd] at T'
        refine ih _ V R e h' rs a' w' (by simp [hsz]) ⟨D.vR, D.Vlt, D.Vcl, hcl', fun k hk => ?_, D.chk, fun k hk hnk => D.st k hk fun h => hnk ((hA' k).2 (.inr h)), ⟨_, g', T'.E, T'.H, T'.S, T'.M, fun t ht => ?_⟩,
          fun k hk hnk => D.sv k hk fun h => hnk ((hA' k).2 (.inr h)), fun k hk hnk => D.rt k hk fun h => hnk ((hA' k).2 (.inr h)), D.vcd⟩ hhead (by omega)
        · rcases (hA' k).1 hk with rfl | hk
          · exact hiV
          · exact D.Asub k hk
        · simp only [setD]
          by_cases htd : t = d
          · subst htd; rw [upd_same]
          · rw [upd_ne _ _ htd]
            refine hag t fun j hj hnj hdj => ?_
            by_cases hji : j = i
            · subst hji; rw [hd] at hdj; exact htd (Option.some.inj hdj).symm
            · exact ht j hj (fun h => by rcases (hA' j).1 h with h1 | h1; exact hji h1; exact hnj h1) hdj
    · -- it is the next one that does something
      have hiR : i ∈ R := (D.vR i hiN).resolve_left hiV
      rcases hhead with rfl | ⟨i0, r, rfl, hef0⟩
      · cases hiR
      · obtain ⟨hi0, hp0, hn0, hchk, hC⟩ := chkL_cons D.chk
        obtain ⟨hC1, hC2, hC3⟩ := hC hef0
        have hii : i = i0 := by
          rcases List.mem_cons.1 hiR with h | h
          · exact h
          · exfalso
            cases hefi : eff i with
            | true =>
              have := hC2 i h hefi
              have hA0 := anc_in hT this (A := fun x => listed.getD x false = true) D.Acl hpre
              exact hn0 (D.Asub i0 hA0)
            | false =>
              rcases hC1 i hiN hefi with h1 | ⟨p, hp, h1⟩
              · exact hiV h1
              · exact h1 (D.Asub p (hpre p hp))
        subst hii
        have hv := D.vcd
        simp only [List.map_cons, hef0, vcD] at hv
        refine vcOp_sound (e := ea) (h := h) (K := fun e' h' => ∃ v, e' = setD ea (opAt sops i).dst v ∧ keepR (opAt sops i).rd rs h h' ∧ vcD P (r.map fun i => (opAt sops i, eff i)) (dropR (opAt sops i).rd rs) (setD e (opAt sops i).dst v) h' K) hto ?_ GR St' fun a' w' ⟨e', h', g', ⟨v, he', hroots, hrest⟩, T'⟩ => ?_
        · unfold vcOp at hv ⊢
          rw [vcV_congr reads]
          exact vcV_mono hv fun r h' hh => ⟨r, rfl, hh⟩
        · subst he'
          have agree : ∀ j ∈ V, ¬ listed.getD j false = true → ∀ t ∈ (opAt sops j).rd, e t = setD e (opAt sops i).dst v t := by
            intro j hj hnj t ht
            cases hd : (opAt sops i).dst with
            | none => rfl
            | some d =>
              have hji : j ≠ i := fun hh => hiV (hh ▸ hj)
              have : t ≠ d := by
                rintro rfl
                rcases slotOK_out hiN hC3 hd j (D.Vlt j hj) hji ht with h1 | h1
                · exact hiV (anc_in hT h1 (A := fun x => x ∈ V) D.Vcl (D.Vcl j hj))
                · exact hnj (anc_in hT h1 (A := fun x => listed.getD x false = true) D.Acl hpre)
              simp only [setD]
              rw [upd_ne e v this]
          have dstne : ∀ j ∈ V, ¬ listed.getD j false = true → ∀ d', (opAt sops j).dst = some d' → (opAt sops i).dst ≠ some d' := by
            intro j hj hnj d' hd'
            have hji : j ≠ i := fun hh => hiV (hh ▸ hj)
            obtain ⟨_, d, hd, _, hoth⟩ := eff_false heff (D.Vlt j hj) (D.st j hj hnj)
            rw [hd'] at hd; cases hd
            exact (hoth i hiN (fun h => hji h.symm)).2
          have unread : ∀ j ∈ V, ¬ listed.getD j false = true → (opAt sops i).rd.contains ((opAt sops j).dst.getD 0) = false := by
            intro j hj hnj
            have hji : j ≠ i := fun hh => hiV (hh ▸ hj)
            obtain ⟨_, d, hd, _, hoth⟩ := eff_false heff (D.Vlt j hj) (D.st j hj hnj)
            rw [hd]
            cases hc : (opAt sops i).rd.contains d with
            | false => exact hc
            | true =>
              exfalso
              have h1 := (hoth i hiN (fun h => hji h.symm)).1 (by simpa using hc)
              exact hnj (anc_in hT h1 (A := fun x => listed.getD x false = true) D.Acl hpre)
          have nA : ∀ k, k ∈ i :: V → ¬ (listed.setIfInBounds i true).getD k false = true → k ∈ V ∧ ¬ listed.getD k false = true := by
            intro k hk hnk
            rcases List.mem_cons.1 hk with rfl | hk
            · exact absurd ((hA' k).2 (.inl rfl)) hnk
            · exact ⟨hk, fun h => hnk ((hA' k).2 (.inr h))⟩
          have D' : DI P ops sops T eff n g0 w0 K (fun k => (listed.setIfInBounds i true).getD k false = true) (i :: V) r (setD e (opAt sops i).dst v) h' (dropR (opAt sops i).rd rs) a' w' := by
            refine ⟨fun k hk => ?_, fun k hk => ?_, fun k hk p hpk => ?_, hcl', fun k hk => ?_, hchk, fun k hk hnk => ?_, ⟨_, g', T'.E, T'.H, T'.S, T'.M, fun t ht => ?_⟩, fun k hk hnk d' hd' => ?_, fun k hk hnk t ht => ?_, hrest⟩
            · rcases D.vR k hk with h1 | h1
              · exact .inl (List.mem_cons_of_mem _ h1)
              · rcases List.mem_cons.1 h1 with rfl | h1
                · exact .inl List.mem_cons_self
                · exact .inr h1
            · rcases List.mem_cons.1 hk with rfl | hk
              · exact hiN
              · exact D.Vlt k hk
            · rcases List.mem_cons.1 hk with rfl | hk
              · exact List.mem_cons_of_mem _ (hp0 p hpk)
              · exact List.mem_cons_of_mem _ (D.Vcl k hk p hpk)
            · rcases (hA' k).1 hk with rfl | hk
              · exact List.mem_cons_self
              · exact List.mem_cons_of_mem _ (D.Asub k hk)
            · obtain ⟨h1, h2⟩ := nA k hk hnk
              exact D.st k h1 h2
            · have hf : ∀ j ∈ V, ¬ listed.getD j false = true → (opAt sops j).dst ≠ some t := by
                intro j hj hnj
                have hji : j ≠ i := fun hh => hiV (hh ▸ hj)
                exact ht j (List.mem_cons_of_mem _ hj) (fun h => by rcases (hA' j).1 h with h1 | h1; exact hji h1; exact hnj h1)
              cases hd : (opAt sops i).dst with
              | none => exact hag t hf
              | some d =>
                simp only [setD, upd]
                split
                · rfl
                · exact hag t hf
            · obtain ⟨h1, h2⟩ := nA k hk hnk
              have hne := dstne k h1 h2 d' hd'
              have hed : setD e (opAt sops i).dst v d' = e d' := by
                cases hd : (opAt sops i).dst with
                | none => rfl
                | some d =>
                  simp only [setD]
                  exact upd_ne e v (fun h => hne (by rw [hd, h]))
              rw [hed]
              have hs := D.sv k h1 h2 d' hd'
              have hstb := (eff_false heff (D.Vlt k h1) (D.st k h1 h2)).1
              have hs2 : SV P (opAt sops k) (setD e (opAt sops i).dst v) h (e d') := by
                unfold SV at hs ⊢
                rw [← vcV_congr (agree k h1 h2)]
                exact hs
              refine hs2.heap hstb fun t ht => ?_
              rw [← rootsOf_congr (agree k h1 h2)] at ht
              exact hroots _ (D.rt k h1 h2 t ht) (unread k h1 h2)
            · obtain ⟨h1, h2⟩ := nA k hk hnk
              rw [← rootsOf_congr (agree k h1 h2)] at ht
              refine List.mem_filter.2 ⟨D.rt k h1 h2 t ht, ?_⟩
              have := unread k h1 h2
              simp only [this, Bool.not_false]
          obtain ⟨V', R', e', rs', D'', hh⟩ := D'.advance heff hT
          exact ih _ V' R' e' h' rs' a' w' (by simp [hsz]) D'' hh (by omega)
end
end Go.Sim
