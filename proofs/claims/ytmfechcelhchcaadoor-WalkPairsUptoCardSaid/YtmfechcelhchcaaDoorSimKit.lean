/- More rules, and how results in memory of a call's own become data. -/
import Derived.Test.YtmfechcelhchcaaDoorSimUse
set_option linter.unusedSectionVars false
set_option linter.unusedSimpArgs false
namespace Go.Sim
open Go

section
variable {P : PG} {e : Env} {h : Heap} {K : AVal → Heap → Prop}

theorem natCast_succ_sub (n : Nat) : ((n + 1 : Nat) : Int) - 1 = n := by omega
theorem upd_id {h : Heap} {r : Nat} {o : AObj} (hr : h r = some o) : upd h r (some o) = h := by
  funext t; unfold upd; by_cases ht : t = r
  · subst ht; rw [if_pos rfl, hr]
  · rw [if_neg ht]
theorem Rd_oslE (s r sz i n : Nat) (F : List (List AVal) → Prop) : (∃ l, Rd h s (.osl r sz i n) l ∧ F l) = (∃ o, h r = some o ∧ sz = s ∧ i + n ≤ o.es.length ∧ F ((o.es.drop i).take n)) := by
  rw [eq_iff_iff]
  constructor
  · rintro ⟨l, ⟨h1, o, h2, h3, rfl⟩, hF⟩
    exact ⟨o, h2, h1, h3, hF⟩
  · rintro ⟨o, h2, h1, h3, hF⟩
    exact ⟨_, ⟨h1, o, h2, h3, rfl⟩, hF⟩
theorem appInE_osl (s r sz' i m : Nat) (es2 : List (List AVal)) (w : Wit K) : Hd (appInE s (.osl r sz' i m) es2 h) K w = (sz' = s ∧ ∃ ob, h r = some ob ∧ i + m + es2.length ≤ ob.es.length ∧
    K (.osl r s i (m + es2.length)) (upd h r (some { ob with es := ob.es.take (i + m) ++ es2 ++ ob.es.drop (i + m + es2.length) }))) := rfl
theorem slXE_osl (s r sz' i m : Nat) (lo hi : Option AVal) (w : Wit K) : Hd (slXE s (.osl r sz' i m) lo hi h) K w = (sz' = s ∧ ∃ ob, h r = some ob ∧ okB lo ∧ okB hi ∧ 0 ≤ loOf lo ∧ loOf lo ≤ hiOf m hi ∧ i + (hiOf m hi).toNat ≤ ob.es.length ∧
    K (.osl r s (i + (loOf lo).toNat) ((hiOf m hi).toNat - (loOf lo).toNat)) h) := rfl
theorem mksE_int (ty s b : Nat) (z : List AVal) (k k' : IntKind) (l c : Int) (w : Wit K) : Hd (mksE ty s b z (.int k l) (.int k' c) h) K w = (0 ≤ l ∧ l ≤ c ∧ c * b ≤ 140737488355328 ∧ c ≤ 140737488355328 ∧ ∀ r, h r = none → K (.osl r s 0 l.toNat) (upd h r (some ⟨ty, s, List.replicate c.toNat z⟩))) := rfl
theorem copyE_osl (s r sz' i m : Nat) (es2 : List (List AVal)) (w : Wit K) : Hd (copyE s (.osl r sz' i m) es2 h) K w = (sz' = s ∧ ∃ ob, h r = some ob ∧ i + m ≤ ob.es.length ∧
    K (aInt (min es2.length m : Nat)) (upd h r (some { ob with es := ob.es.take i ++ es2.take (min es2.length m) ++ ob.es.drop (i + min es2.length m) }))) := rfl
theorem usdE_emp (w : Wit K) : Hd (usdE .emp h) K w = K .anyp h := rfl
theorem usdE_osl (r s i m : Nat) (w : Wit K) : Hd (usdE (.osl r s i m) h) K w = (0 < m ∧ K (.ptr r i 0) h) := rfl
theorem ustrE_anyp (ty : Nat) (m : Int) (w : Wit K) : Hd (ustrE ty .anyp (.int .i64 m) h) K w = (m = 0 ∧ K (.str []) h) := rfl
theorem ustrE_ptr (ty r i j : Nat) (m : Int) (w : Wit K) : Hd (ustrE ty (.ptr r i j) (.int .i64 m) h) K w = (j = 0 ∧ ∃ (l : List UInt8) (ob : AObj), h r = some ob ∧ ob.ty = ty ∧ ob.sz = 1 ∧ i + l.length ≤ ob.es.length ∧ (ob.es.drop i).take l.length = strEs l ∧ m = l.length ∧ l ≠ [] ∧ l.length ≤ 9223372036854775807 ∧ K (.str l) (del h r)) := rfl
theorem clearE_osl (s r sz' i m : Nat) (z : List AVal) (w : Wit K) : Hd (clearE s z (.osl r sz' i m) h) K w = (sz' = s ∧ ∃ ob, h r = some ob ∧ i + m ≤ ob.es.length ∧ K .dead (upd h r (some { ob with es := ob.es.take i ++ List.replicate m z ++ ob.es.drop (i + m) }))) := rfl
theorem upd_upd {β : Type} (f : Nat → β) (r : Nat) (x y : β) : upd (upd f r x) r y = upd f r y := by
  funext t; unfold upd; by_cases ht : t = r <;> simp [ht]
/-- .. list by list -/
inductive F2 {α : Type} (R : α → α → Prop) : List α → List α → Prop
  | nil : F2 R [] []
  | cons {a b : α} {as bs : List α} (h : R a b) (t : F2 R as bs) : F2 R (a :: as) (b :: bs)
theorem F2.len {α : Type} {R : α → α → Prop} {as bs : List α} (h : F2 R as bs) : as.length = bs.length := by
  induction h with
  | nil => rfl
  | cons _ _ ih => simp [ih]
theorem F2.get {α : Type} {R : α → α → Prop} {as bs : List α} (h : F2 R as bs) : ∀ (j : Nat) (a b : α), as[j]? = some a → bs[j]? = some b → R a b := by
  induction h with
  | nil => intro j a b ha; simp at ha
  | cons h _ ih =>
    intro j a b ha hb
    cases j with
    | zero => simp only [List.getElem?_cons_zero, Option.some.injEq] at ha hb; subst ha hb; exact h
    | succ j => simp only [List.getElem?_cons_succ] at ha hb; exact ih j a b ha hb
theorem Wk.agg' {as bs : List AVal} (h : F2 Wk as bs) : Wk (.agg as) (.agg bs) := .agg as bs h.len h.get
theorem Wk.tup' {as bs : List AVal} (h : F2 Wk as bs) : Wk (.tup as) (.tup bs) := .tup as bs h.len h.get
theorem Wk.slc' {as bs : List (List AVal)} (h : F2 (F2 Wk) as bs) : Wk (.slc as) (.slc bs) :=
  .slc as bs h.len (fun i e f he hf => (h.get i e f he hf).len) fun i j e f a b he hf ha hb => (h.get i e f he hf).get j a b ha hb
theorem PCalls.wk {f : Nat} {args args' : List AVal} {v : AVal} (hp : PCalls P f args' v) (h : F2 Wk args args') : PCalls P f args v := hp.weak h.len h.get
theorem pcallE.of {f : Nat} {args : List AVal} {v : AVal} {K : AVal → Prop} (hp : PCalls P f args v) (hk : K v) : Hd (pcallE P f args) K .mk := ⟨v, hp, hk⟩
theorem DCalls.of {f : Nat} {args : List AVal} {K0 : AVal → Heap → Prop} (hd : DCalls P f args h K0) (hk : ∀ r h', K0 r h' → K r h') : Hd (DCalls P f args h) K .mk := hd.mono hk
theorem PCalls.of {f : Nat} {args : List AVal} {v : AVal} (hp : PCalls P f args v) (hk : K v h) : Hd (DCalls P f args h) K .mk := hp.d hk
theorem upd_none {r t : Nat} {o : AObj} : (upd h r (some o) t = none) = (t ≠ r ∧ h t = none) := by
  unfold upd; by_cases ht : t = r <;> simp [ht]
theorem PCalls.borrowK {f : Nat} {args args' : List AVal} {v : AVal} (hp : PCalls P f args' v) (hs : Scal v) (hl : args.length = args'.length) (hv : ∀ (j : Nat) (a b : AVal), args[j]? = some a → args'[j]? = some b → Vw h a b)
    (hk : K v h) : DCalls P f args h K := (hp.borrow hs hl hv).mono fun r h' ⟨e1, e2⟩ => by subst e1 e2; exact hk

/-- AN ARGUMENT IN MEMORY OF THE CALLER's OWN IS DATA FROM NOW ON. -/
theorem DCalls.fzArg {f r : Nat} {o : AObj} {args args' : List AVal} (hr : h r = some o) (hl : args.length = args'.length) (hz : ∀ (j : Nat) (a b : AVal), args[j]? = some a → args'[j]? = some b → Fz r o.es a b)
    (hd : DCalls P f args' (del h r) K) : DCalls P f args h K := by
  refine ⟨hd.1, fun g w vs H GR V => ?_⟩
  have key : ∀ g', GS g w g' w → (g.cap r ≠ 0 → g'.fz (g.eta r)) → VRelL g' w vs args' := by
    intro g' S hf
    refine ⟨V.1.trans hl, fun j u b hu hb => ?_⟩
    have hj : j < args.length := by rw [hl]; exact (List.getElem?_eq_some_iff.1 hb).1
    exact (hz j _ b (List.getElem?_eq_getElem hj) hb).rel H hr S hf (V.2 j u _ hu (List.getElem?_eq_getElem hj))
  by_cases hc : g.cap r = 0
  · exact hd.2 g w vs (H.del r) GR (key g (GS.refl g w) fun h => absurd hc h)
  · obtain ⟨S2, H2⟩ := H.freeze hr hc
    refine (hd.2 _ w vs H2 (GR.step S2) (key _ S2 fun _ => .inr rfl)).mono fun e w' ⟨v', a, h', g', he, k, H', Va, S⟩ => ?_
    exact ⟨v', a, h', g', he, k, H', Va, S2.trans S⟩

theorem DCalls.froze {f : Nat} {args : List AVal} {K0 : AVal → Heap → Prop} (hd : DCalls P f args h K0)
    (hk : ∀ a h', K0 a h' → (∃ b, Wk a b ∧ K b h') ∨ ∃ r o b, h' r = some o ∧ Fz r o.es a b ∧ K b (del h' r)) : DCalls P f args h K := by
  refine ⟨hd.1, fun g w vs H GR V => (hd.2 g w vs H GR V).mono fun e w' ⟨v', a, h', g', he, k0, H', Va, S⟩ => ?_⟩
  rcases hk a h' k0 with ⟨b, hz, hkb⟩ | ⟨r, o, b, hr, hz, hkb⟩
  · exact ⟨v', b, h', g', he, hkb, H', hz.rel Va, S⟩
  · by_cases hc : g'.cap r = 0
    · exact ⟨v', b, del h' r, g', he, hkb, H'.del r, hz.rel H' hr (GS.refl g' w') (fun h => absurd hc h) Va, S⟩
    · obtain ⟨S2, H2⟩ := H'.freeze hr hc
      exact ⟨v', b, del h' r, _, he, hkb, H2, hz.rel H' hr S2 (fun _ => .inr rfl) Va, S.trans S2⟩

/-- every root of h is in h' as it was -/
def Sub (h h' : Heap) : Prop := ∀ t o, h t = some o → h' t = some o
theorem Sub.refl (h : Heap) : Sub h h := fun _ _ h => h
theorem Sub.trans {h h' h'' : Heap} (a : Sub h h') (b : Sub h' h'') : Sub h h'' := fun t o ht => b t o (a t o ht)
theorem Sub.upd {h h' : Heap} {r : Nat} {x : Option AObj} (hs : Sub h h') (hr : h r = none) : Sub h (upd h' r x) := fun t o ht => by
  rw [upd_ne _ _ (fun e => by rw [e, hr] at ht; cases ht)]; exact hs t o ht
theorem Sub.del {h h' : Heap} {r : Nat} (hs : Sub h h') (hr : h r = none) : Sub h (del h' r) := fun t o ht => by
  unfold Sim.del; rw [if_neg (fun e => by rw [e, hr] at ht; cases ht)]; exact hs t o ht
theorem Sub.none {h h' : Heap} {r : Nat} (hs : Sub h h') (hr : h' r = none) : h r = none := by
  cases hh : h r with
  | none => rfl
  | some o => rw [hs r o hh] at hr; cases hr
theorem Sub.put {h h' : Heap} {r : Nat} {o : AObj} (hs : Sub h h') (hr : h' r = some o) : Sub (Sim.upd h r (some o)) h' := fun t ob ht => by
  by_cases e : t = r
  · subst e; rw [upd_same] at ht; cases ht; exact hr
  · rw [upd_ne _ _ e] at ht; exact hs t ob ht

theorem retK_normalS {rs : List SRes} {R : AVal → Heap → Prop} : retK rs R .normal e h = (allOK e h rs ∧ ∃ h', Sub h' h ∧ R (retV e h rs) h') := rfl
theorem retK_retS {rs : List SRes} {R : AVal → Heap → Prop} : retK rs R .ret e h = (allOK e h rs ∧ ∃ h', Sub h' h ∧ R (retV e h rs) h') := rfl

/-- A result that may be frozen: the empty slice, or a slice of one new root. -/
def Out (sz : Nat) (cells : List (List AVal)) (h : Heap) (a : AVal) (h' : Heap) : Prop :=
  (cells = [] ∧ a = .emp ∧ h' = h) ∨ ∃ r o i n, h r = none ∧ a = .osl r sz i n ∧ h' = upd h r (some o) ∧ i + n ≤ o.es.length ∧ (o.es.drop i).take n = cells
theorem del_upd {h : Heap} {r : Nat} {o : Option AObj} (hr : h r = none) : del (upd h r o) r = h := by
  funext t; unfold del upd; by_cases ht : t = r
  · subst ht; simp [hr]
  · simp [ht]
theorem PCalls.out {f sz : Nat} {args : List AVal} {cells : List (List AVal)} (hd : ∀ h, DCalls P f args h (Out sz cells h)) : PCalls P f args (.slc cells) := fun h =>
  (hd h).froze fun a h' hk => by
    rcases hk with ⟨rfl, rfl, rfl⟩ | ⟨r, o, i, n, hr, rfl, rfl, hle, rfl⟩
    · exact .inl ⟨_, .emp, rfl, rfl⟩
    · exact .inr ⟨r, o, _, upd_same _ _ _, .osl sz i n hle, rfl, del_upd hr⟩
theorem PCalls.outT {f sz : Nat} {args rest : List AVal} {cells : List (List AVal)} (hd : ∀ h, DCalls P f args h fun a h' => ∃ a0, a = .tup (a0 :: rest) ∧ Out sz cells h a0 h') : PCalls P f args (.tup (.slc cells :: rest)) := fun h =>
  (hd h).froze fun a h' ⟨a0, ha, hk⟩ => by
    subst ha
    rcases hk with ⟨rfl, rfl, rfl⟩ | ⟨r, o, i, n, hr, rfl, rfl, hle, rfl⟩
    · refine .inl ⟨_, .tup _ (.slc [] :: rest) rfl fun j a b ha hb => ?_, rfl, rfl⟩
      cases j with
      | zero => simp only [List.getElem?_cons_zero, Option.some.injEq] at ha hb; subst ha hb; exact .emp
      | succ j => simp only [List.getElem?_cons_succ] at ha hb; rw [ha] at hb; cases hb; exact .refl _
    · refine .inr ⟨r, o, _, upd_same _ _ _, .tup _ (.slc ((o.es.drop i).take n) :: rest) rfl fun j a b ha hb => ?_, rfl, del_upd hr⟩
      cases j with
      | zero => simp only [List.getElem?_cons_zero, Option.some.injEq] at ha hb; subst ha hb; exact .osl sz i n hle
      | succ j => simp only [List.getElem?_cons_succ] at ha hb; rw [ha] at hb; cases hb; exact .refl _

/-- A list that is being built: nil, or a new root of its own. -/
def Acc (h : Heap) (ty : TypeId) (sz : Nat) (cells : List (List AVal)) (a : AVal) (h' : Heap) : Prop :=
  (cells = [] ∧ a = .emp) ∨ ∃ r, h r = none ∧ h' r = some ⟨ty, sz, cells⟩ ∧ a = .osl r sz 0 cells.length
theorem Acc.nil {h h' : Heap} {ty : TypeId} {sz : Nat} : Acc h ty sz [] .emp h' := .inl ⟨rfl, rfl⟩
theorem Acc.root {h h' : Heap} {ty : TypeId} {sz r : Nat} {cells : List (List AVal)} (h0 : h r = none) (h1 : h' r = some ⟨ty, sz, cells⟩) : Acc h ty sz cells (.osl r sz 0 cells.length) h' := .inr ⟨r, h0, h1, rfl⟩
theorem Acc.app {h h' : Heap} {ty : TypeId} {sz b : Nat} {cells es2 : List (List AVal)} {a : AVal} (A : Acc h ty sz cells a h') (S : Sub h h')
    (h1 : (cells.length + es2.length) * b ≤ 140737488355328) (h2 : cells.length + es2.length ≤ 140737488355328)
    (hk : ∀ a' h'', Acc h ty sz (cells ++ es2) a' h'' → Sub h h'' → K a' h'') : Hd (appE ty sz b a es2 h') K .mk := by
  rcases A with ⟨rfl, rfl⟩ | ⟨r, h0, hr, rfl⟩
  · refine ⟨by simpa using h1, by simpa using h2, fun r hr => hk _ _ ?_ (S.upd (S.none hr))⟩
    exact .inr ⟨r, S.none hr, by simp, rfl⟩
  · refine ⟨rfl, _, hr, rfl, by simp, h1, h2, fun r' hr' => hk _ _ ?_ ?_⟩
    · have hn : h r' = none := (S.del h0).none hr'
      refine .inr ⟨r', hn, by simp, by simp⟩
    · exact (S.del h0).upd ((S.del h0).none hr')
theorem Acc.out {h h' : Heap} {ty : TypeId} {sz : Nat} {cells : List (List AVal)} {a : AVal} (A : Acc h ty sz cells a h') (S : Sub h h') : ∃ h'', (∀ t o, h'' t = some o → h' t = some o) ∧ Out sz cells h a h'' := by
  rcases A with ⟨rfl, rfl⟩ | ⟨r, h0, hr, rfl⟩
  · exact ⟨h, S, .inl ⟨rfl, rfl, rfl⟩⟩
  · exact ⟨upd h r _, S.put hr, .inr ⟨r, _, 0, _, h0, rfl, rfl, by simp, by simp⟩⟩
/-- less of the heap -/
theorem DCalls.sub {f : Nat} {args : List AVal} {K0 : AVal → Heap → Prop} (hd : DCalls P f args h K0) (hk : ∀ a h', K0 a h' → ∃ h'', Sub h'' h' ∧ K a h'') : DCalls P f args h K :=
  ⟨hd.1, fun g w vs H GR V => (hd.2 g w vs H GR V).mono fun e w' ⟨v', a, h', g', he, k0, H', Va, S⟩ => by
    obtain ⟨h'', hs, k⟩ := hk a h' k0
    exact ⟨v', a, h'', g', he, k, H'.le hs, Va, S⟩⟩
/-- a result that has been built: it may be gone on with, or be data -/
def AccK (h : Heap) (ty : TypeId) (sz : Nat) (cells : List (List AVal)) (a : AVal) (h' : Heap) : Prop := Acc h ty sz cells a h' ∧ Sub h h'
theorem PCalls.acc {f sz : Nat} {ty : TypeId} {args : List AVal} {cells : List (List AVal)} (hd : ∀ h, DCalls P f args h (AccK h ty sz cells)) : PCalls P f args (.slc cells) :=
  PCalls.out (sz := sz) fun h => (hd h).sub fun _ _ ⟨A, S⟩ => A.out S
theorem PCalls.accT {f sz : Nat} {ty : TypeId} {args rest : List AVal} {cells : List (List AVal)} (hd : ∀ h, DCalls P f args h fun a h' => ∃ a0, a = .tup (a0 :: rest) ∧ AccK h ty sz cells a0 h') : PCalls P f args (.tup (.slc cells :: rest)) :=
  PCalls.outT (sz := sz) fun h => (hd h).sub fun _ _ ⟨a0, e, A, S⟩ => by
    obtain ⟨h'', hs, O⟩ := A.out S
    exact ⟨h'', hs, a0, e, O⟩
theorem Acc.mono {h0 h h' : Heap} {ty : TypeId} {sz : Nat} {cells : List (List AVal)} {a : AVal} (A : Acc h ty sz cells a h') (S : Sub h0 h) : Acc h0 ty sz cells a h' := by
  rcases A with h | ⟨r, h0, h1, h2⟩
  · exact .inl h
  · exact .inr ⟨r, S.none h0, h1, h2⟩
end

section
variable {α : Type} [Inhabited α] {enc : α → List AVal} {l : List α} {sz : Nat} {P : PG} {e : Env} {h : Heap}
theorem getD_map_enc {k : Nat} (hk : k < l.length) : (l.map enc).getD k [] = enc (nth l k) := by
  rw [List.getD_eq_getElem?_getD, List.getElem?_map, nth_some hk]; rfl
theorem set_map_enc {k : Nat} {x : List AVal} (hk : k < l.length) (hx : x = enc (nth l k)) : (l.map enc).set k x = l.map enc := by
  apply List.ext_getElem?
  intro i
  rw [List.getElem?_set]
  split
  · rename_i h; subst h
    rw [if_pos (by simpa using hk), hx, List.getElem?_map, nth_some hk]; rfl
  · rfl
theorem getD_take_enc {es : List (List AVal)} {n k : Nat} (he : es.take n = l.map enc) (hk : k < l.length) : es.getD k [] = enc (nth l k) := by
  have h1 : (es.take n)[k]? = some (enc (nth l k)) := by rw [he, List.getElem?_map, nth_some hk]; rfl
  rw [List.getElem?_take] at h1
  split at h1
  · rw [List.getD_eq_getElem?_getD, h1]; rfl
  · cases h1
theorem Acc.len {h h' : Heap} {ty : TypeId} {sz : Nat} {cells : List (List AVal)} {a : AVal} (A : Acc h ty sz cells a h') : aLen a = aInt cells.length ∧ okLen a = True := by
  rcases A with ⟨rfl, rfl⟩ | ⟨r, _, _, rfl⟩
  · exact ⟨rfl, rfl⟩
  · exact ⟨rfl, rfl⟩
theorem Acc.pos {h h' : Heap} {ty : TypeId} {sz : Nat} {cells : List (List AVal)} {a : AVal} (A : Acc h ty sz cells a h') (hp : 0 < cells.length) : ∃ r, h r = none ∧ h' r = some ⟨ty, sz, cells⟩ ∧ a = .osl r sz 0 cells.length := by
  rcases A with ⟨rfl, rfl⟩ | h
  · simp at hp
  · exact h
theorem aSlA_sl (lo hi : Option AVal) : aSlA (sl enc l) lo hi = sl enc ((l.take (hiOf l.length hi).toNat).drop (loOf lo).toNat) := by
  simp [aSlA, sl]
theorem okSlA_sl [LenE enc sz] {s : Nat} (lo hi : Option AVal) : okSlA s (sl enc l) lo hi = (okB lo ∧ okB hi ∧ 0 ≤ loOf lo ∧ loOf lo ≤ hiOf l.length hi ∧ hiOf l.length hi ≤ l.length ∧ (l = [] ∨ sz = s)) := by
  simp only [okSlA, sl, List.length_map, eq_iff_iff]
  refine and_congr_right fun _ => and_congr_right fun _ => and_congr_right fun _ => and_congr_right fun _ => and_congr_right fun _ => ?_
  constructor
  · intro hh
    cases l with
    | nil => exact .inl rfl
    | cons x r => exact .inr ((LenE.len (enc := enc) x).symm.trans (hh _ (by simp)))
  · intro hh e he
    obtain ⟨x, hx, rfl⟩ := List.mem_map.1 he
    rcases hh with rfl | rfl
    · cases hx
    · exact LenE.len x
theorem Rd_sl [LenE enc sz] (x : List (List AVal)) : Rd h sz (sl enc l) x = (x = l.map enc) := by
  simp only [Rd, sl, eq_iff_iff, and_iff_left_iff_imp]
  intro _ e he
  obtain ⟨x, hx, rfl⟩ := List.mem_map.1 he
  exact LenE.len x
theorem nil_sl (n : Bool) (K : AVal → Prop) (w : Wit K) : Hd (nilE 0 n (sl enc l)) K w = ∀ b : Bool, (b = true → l = []) → K (.bool (xor n b)) := by
  simp [Hd, nilE, sl]

variable {K : AVal → Heap → Prop}
/-- one owned list is lent to a reader -/
theorem PCalls.borrow1 [LenE enc sz] {f r n : Nat} {ty : TypeId} {es : List (List AVal)} {L : List α} {v : AVal} (hp : PCalls P f [sl enc L] v) (hs : Scal v) (hr : h r = some ⟨ty, sz, es⟩) (hn : n ≤ es.length) (he : es.take n = L.map enc)
    (hk : K v h) : Hd (DCalls P f [.osl r sz 0 n] h) K .mk := by
  refine hp.borrowK hs rfl (fun j a b ha hb => ?_) hk
  cases j with
  | succ j => simp at ha
  | zero =>
    simp only [List.getElem?_cons_zero, Option.some.injEq] at ha hb
    subst ha hb
    refine .osl r sz 0 n _ _ hr (by simpa using hn) ?_ ?_ ?_
    · rw [← he]; simp; omega
    · intro f hf
      obtain ⟨x, _, rfl⟩ := List.mem_map.1 hf
      exact LenE.len x
    · intro k j e f a b h1 h2 h3 h4
      rw [← he] at h2
      have hk : k < n := by
        have := (List.getElem?_eq_some_iff.1 h2).1
        simp at this; omega
      rw [List.getElem?_take, if_pos hk] at h2
      simp only [Nat.zero_add] at h1
      rw [h1] at h2; cases h2
      rw [h3] at h4; cases h4
      exact .refl _
/-- one owned list becomes data -/
theorem DCalls.fz1 {f r n : Nat} {ty : TypeId} {es : List (List AVal)} {L : List α} (hr : h r = some ⟨ty, sz, es⟩) (hn : n ≤ es.length) (he : es.take n = L.map enc)
    (hd : DCalls P f [sl enc L] (del h r) K) : Hd (DCalls P f [.osl r sz 0 n] h) K .mk := by
  refine DCalls.fzArg (args' := [sl enc L]) hr rfl (fun j a b ha hb => ?_) hd
  cases j with
  | succ j => simp at ha
  | zero =>
    simp only [List.getElem?_cons_zero, Option.some.injEq] at ha hb
    subst ha hb
    have := Fz.osl (r := r) (es := es) sz 0 n (by simpa using hn)
    simp only [List.drop_zero, he] at this
    exact this
end
end Go.Sim
