/- The conditions of a body, over abstract values; and that they are enough. -/
import Derived.Test.YtmfechcelhchcaaDoorSimSound7
namespace Go.Sim
open Go

structure Callable (P : Program) (f : Nat) : Prop where
  ex : ∃ fn, P.funcs[f]? = some fn ∧ (fn.name == "runtime.NumGoroutine") = false ∧ fn.body.isSome = true

/-- A CONTRACT: called with values that stand for 'args', in a heap that stands as 'h', the function returns; its result and the heap are as K says. -/
def DCalls (P : PG) (f : Nat) (args : List AVal) (h : Heap) (K : AVal → Heap → Prop) : Prop :=
  Callable P f ∧ ∀ (g : Ghost) (w : World) (vs : Array Value), HRel h g w → GRel P.gl g w → VRelL g w vs args →
    Calls P f vs w fun e w' => ∃ v r h' g', e = .returned v ∧ K r h' ∧ HRel h' g' w' ∧ VRel g' w' v r ∧ GS g w g' w'
/-- .. of a function that only computes: whatever the heap is. -/
def PCalls (P : PG) (f : Nat) (args : List AVal) (v : AVal) : Prop := ∀ h, DCalls P f args h fun r h' => r = v ∧ h' = h

theorem DCalls.mono {P : PG} {f : Nat} {args : List AVal} {h : Heap} {K K' : AVal → Heap → Prop} (hd : DCalls P f args h K) (hk : ∀ r h', K r h' → K' r h') : DCalls P f args h K' :=
  ⟨hd.1, fun g w vs H GR V => (hd.2 g w vs H GR V).mono fun _ _ ⟨v, r, h', g', he, k, rest⟩ => ⟨v, r, h', g', he, hk r h' k, rest⟩⟩
theorem PCalls.d {P : PG} {f : Nat} {args : List AVal} {v : AVal} (hp : PCalls P f args v) {h : Heap} {K : AVal → Heap → Prop} (hk : K v h) : DCalls P f args h K :=
  (hp h).mono fun r h' ⟨e1, e2⟩ => by subst e1 e2; exact hk

def callE (P : PG) (f : AVal) (args : List AVal) (h : Heap) (K : AVal → Heap → Prop) : Prop :=
  match f with
  | .fn k first cap => DCalls P k (first ++ (args ++ cap)) h K
  | _ => False
def stE (size : Nat) (p v : AVal) (h : Heap) (K : AVal → Heap → Prop) : Prop :=
  match deVp p with
  | .ptr r i j => ∃ ob, h r = some ob ∧ i < ob.es.length ∧ j + size ≤ (ob.es.getD i []).length ∧ isV v = true ∧ (cellsOf v).length = size ∧
      K .dead (upd h r (some { ob with es := ob.es.set i (setAt (ob.es.getD i []) j (cellsOf v)) }))
  | _ => False
def appE (ty sz bytes : Nat) (x : AVal) (es2 : List (List AVal)) (h : Heap) (K : AVal → Heap → Prop) : Prop :=
  match x with
  | .emp => es2.length * bytes ≤ 140737488355328 ∧ es2.length ≤ 140737488355328 ∧ ∀ r, h r = none → K (.osl r sz 0 es2.length) (upd h r (some ⟨ty, sz, es2⟩))
  | .osl r sz' i m => sz' = sz ∧ ∃ ob, h r = some ob ∧ ob.ty = ty ∧ i + m ≤ ob.es.length ∧ (m + es2.length) * bytes ≤ 140737488355328 ∧ m + es2.length ≤ 140737488355328 ∧
      ∀ r', del h r r' = none → K (.osl r' sz 0 (m + es2.length)) (upd (del h r) r' (some ⟨ty, sz, (ob.es.drop i).take m ++ es2⟩))
  | _ => False
def appInE (sz : Nat) (x : AVal) (es2 : List (List AVal)) (h : Heap) (K : AVal → Heap → Prop) : Prop :=
  match x with
  | .osl r sz' i m => sz' = sz ∧ ∃ ob, h r = some ob ∧ i + m + es2.length ≤ ob.es.length ∧
      K (.osl r sz i (m + es2.length)) (upd h r (some { ob with es := ob.es.take (i + m) ++ es2 ++ ob.es.drop (i + m + es2.length) }))
  | _ => False
def slXE (sz : Nat) (x : AVal) (lo hi : Option AVal) (h : Heap) (K : AVal → Heap → Prop) : Prop :=
  match x with
  | .osl r sz' i m => sz' = sz ∧ ∃ ob, h r = some ob ∧ okB lo ∧ okB hi ∧ 0 ≤ loOf lo ∧ loOf lo ≤ hiOf m hi ∧ i + (hiOf m hi).toNat ≤ ob.es.length ∧
      K (.osl r sz (i + (loOf lo).toNat) ((hiOf m hi).toNat - (loOf lo).toNat)) h
  | _ => False
def mksE (ty sz bytes : Nat) (z : List AVal) (x y : AVal) (h : Heap) (K : AVal → Heap → Prop) : Prop :=
  match x, y with
  | .int _ l, .int _ c => 0 ≤ l ∧ l ≤ c ∧ c * bytes ≤ 140737488355328 ∧ c ≤ 140737488355328 ∧ ∀ r, h r = none → K (.osl r sz 0 l.toNat) (upd h r (some ⟨ty, sz, List.replicate c.toNat z⟩))
  | _, _ => False
def copyE (sz : Nat) (x : AVal) (es2 : List (List AVal)) (h : Heap) (K : AVal → Heap → Prop) : Prop :=
  match x with
  | .osl r sz' i m => sz' = sz ∧ ∃ ob, h r = some ob ∧ i + m ≤ ob.es.length ∧
      K (aInt (min es2.length m : Nat)) (upd h r (some { ob with es := ob.es.take i ++ es2.take (min es2.length m) ++ ob.es.drop (i + min es2.length m) }))
  | _ => False
def clearE (sz : Nat) (z : List AVal) (x : AVal) (h : Heap) (K : AVal → Heap → Prop) : Prop :=
  match x with
  | .osl r sz' i m => sz' = sz ∧ ∃ ob, h r = some ob ∧ i + m ≤ ob.es.length ∧ K .dead (upd h r (some { ob with es := ob.es.take i ++ List.replicate m z ++ ob.es.drop (i + m) }))
  | _ => False
def okParts (sz : Nat) (e : Env) : List SX → Prop
  | [] => True
  | x :: r => isV (ev e x) = true ∧ (cellsOf (ev e x)).length = sz ∧ okParts sz e r
def litE (ty sz : Nat) (parts : List SX) (e : Env) (h : Heap) (K : AVal → Heap → Prop) : Prop :=
  okParts sz e parts ∧ ∀ r, h r = none → K (.osl r sz 0 parts.length) (upd h r (some ⟨ty, sz, parts.map fun x => cellsOf (ev e x)⟩))

/-- What an operation asks, and what is then. -/
def vcI (P : PG) (si : SI) (e : Env) (h : Heap) (K : AVal → Heap → Prop) : Prop :=
  match si with
  | .isnil k neg x => nilE k neg (ev e x) fun r => K r h
  | .bldR ty sz parts => litE ty sz parts e h K
  | .box ty sz x => isV (ev e x) = true ∧ (cellsOf (ev e x)).length = sz ∧ ∀ r, h r = none → K (.vp r 0) (upd h r (some ⟨ty, sz, [cellsOf (ev e x)]⟩))
  | .boxF _ sz x => isV (ev e x) = true ∧ (cellsOf (ev e x)).length = sz ∧ K (.pin (cellsOf (ev e x))) h
  | .new ty sz z => ∀ r, h r = none → K (.vp r 0) (upd h r (some ⟨ty, sz, [z]⟩))
  | .newnil ty sz => ∀ r, h r = none → K (.osl r sz 0 0) (upd h r (some ⟨ty, sz, []⟩))
  | .st size x v => stE size (ev e x) (ev e v) h K
  | .app ty sz b x y => ∃ es2, Rd h sz (ev e y) es2 ∧ appE ty sz b (ev e x) es2 h K
  | .appS ty b x y => ∃ l, ev e y = .str l ∧ appE ty 1 b (ev e x) (strEs l) h K
  | .appIn _ sz x y => ∃ es2, Rd h sz (ev e y) es2 ∧ appInE sz (ev e x) es2 h K
  | .slX sz x lo hi => slXE sz (ev e x) (evO e lo) (evO e hi) h K
  | .mks ty sz b z n c => mksE ty sz b z (ev e n) (ev e c) h K
  | .copy sz x y => ∃ es2, Rd h sz (ev e y) es2 ∧ copyE sz (ev e x) es2 h K
  | .clear sz z x => clearE sz z (ev e x) h K
  | .call f args => callE P (ev e f) (args.map (ev e)) h K
  | .pcall f args => ∃ v, PCalls P f (args.map (ev e)) v ∧ K v h
  | .b2s x => ∃ l, Rd h 1 (ev e x) (strEs l) ∧ K (.str l) h
  | .usd x => usdE (ev e x) h K
  | .ustr ty x y => ustrE ty (ev e x) (ev e y) h K
  | .bldF ty sz parts => okParts sz e parts ∧ K (fop (.bldF ty sz parts) e h) h
  | si => fok si e h ∧ K (fop si e h) h

section
variable {P : PG} {o : Oper} {a : Act} {w : World} {g : Ghost} {h : Heap} {n : Nat} {e : Env}

theorem wp_of_V {next : Act → World → Prop} {Q : Exit → Act → World → Prop} {r : AVal} (s : StepV P o a w g r) (hn : ∀ v, VRel g w v r → next (a.put o.dst v) w) : o.wp P a w next Q := by
  obtain ⟨v, hr, hv⟩ := s
  unfold Oper.wp
  rw [hr]
  exact hn v hv
theorem wp_of_W {next : Act → World → Prop} {Q : Exit → Act → World → Prop} {K : AVal → Heap → Prop} (s : StepW P o a w g K)
    (hn : ∀ v w' g' r h', GS g w g' w' → HRel h' g' w' → VRel g' w' v r → K r h' → next (a.put o.dst v) w') : o.wp P a w next Q := by
  obtain ⟨v, w', g', r, h', hr, S, H, V, k⟩ := s
  unfold Oper.wp
  rcases hr with hr | ⟨hr, rfl⟩
  · rw [hr]; exact hn v w' g' r h' S H V k
  · rw [hr]; exact hn undef w' g' r h' S H V k

theorem VRelL.append {vs us : Array Value} {as bs : List AVal} (h1 : VRelL g w vs as) (h2 : VRelL g w us bs) : VRelL g w (vs ++ us) (as ++ bs) := by
  refine ⟨by rw [Array.size_append, List.length_append, h1.1, h2.1], fun j u x hu hx => ?_⟩
  by_cases hj : j < vs.size
  · rw [Array.getElem?_append_left hj] at hu
    rw [List.getElem?_append_left (by rw [← h1.1]; exact hj)] at hx
    exact h1.2 j u x hu hx
  · rw [Array.getElem?_append_right (by omega)] at hu
    rw [List.getElem?_append_right (by rw [← h1.1]; omega), ← h1.1] at hx
    exact h2.2 _ u x hu hx

theorem okParts_out {sz : Nat} : ∀ {parts : List SX}, okParts sz e parts → ∀ x ∈ parts, isV (ev e x) = true ∧ (cellsOf (ev e x)).length = sz
  | [], _, x, hx => by cases hx
  | y :: r, hk, x, hx => by
    obtain ⟨h1, h2, h3⟩ := hk
    rcases List.mem_cons.1 hx with rfl | hx
    · exact ⟨h1, h2⟩
    · exact okParts_out h3 x hx

theorem call_wp {c : Call} {f : Operand} {k : Nat} {first cap : List AVal} {ss : List SX} (ho : o.op = .call c) (hc : c.callee = .value f) (hf : VRel g w (a.eval f) (.fn k first cap)) (hs : toSXs c.args.toList = some ss) (E : ERel n e g w a) (H : HRel h g w) (GR : GRel P.gl g w)
    {K : AVal → Heap → Prop} (hd : DCalls P k (first ++ (ss.map (ev e) ++ cap)) h K) {next : Act → World → Prop} {Q : Exit → Act → World → Prop}
    (hn : ∀ v w' g' r h', GS g w g' w' → HRel h' g' w' → VRel g' w' v r → K r h' → next (a.put o.dst v) w') : o.wp P a w next Q := by
  obtain ⟨⟨fn, hfn, hname, hbody⟩, hcalls⟩ := hd
  have hA := evs_rel E hs
  obtain ⟨fs, cs, hv, hF, hC⟩ : ∃ fs cs, a.eval f = .func (.func k) fs cs ∧ VRelL g w fs first ∧ VRelL g w cs cap := by
    revert hf
    generalize a.eval f = q
    intro hf
    cases hf with
    | fn f fs cs as bs hf hc h1 h2 => exact ⟨fs, cs, rfl, ⟨hf, h1⟩, ⟨hc, h2⟩⟩
  have hV := hF.append (hA.append hC)
  have hb : fn.body.isNone = false := by cases hb : fn.body <;> simp_all
  have hrun : (execOp a.eval o).run P w = .ok (.enter k (fs ++ (c.args.map a.eval ++ cs))) w := by
    simp only [execOp, ho, resolve, hc, hv, Deferred.ofValue, Sem.run_bind, Sem.run_pure, Result.andThen_ok, invoke, callFunc, run_program, hfn, hname, hb, Bool.false_eq_true, if_false, Array.append_assoc]
  unfold Oper.wp
  rw [hrun]
  refine (hcalls g w _ H GR hV).mono fun e' w' ⟨v, r, h', g', he, hk, H', V', S'⟩ => ?_
  subst he
  exact hn v w' g' r h' S' H' V' hk

theorem appE_out {ty sz b : Nat} {x : AVal} {es2 : List (List AVal)} {K : AVal → Heap → Prop} (hk : appE ty sz b x es2 h K) :
    (x = .emp ∧ es2.length * b ≤ 140737488355328 ∧ es2.length ≤ 140737488355328 ∧ ∀ r, h r = none → K (.osl r sz 0 es2.length) (upd h r (some ⟨ty, sz, es2⟩))) ∨
      ∃ r i m ob, x = .osl r sz i m ∧ h r = some ob ∧ ob.ty = ty ∧ i + m ≤ ob.es.length ∧ (m + es2.length) * b ≤ 140737488355328 ∧ m + es2.length ≤ 140737488355328 ∧
        ∀ r', del h r r' = none → K (.osl r' sz 0 (m + es2.length)) (upd (del h r) r' (some ⟨ty, sz, (ob.es.drop i).take m ++ es2⟩)) := by
  cases x <;> try exact hk.elim
  · obtain ⟨h1, h2, h3⟩ := hk
    exact .inl ⟨rfl, h1, h2, h3⟩
  · obtain ⟨rfl, ob, h1, h2, h3, h4, h5, h6⟩ := hk
    exact .inr ⟨_, _, _, ob, rfl, h1, h2, h3, h4, h5, h6⟩

/-- THE OPERATIONS ARE SOUND. -/
theorem vcI_sound {ann : Ann} {si : SI} {K : AVal → Heap → Prop} (ht : toSI P ann o = some si) (hk : vcI P si e h K) (E : ERel n e g w a) (H : HRel h g w) (GR : GRel P.gl g w) {next : Act → World → Prop} {Q : Exit → Act → World → Prop}
    (hn : ∀ v w' g' r h', GS g w g' w' → HRel h' g' w' → VRel g' w' v r → K r h' → next (a.put o.dst v) w') : o.wp P a w next Q := by
  have fV : ∀ {r : AVal}, StepV P o a w g r → K r h → o.wp P a w next Q := fun s k => wp_of_V s fun v hv => hn v w g _ h (GS.refl g w) H hv k
  have mv : ∀ x, (o.op = .move x ∨ o.op = .assign x) → toMv P ann o x = some si → o.wp P a w next Q := by
    intro x ho hx
    unfold toMv at hx
    split at hx
    · split at hx
      · simp only [Option.bind_eq_some_iff] at hx
        obtain ⟨el, hel, s, hs, hx⟩ := hx
        split at hx
        · rename_i hs0
          cases hx
          exact wp_of_W (s_newnil ho rfl hs0 H hk) hn
        · cases hx
      · cases hx
    · rw [Option.map_eq_some_iff] at hx
      obtain ⟨sx, hsx, rfl⟩ := hx
      exact fV (s_mv ho hsx E) hk.2
  unfold toSI at ht
  split at ht
  · rename_i x ho; exact mv x (.inl ho) ht
  · rename_i x ho; exact mv x (.inr ho) ht
  · rename_i c x y ho
    simp only [Option.bind_eq_some_iff, Option.map_eq_some_iff] at ht
    obtain ⟨sc, hc, sx, hx, sy, hy, rfl⟩ := ht
    exact fV (s_pick ho hc hx hy E hk.1) hk.2
  · rename_i op t x y t' ho
    unfold toBin at ht
    split at ht
    · simp only [Option.bind_eq_some_iff] at ht
      obtain ⟨kd, hkd, ht⟩ := ht
      have go : ∀ neg, op = .eql ∧ neg = false ∨ op = .neq ∧ neg = true → (toSX x).map (.isnil kd neg) = some si → o.wp P a w next Q := by
        intro neg hop hx
        rw [Option.map_eq_some_iff] at hx
        obtain ⟨sx, hsx, rfl⟩ := hx
        obtain ⟨v, x', hr, hv, hkk⟩ := s_isnil (K := fun r => K r h) ho hkd hop hsx E hk
        exact fV ⟨v, hr, hv⟩ hkk
      split at ht
      · rename_i hop; exact go false (.inl ⟨hop, rfl⟩) ht
      · split at ht
        · rename_i hop; exact go true (.inr ⟨hop, rfl⟩) ht
        · cases ht
    · split at ht
      · cases ht
      · split at ht
        · have go : ∀ neg, op = .eql ∧ neg = false ∨ op = .neq ∧ neg = true → ((eqTy P t).bind fun ks => (toSX x).bind fun x => (toSX y).map (.eqs neg ks x)) = some si → o.wp P a w next Q := by
            intro neg hop hx
            simp only [Option.bind_eq_some_iff, Option.map_eq_some_iff] at hx
            obtain ⟨ks, hks, sx, hsx, sy, hsy, rfl⟩ := hx
            exact fV (s_eqs ho hks hop hsx hsy E hk.1) hk.2
          split at ht
          · rename_i hop; exact go false (.inl ⟨hop, rfl⟩) ht
          · split at ht
            · rename_i hop; exact go true (.inr ⟨hop, rfl⟩) ht
            · cases ht
        · split at ht
          · rename_i hbt
            have go : ∀ neg, op = .eql ∧ neg = false ∨ op = .neq ∧ neg = true → ((toSX x).bind fun x => (toSX y).map (.eqb neg x)) = some si → o.wp P a w next Q := by
              intro neg hop hx
              simp only [Option.bind_eq_some_iff, Option.map_eq_some_iff] at hx
              obtain ⟨sx, hsx, sy, hsy, rfl⟩ := hx
              exact fV (s_eqb ho hbt hop hsx hsy E hk.1) hk.2
            split at ht
            · rename_i hop; exact go false (.inl ⟨hop, rfl⟩) ht
            · split at ht
              · rename_i hop; exact go true (.inr ⟨hop, rfl⟩) ht
              · cases ht
          · simp only [Option.bind_eq_some_iff, Option.map_eq_some_iff] at ht
            obtain ⟨sx, hsx, sy, hsy, rfl⟩ := ht
            exact fV (s_bin ho hsx hsy E hk.1) hk.2
  · rename_i op t x ho
    rw [Option.map_eq_some_iff] at ht
    obtain ⟨sx, hsx, rfl⟩ := ht
    exact fV (s_un ho hsx E hk.1) hk.2
  · rename_i s d x ho
    unfold toCv at ht
    split at ht
    · rename_i hs hd
      rw [Option.map_eq_some_iff] at ht
      obtain ⟨sx, hsx, rfl⟩ := ht
      exact fV (s_cvi ho hs hd hsx E hk.1) hk.2
    · rename_i hs hd
      rw [Option.map_eq_some_iff] at ht
      obtain ⟨sx, hsx, rfl⟩ := ht
      exact fV (s_idc ho hs hd hsx E hk.1) hk.2
    · rename_i el hs hd
      split at ht
      · rename_i hel
        rw [Option.map_eq_some_iff] at ht
        obtain ⟨sx, hsx, rfl⟩ := ht
        obtain ⟨l, h1, h2⟩ := hk
        exact fV (s_b2s ho hs hel hd hsx E H h1) h2
      · cases ht
    · cases ht
  · rename_i t x f ho
    simp only [Option.bind_eq_some_iff, Option.map_eq_some_iff] at ht
    obtain ⟨fd, hfd, s, hs, b, hb, sx, hsx, rfl⟩ := ht
    exact fV (s_fld ho hfd hs hb hsx E hk.1) hk.2
  · rename_i t x f ho
    simp only [Option.bind_eq_some_iff] at ht
    obtain ⟨fd, hfd, s, hs, ht⟩ := ht
    split at ht
    · rename_i hs0
      rw [Option.map_eq_some_iff] at ht
      obtain ⟨sx, hsx, rfl⟩ := ht
      exact fV (s_fldA ho hfd hs hs0 hsx E hk.1) hk.2
    · cases ht
  · rename_i x ho
    rw [Option.map_eq_some_iff] at ht
    obtain ⟨sx, hsx, rfl⟩ := ht
    exact fV (s_nck ho hsx E hk.1) hk.2
  · rename_i t x i ho
    simp only [Option.bind_eq_some_iff, Option.map_eq_some_iff] at ht
    obtain ⟨el, hel, s, hs, sx, hsx, sy, hsy, rfl⟩ := ht
    exact fV (s_idxA ho hel hs hsx hsy E hk.1) hk.2
  · rename_i t x i ho
    split at ht
    · rename_i hu
      simp only [Option.bind_eq_some_iff, Option.map_eq_some_iff] at ht
      obtain ⟨sx, hsx, sy, hsy, rfl⟩ := ht
      exact fV (s_idxS ho hu hsx hsy E hk.1) hk.2
    · cases ht
  · rename_i t x ho
    simp only [Option.bind_eq_some_iff, Option.map_eq_some_iff] at ht
    obtain ⟨s, hs, b, hb, sx, hsx, rfl⟩ := ht
    exact fV (s_ld ho hs hb hsx E H hk.1) hk.2
  · rename_i t x v ho
    simp only [Option.bind_eq_some_iff, Option.map_eq_some_iff] at ht
    obtain ⟨s, hs, sx, hsx, sy, hsy, rfl⟩ := ht
    have hk' : stE s (ev e sx) (ev e sy) h K := hk
    unfold stE at hk'
    split at hk'
    · rename_i r i j hp
      obtain ⟨ob, h1, h2, h3, h4, h5, h6⟩ := hk'
      exact wp_of_W (s_st ho hs hsx hsy E H hp h1 h2 h3 h4 h5 h6) hn
    · exact hk'.elim
  · rename_i t x lo hi mx ho
    split at ht
    · rename_i hu
      split at ht
      · rename_i hmx
        simp only [Option.bind_eq_some_iff, Option.map_eq_some_iff] at ht
        obtain ⟨sx, hsx, sl, hsl, sh, hsh, rfl⟩ := ht
        obtain rfl : mx = none := by simpa using hmx
        exact fV (s_slS ho hu hsx hsl hsh E hk.1) hk.2
      · cases ht
    · rename_i el hu
      simp only [Option.bind_eq_some_iff] at ht
      obtain ⟨s, hs, sx, hsx, sl, hsl, sh, hsh, ht⟩ := ht
      split at ht
      · rename_i hmx
        obtain rfl : mx = none := by simpa using hmx
        split at ht
        · cases ht
          have hk' : slXE s (ev e sx) (evO e sl) (evO e sh) h K := hk
          unfold slXE at hk'
          split at hk'
          · rename_i r sz' i m hp
            obtain ⟨rfl, ob, h1, h2, h3, h4, h5, h6, h7⟩ := hk'
            exact fV (s_slX ho hu hs hsx hsl hsh E H hp h1 h2 h3 h4 h5 h6) h7
          · exact hk'.elim
        · cases ht
          exact fV (s_slA ho hu hs hsx hsl hsh E hk.1) hk.2
      · split at ht
        · rename_i hhi
          rw [Option.map_eq_some_iff] at ht
          obtain ⟨sm, hsm, rfl⟩ := ht
          have hhs : hi.isSome = true := by
            cases hi with
            | none => simp [toSXO] at hsh; subst hsh; cases hhi
            | some u => rfl
          have hms : mx.isSome = true := by
            rename_i hmx _
            cases mx <;> simp_all
          exact fV (s_slM ho hu hs hsx hsl hsh hsm hhs hms E hk.1) hk.2
        · cases ht
    · cases ht
  · rename_i x i ho
    rw [Option.map_eq_some_iff] at ht
    obtain ⟨sx, hsx, rfl⟩ := ht
    exact fV (s_ext ho hsx E hk.1) hk.2
  · rename_i t parts ho
    split at ht
    · rename_i fs hu
      split at ht
      · rename_i hm
        simp only [Option.bind_eq_some_iff, Option.map_eq_some_iff] at ht
        obtain ⟨z, hz, qs, hqs, rfl⟩ := ht
        exact fV (s_bld ho hu hm hz hqs E hk.1) hk.2
      · cases ht
    · cases ht
  · rename_i t m parts ho
    simp only [Option.bind_eq_some_iff] at ht
    obtain ⟨el, hel, s, hs, row, hrow, ht⟩ := ht
    split at ht
    · rename_i hc
      obtain ⟨hs0, hm, hsm, hz⟩ := hc
      split at ht
      · cases ht
        have hk' : litE el s row e h K := hk
        exact wp_of_W (s_bldR hel hs hs0 hrow hm hsm hz ho E H (okParts_out hk'.1) hk'.2) hn
      · cases ht
        obtain ⟨v, w', g', hr, S, H', V⟩ := s_bldF hel hs hs0 hrow hm hsm hz ho E H (okParts_out hk.1)
        exact wp_of_W ⟨v, w', g', _, h, .inl hr, S, H', V, hk.2⟩ hn
    · cases ht
  · rename_i t x ho
    simp only [Option.bind_eq_some_iff] at ht
    obtain ⟨s, hs, ht⟩ := ht
    split at ht
    · rename_i hs0
      rw [Option.map_eq_some_iff] at ht
      obtain ⟨sx, hsx, ht⟩ := ht
      split at ht
      · subst ht
        obtain ⟨h1, h2, h3⟩ := hk
        exact wp_of_W (s_box ho hs hs0 hsx E H h1 h2 h3) hn
      · subst ht
        obtain ⟨h1, h2, h3⟩ := hk
        exact wp_of_W (s_boxF ho hsx E H h1 h2 h3) hn
    · cases ht
  · rename_i t ho
    simp only [Option.bind_eq_some_iff] at ht
    obtain ⟨s, hs, z, hz, ht⟩ := ht
    split at ht
    · rename_i hc
      cases ht
      exact wp_of_W (s_new ho hs hz hc.1 hc.2 H hk) hn
    · cases ht
  · rename_i f first captured ho
    simp only [Option.bind_eq_some_iff, Option.map_eq_some_iff] at ht
    obtain ⟨sf, hsf, sc, hsc, rfl⟩ := ht
    exact fV (s_mkf ho hsf hsc E) hk.2
  · rename_i t x y ho
    simp only [Option.bind_eq_some_iff] at ht
    obtain ⟨el, hel, s, hs, b, hb, z, hz, sx, hsx, sy, hsy, ht⟩ := ht
    split at ht
    · rename_i hc
      cases ht
      have hk' : mksE el s b z (ev e sx) (ev e sy) h K := hk
      unfold mksE at hk'
      split at hk'
      · rename_i k1 l k2 c h1 h2
        obtain ⟨h3, h4, h5, h6, h7⟩ := hk'
        exact wp_of_W (s_mks ho hel hs hb hz hc.1 hc.2 hsx hsy E H h1 h2 h3 h4 h5 h6 h7) hn
      · exact hk'.elim
    · cases ht
  · rename_i c ho
    unfold toCall at ht
    split at ht
    · rename_i f hc
      simp only [Option.bind_eq_some_iff] at ht
      obtain ⟨ss, hss, ht⟩ := ht
      split at ht
      · rename_i k
        have hf : VRel g w (a.eval (.func k)) (.fn k [] []) := ev_sound E (x := .func k) rfl
        split at ht
        · cases ht
          obtain ⟨v, hp, hkk⟩ := hk
          exact call_wp ho hc hf hss E H GR (by simpa using (hp h).mono (K' := K) (by rintro r h' ⟨rfl, rfl⟩; exact hkk)) hn
        · cases ht
          exact call_wp ho hc hf hss E H GR hk hn
      · rename_i t
        split at ht
        case isFalse => cases ht
        rename_i h6
        cases ht
        have hk' : callE P (e t) (ss.map (ev e)) h K := hk
        unfold callE at hk'
        split at hk'
        · rename_i k first cap hf
          have hv := ev_sound E (x := .tmp t) (if_pos h6)
          simp only [ev] at hv
          rw [hf] at hv
          exact call_wp ho hc hv hss E H GR hk' hn
        · exact hk'.elim
      · cases ht
    · rename_i hc
      split at ht
      · rename_i x t ha htt
        split at ht
        · rename_i hu
          rw [Option.map_eq_some_iff] at ht
          obtain ⟨sx, hsx, rfl⟩ := ht
          exact fV (s_lenS ho hc ha htt hu hsx E hk.1) hk.2
        · rename_i el hu
          rw [Option.map_eq_some_iff] at ht
          obtain ⟨sx, hsx, rfl⟩ := ht
          exact fV (s_len ho hc ha htt hu hsx E hk.1) hk.2
        · cases ht
      · cases ht
    · rename_i hc
      split at ht
      · rename_i x y ha
        simp only [Option.bind_eq_some_iff, Option.map_eq_some_iff] at ht
        obtain ⟨sx, hsx, sy, hsy, rfl⟩ := ht
        exact fV (s_min2 ho hc ha hsx hsy E hk.1) hk.2
      · cases ht
    · rename_i hc
      split at ht
      · rename_i x y ha
        simp only [Option.bind_eq_some_iff, Option.map_eq_some_iff] at ht
        obtain ⟨sx, hsx, sy, hsy, rfl⟩ := ht
        exact fV (s_max2 ho hc ha hsx hsy E hk.1) hk.2
      · cases ht
    · rename_i hc
      split at ht
      · rename_i x y t u ha htt
        simp only [Option.bind_eq_some_iff] at ht
        obtain ⟨el, hel, s, hs, b, hb, z, hz, sx, hsx, sy, hsy, ht⟩ := ht
        split at ht
        · rename_i hcc
          split at ht
          · rename_i htu
            subst htu
            split at ht
            · cases ht
              obtain ⟨es2, hR, hk'⟩ := hk
              unfold appInE at hk'
              split at hk'
              · rename_i r sz' i m hp
                obtain ⟨rfl, ob, h1, h2, h3⟩ := hk'
                exact wp_of_W (s_appIn ho hc ha htt hel hs hsx hsy E H hR hp h1 h2 h3) hn
              · exact hk'.elim
            · cases ht
              obtain ⟨es2, hR, hk'⟩ := hk
              exact wp_of_W (s_app ho hc ha htt hel hs hb hz hcc.1 hcc.2 hsx hsy E H hR (appE_out hk')) hn
          · split at ht
            · rename_i hus
              cases ht
              obtain ⟨l, hl, hk'⟩ := hk
              obtain ⟨hu, rfl⟩ := hus
              exact wp_of_W (s_appS ho hc ha htt hel hs hb hz hcc.2 hu hsx hsy E H hl (appE_out hk')) hn
            · cases ht
        · cases ht
      · cases ht
    · rename_i hc
      split at ht
      · rename_i x y t u ha htt
        simp only [Option.bind_eq_some_iff, Option.map_eq_some_iff] at ht
        obtain ⟨el, hel, s, hs, sx, hsx, sy, hsy, rfl⟩ := ht
        obtain ⟨es2, hR, hk'⟩ := hk
        unfold copyE at hk'
        split at hk'
        · rename_i r sz' i m hp
          obtain ⟨rfl, ob, h1, h2, h3⟩ := hk'
          exact wp_of_W (s_copy ho hc ha htt hel hs hsx hsy E H hR hp h1 h2 h3) hn
        · exact hk'.elim
      · cases ht
    · rename_i hc
      split at ht
      · rename_i x t ha htt
        simp only [Option.bind_eq_some_iff] at ht
        obtain ⟨el, hel, s, hs, z, hz, ht⟩ := ht
        split at ht
        · rename_i hcc
          rw [Option.map_eq_some_iff] at ht
          obtain ⟨sx, hsx, rfl⟩ := ht
          have hk' : clearE s z (ev e sx) h K := hk
          unfold clearE at hk'
          split at hk'
          · rename_i r sz' i m hp
            obtain ⟨rfl, ob, h1, h2, h3⟩ := hk'
            exact wp_of_W (s_clear ho hc ha htt hel hs hz hcc.1 hcc.2 hsx E H hp h1 h2 h3) hn
          · exact hk'.elim
        · cases ht
      · cases ht
    · rename_i hc
      split at ht
      · rename_i x el ha hp
        rw [Option.map_eq_some_iff] at ht
        obtain ⟨sx, hsx, rfl⟩ := ht
        exact wp_of_W (s_usd ho hc ha hp hsx E H hk) hn
      · cases ht
    · rename_i hc
      split at ht
      · rename_i x y t u ha htt
        split at ht
        · rename_i el hp
          split at ht
          · rename_i hcl
            simp only [Option.bind_eq_some_iff, Option.map_eq_some_iff] at ht
            obtain ⟨sx, hsx, sy, hsy, rfl⟩ := ht
            exact wp_of_W (s_ustr ho hc ha htt hp hcl hsx hsy E H hk) hn
          · cases ht
        · cases ht
      · cases ht
    · cases ht
  · cases ht
end
end Go.Sim
