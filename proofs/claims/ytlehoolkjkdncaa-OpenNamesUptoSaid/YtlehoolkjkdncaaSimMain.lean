/- The conditions of a body are enough. -/
import Derived.Test.YtlehoolkjkdncaaSimDraw
namespace Go.Sim
open Go

def toS (P : Program) (ann : Ann) (n : Nat) : Code → Option SCode
  | .skip => some .skip
  | .region _ ops false => (toSOps P ann n ops ops.toList).map .reg
  | .region _ ops true => (toSD P ann n ops).map .dreg
  | .seq a b => (toS P ann n a).bind fun x => (toS P ann n b).map (.seq x)
  | .cond c a b => (toSX c).bind fun c => (toS P ann n a).bind fun x => (toS P ann n b).map (.cond c x)
  | .block id c => (toS P ann n c).map (.block id)
  | .loop c => (toS P ann n c).map .loop
  | .exit id => some (.exit id)
  | .ret => some .ret
  | _ => none

/-- the results -/
inductive SRes | tmp (t : Nat) | cell (t : Nat) (size : Nat) (agg : Bool)
def toSRes (P : Program) : ResultVar → Option SRes
  | .tmp t => if t < 1000000 then some (.tmp t) else none
  | .cell a t => if a < 1000000 then (szT P t).bind fun s => (aggT P t).map fun b => .cell a s b else none
def resOK (e : Env) (h : Heap) : SRes → Prop
  | .tmp _ => True
  | .cell a s b => okLd h s b (e a)
def resV (e : Env) (h : Heap) : SRes → AVal
  | .tmp t => e t
  | .cell a s b => aLd h s b (e a)
def allOK (e : Env) (h : Heap) : List SRes → Prop
  | [] => True
  | r :: l => resOK e h r ∧ allOK e h l
def retV (e : Env) (h : Heap) : List SRes → AVal
  | [r] => resV e h r
  | l => .tup (l.map (resV e h))
/-- at the end: the results, as K says, in a heap that may have lost what is no more wanted -/
def retK (rs : List SRes) (K : AVal → Heap → Prop) : SExit → Env → Heap → Prop
  | .exit _, _, _ => False
  | _, e, h => allOK e h rs ∧ ∃ h', (∀ t o, h' t = some o → h t = some o) ∧ K (retV e h rs) h'

structure SFun where
  code : SCode
  res : List SRes
def toSF (P : Program) (ann : Ann) (fn : Func) : Option SFun :=
  fn.body.bind fun c => (toS P ann fn.ntmps c).bind fun sc => (fn.results.toList.mapM (toSRes P)).map fun rs => ⟨sc, rs⟩

/-- the frame as the call begins -/
def initE (G : Glob) (args : List AVal) : Env := fun t => if t < 1000000 then args.getD t .dead else G (t - 1000000)

section
variable {P : PG} {ann : Ann} {n : Nat} {g0 : Ghost} {w0 : World}

theorem effs_get {α : Type} [Inhabited α] (f : Nat → Bool) (N i : Nat) (hi : i < N) : ((List.range N).map f).getD i true = f i := by
  rw [List.getD_eq_getElem?_getD, List.getElem?_map, List.getElem?_range hi]
  rfl

theorem dreg_sound (GR : GRel P.gl g0 w0) {id : Nat} {ops : Array Oper} {l : List (SOp × Bool)} (ht : toSD P ann n ops = some l) {K : Env → Heap → Prop} {Q : Exit → Act → World → Prop} (hQ : ∀ a w, Lift n g0 w0 K a w → Q .normal a w)
    {e : Env} {h : Heap} {g : Ghost} {a : Act} {w : World} (hk : vcD P l [] e h K) (S : St n g0 w0 e h g a w) : (Code.region id ops true).wp P Q a w := by
  simp only [toSD, Option.bind_eq_some_iff] at ht
  obtain ⟨sops, hsops, ht⟩ := ht
  split at ht
  · rename_i hc
    obtain ⟨hmix, hpred, hall, hchk⟩ := hc
    cases ht
    obtain ⟨hlen, _⟩ := toSOps_get hsops
    have hN : sops.length = ops.size := by simpa using hlen
    refine wp_region_any hmix ?_
    have heff : ∀ i, i < sops.length → ((List.range sops.length).map (effOf sops (ancTbl ops (List.range sops.length) []))).getD i true = effOf sops (ancTbl ops (List.range sops.length) []) i := fun i hi => effs_get (α := Nat) _ _ _ hi
    have hT : TblOK ops (ancTbl ops (List.range sops.length) []) := ancTbl_ok ops _ [] (fun i l hl => by simp at hl)
    have hp : ∀ i, i < sops.length → ∀ p ∈ preOf ops i, p < i := by
      intro i hi p hp
      have := List.all_eq_true.1 hpred i (List.mem_range.2 hi)
      simpa using List.all_eq_true.1 this p hp
    have S' : St n g0 w0 e h g a { w with drawn := w.drawn + 1 } := by
      obtain ⟨s1, s2⟩ := S.H.drew
      exact ⟨S.E.step s1, s2, S.S.trans s1⟩
    have lf : ∀ i, (Array.replicate ops.size false).getD i false = false := by
      intro i
      simp only [Array.getD_eq_getD_getElem?]
      cases hx : (Array.replicate ops.size false)[i]? with
      | none => rfl
      | some v => rw [Array.getElem?_replicate] at hx; split at hx <;> simp_all
    have D : DI P ops sops (ancTbl ops (List.range sops.length) []) (fun i => ((List.range sops.length).map (effOf sops (ancTbl ops (List.range sops.length) []))).getD i true) n g0 w0 K (fun i => (Array.replicate ops.size false).getD i false = true) []
        (sfo ops (fun i => ((List.range sops.length).map (effOf sops (ancTbl ops (List.range sops.length) []))).getD i true) sops.length sops.length []) e h [] a { w with drawn := w.drawn + 1 } := by
      refine ⟨fun i hi => .inr ?_, by simp, by simp, fun i hi => ?_, fun i hi => ?_, hchk, by simp, ⟨e, g, S'.E, S'.H, S'.S, fun _ _ => rfl⟩, by simp, by simp, hk⟩
      · have := List.all_eq_true.1 hall i (List.mem_range.2 hi)
        simpa using this
      · rw [lf] at hi; cases hi
      · rw [lf] at hi; cases hi
    obtain ⟨V, R, e', rs, D', hh⟩ := D.advance heff hT
    refine draw_aux GR hsops heff hT hp hQ ops.size _ V R e' h rs a _ (by simp [hN]) D' hh ?_
    unfold unl
    have := List.length_filter_le (fun i => !(Array.replicate ops.size false).getD i false) (List.range sops.length)
    simp only [List.length_range] at this
    omega
  · cases ht

def exitOf : SExit → Exit
  | .normal => .normal
  | .exit id => .exit id
  | .ret => .ret
def LiftQ (n : Nat) (g0 : Ghost) (w0 : World) (Q : SExit → Env → Heap → Prop) (x : Exit) (a : Act) (w : World) : Prop := ∃ x', x = exitOf x' ∧ Lift n g0 w0 (Q x') a w

/-- THE CONDITIONS ARE ENOUGH. -/
theorem vc_sound (GR : GRel P.gl g0 w0) : ∀ (c : Code) (sc : SCode), toS P ann n c = some sc → ∀ (Q : SExit → Env → Heap → Prop) (e : Env) (h : Heap) (g : Ghost) (a : Act) (w : World), vc P sc Q e h → St n g0 w0 e h g a w → c.wp P (LiftQ n g0 w0 Q) a w := by
  intro c
  induction c with
  | skip =>
    intro sc ht Q e h g a w hk S
    simp [toS] at ht; subst ht
    exact wp_skip ⟨.normal, rfl, e, h, g, hk, S⟩
  | region id ops draws =>
    intro sc ht Q e h g a w hk S
    cases draws with
    | false =>
      simp only [toS, Option.map_eq_some_iff] at ht
      obtain ⟨sops, hs, rfl⟩ := ht
      exact wp_region_list (vcOps_sound GR (K := Q .normal) (fun a w L => ⟨.normal, rfl, L⟩) _ _ e h g a w hs hk S)
    | true =>
      simp only [toS, Option.map_eq_some_iff] at ht
      obtain ⟨sops, hs, rfl⟩ := ht
      exact dreg_sound GR hs (K := Q .normal) (fun a w L => ⟨.normal, rfl, L⟩) hk S
  | seq x y ihx ihy =>
    intro sc ht Q e h g a w hk S
    simp only [toS, Option.bind_eq_some_iff, Option.map_eq_some_iff] at ht
    obtain ⟨sx, hsx, sy, hsy, rfl⟩ := ht
    refine wp_seq (wp_mono (ihx sx hsx (thenK (vc P sy Q) Q) e h g a w hk S) ?_)
    rintro _ a' w' ⟨x', rfl, e', h', g', hq, S'⟩
    cases x' with
    | normal => exact ihy sy hsy Q e' h' g' a' w' hq S'
    | exit id => exact ⟨.exit id, rfl, e', h', g', hq, S'⟩
    | ret => exact ⟨.ret, rfl, e', h', g', hq, S'⟩
  | cond c x y ihx ihy =>
    intro sc ht Q e h g a w hk S
    simp only [toS, Option.bind_eq_some_iff, Option.map_eq_some_iff] at ht
    obtain ⟨s, hs, sx, hsx, sy, hsy, rfl⟩ := ht
    have hv := ev_sound S.E hs
    have hk : condOn (ev e s) (vc P sx Q e h) (vc P sy Q e h) := hk
    revert hk hv
    cases ev e s <;> intro hv hk <;> try exact hk.elim
    rename_i t
    exact wp_cond_split hv.bool_inv (fun ht => ihx sx hsx Q e h g a w (hk.1 ht) S) (fun ht => ihy sy hsy Q e h g a w (hk.2 ht) S)
  | block id c ih =>
    intro sc ht Q e h g a w hk S
    simp only [toS, Option.map_eq_some_iff] at ht
    obtain ⟨s, hs, rfl⟩ := ht
    refine wp_block (wp_mono (ih s hs (blockK id Q) e h g a w hk S) ?_)
    rintro _ a' w' ⟨x', rfl, e', h', g', hq, S'⟩
    cases x' with
    | normal => exact ⟨.normal, rfl, e', h', g', hq, S'⟩
    | ret => exact ⟨.ret, rfl, e', h', g', hq, S'⟩
    | exit j =>
      simp only [blockK] at hq
      simp only [exitOf, Exit.inBlock]
      split at hq
      · rename_i hj; rw [if_pos hj]; exact ⟨.normal, rfl, e', h', g', hq, S'⟩
      · rename_i hj; rw [if_neg hj]; exact ⟨.exit j, rfl, e', h', g', hq, S'⟩
  | loop c ih =>
    intro sc ht Q e h g a w hk S
    simp only [toS, Option.map_eq_some_iff] at ht
    obtain ⟨s, hs, rfl⟩ := ht
    obtain ⟨I, ⟨m0, h0⟩, hround⟩ := hk
    intro b k cs
    have key : ∀ m e h g a w, I m e h → St n g0 w0 e h g a w → ∃ x a' w', LiftQ n g0 w0 Q x a' w' ∧ Arrives P (lone (b.at a (.code c :: .inLoop c :: k)) cs w) b k cs x a' w' := by
      intro m
      induction m using Nat.strongRecOn with
      | _ m ihm =>
        intro e h g a w hI S
        obtain ⟨x, a₁, w₁, hq, harr⟩ := ih s hs _ e h g a w (hround m e h hI) S b (.inLoop c :: k) cs
        obtain ⟨x', rfl, e', h', g', hq, S'⟩ := hq
        cases x' with
        | normal =>
          obtain ⟨m', hlt, hI'⟩ := hq
          obtain ⟨x2, a₂, w₂, hq₂, harr₂⟩ := ihm m' hlt e' h' g' a₁ w₁ hI' S'
          exact ⟨x2, a₂, w₂, hq₂, .of_steps (Steps.trans harr (.one step_inLoop)) harr₂⟩
        | exit id => exact ⟨.exit id, a₁, w₁, ⟨.exit id, rfl, e', h', g', hq, S'⟩, .pass (x := .inLoop c) rfl (fun _ _ => .inl (by simp)) harr⟩
        | ret => exact ⟨.ret, a₁, w₁, ⟨.ret, rfl, e', h', g', hq, S'⟩, .pass (x := .inLoop c) rfl (fun _ _ => .inl (by simp)) harr⟩
    obtain ⟨x, a', w', hq, harr⟩ := key m0 e h g a w h0 S
    exact ⟨x, a', w', hq, .of_steps (.one step_loop) harr⟩
  | exit id =>
    intro sc ht Q e h g a w hk S
    simp [toS] at ht; subst ht
    exact wp_exit ⟨.exit id, rfl, e, h, g, hk, S⟩
  | ret =>
    intro sc ht Q e h g a w hk S
    simp [toS] at ht; subst ht
    exact wp_ret ⟨.ret, rfl, e, h, g, hk, S⟩
  | rangeFunc => intro sc ht; simp [toS] at ht
  | scope => intro sc ht; simp [toS] at ht
  | label => intro sc ht; simp [toS] at ht
  | goto => intro sc ht; simp [toS] at ht
  | refuse => intro sc ht; simp [toS] at ht

theorem res_run {e : Env} {h : Heap} {g : Ghost} {a : Act} {w : World} (E : ERel n e g w a) (H : HRel h g w) : ∀ (rs : List ResultVar) (ss : List SRes), rs.mapM (toSRes P) = some ss → allOK e h ss →
    ∃ vs : List Value, (rs.mapM fun x => match x with
      | ResultVar.tmp t => (pure (a.tmps.getD t undef) : Sem Value)
      | ResultVar.cell p t => do
        let ad ← asAddr (a.tmps.getD p undef)
        loadVar t ad).run P w = .ok vs w ∧ vs.length = ss.length ∧ ∀ (j : Nat) (u : Value) (x : AVal), vs[j]? = some u → (ss.map (resV e h))[j]? = some x → VRel g w u x
  | [], ss, hm, _ => by
    simp at hm; subst hm
    exact ⟨[], by simp, rfl, by simp⟩
  | r :: rs, ss, hm, hok => by
    simp only [List.mapM_cons, Option.bind_eq_bind, Option.pure_def, Option.bind_eq_some_iff, Option.some.injEq] at hm
    obtain ⟨s, hs, sr, hsr, rfl⟩ := hm
    obtain ⟨vs, hr, hl, hh⟩ := res_run E H rs sr hsr hok.2
    have key : ∃ v, (match r with
      | ResultVar.tmp t => (pure (a.tmps.getD t undef) : Sem Value)
      | ResultVar.cell p t => do
        let ad ← asAddr (a.tmps.getD p undef)
        loadVar t ad).run P w = .ok v w ∧ VRel g w v (resV e h s) := by
      cases r with
      | tmp t =>
        simp only [toSRes] at hs
        split at hs
        · rename_i h6; cases hs; exact ⟨_, rfl, E.slot t h6⟩
        · cases hs
      | cell p t =>
        simp only [toSRes] at hs
        split at hs
        case isFalse => cases hs
        rename_i h6
        simp only [Option.bind_eq_some_iff, Option.map_eq_some_iff] at hs
        obtain ⟨sz, hsz, b, hb, rfl⟩ := hs
        have hv := E.slot p h6
        have hok1 : okLd h sz b (e p) := hok.1
        show ∃ v, _ ∧ VRel g w v (aLd h sz b (e p))
        revert hok1 hv
        cases e p <;> intro hv hok1 <;> try exact hok1.elim
        · rename_i r i j
          obtain ⟨ob, hob, hi, hj, h1s⟩ := hok1
          obtain ⟨hr', hv'⟩ := hv.ptr_inv
          obtain ⟨v, hrun, hrel⟩ := load_cells (P := P) (w := w) (g := g) hsz hb ⟨g.eta r, g.bo r + i * g.sz r + j, none⟩ ((ob.es.getD i []).drop j) (by simp only [List.length_drop]; omega) h1s ((H.obj r ob hob).cells hi j)
          exact ⟨v, by simp only [hv', asAddr, Sem.run_bind, Sem.run_pure, Result.andThen_ok]; exact hrun, by simpa [aLd, hob] using hrel⟩
        · rename_i cs
          obtain ⟨hle, h1s⟩ := hok1
          obtain ⟨ad, hv', _, _, hc⟩ := hv.pin_inv
          obtain ⟨v, hrun, hrel⟩ := load_cells (P := P) (w := w) (g := g) hsz hb ad cs hle h1s hc
          exact ⟨v, by simp only [hv', asAddr, Sem.run_bind, Sem.run_pure, Result.andThen_ok]; exact hrun, hrel⟩
    obtain ⟨v, hv, hrel⟩ := key
    refine ⟨v :: vs, ?_, by simp [hl], fun j u x hu hx => ?_⟩
    · simp only [List.mapM_cons, Sem.run_bind, hv, Result.andThen_ok, hr, Sem.run_pure]
    · cases j with
      | zero => simp at hu hx; subst hu hx; exact hrel
      | succ j => simp at hu; simp only [List.map_cons, List.getElem?_cons_succ] at hx; exact hh j u x hu hx

/-- A CONTRACT OUT OF A BODY's CONDITIONS. -/
theorem dcalls_of_vc {f : Nat} {fn : Func} {sf : SFun} {args : List AVal} {h : Heap} {K : AVal → Heap → Prop} (hf : P.p.funcs[f]? = some fn) (hname : (fn.name == "runtime.NumGoroutine") = false)
    (hsf : toSF P ann fn = some sf) (hn : args.length ≤ fn.ntmps) (hN : fn.ntmps ≤ 1000000) (hk : vc P sf.code (retK sf.res K) (initE P.gl args) h) : DCalls P f args h K := by
  simp only [toSF, Option.bind_eq_some_iff, Option.map_eq_some_iff] at hsf
  obtain ⟨c, hc, sc, hsc, rs, hrs, rfl⟩ := hsf
  refine ⟨⟨fn, hf, hname, by simp [hc]⟩, fun g w vs H GR V => ?_⟩
  refine calls_of_wp hf hc (wp_mono (vc_sound (g0 := g) (w0 := w) GR c sc hsc (retK rs K) (initE P.gl args) h g _ w hk ⟨⟨rfl, ?_, hN, fun t h6 => ?_, fun b => ?_⟩, H, GStep.refl g w⟩) ?_)
  · simp only [Array.size_append, Array.size_replicate]
    have := V.1
    omega
  · simp only [initE, if_pos h6]
    by_cases ht : t < vs.size
    · have h1 : (vs ++ Array.replicate (fn.ntmps - vs.size) undef).getD t undef = vs[t] := by
        simp only [Array.getD_eq_getD_getElem?, Array.getElem?_append_left ht, Array.getElem?_eq_getElem ht, Option.getD_some]
      rw [h1]
      exact V.2 t _ _ (Array.getElem?_eq_getElem ht) (getD_getElem? args t .dead (by rw [← V.1]; exact ht))
    · have h1 : args.getD t .dead = .dead := by
        rw [List.getD_eq_getElem?_getD, List.getElem?_eq_none (by rw [← V.1]; omega)]
        rfl
      rw [h1]
      exact .dead _
  · rw [initE, if_neg (by omega), Nat.add_sub_cancel_left]; exact GR b
  · rintro x a' w' ⟨x', rfl, e, h', g', hq, S'⟩
    have fin : allOK e h' rs → (∃ h'', (∀ t o, h'' t = some o → h' t = some o) ∧ K (retV e h' rs) h'') → a'.defers = [] ∧ ∃ v, (results fn a'.tmps).run P w' = .ok v w' ∧
        ∃ v' r h'' g'', Ending.returned v = .returned v' ∧ K r h'' ∧ HRel h'' g'' w' ∧ VRel g'' w' v' r ∧ GStep g w g'' w' := by
      intro hok ⟨h'', hle, hK⟩
      obtain ⟨us, hrun, hl, hh⟩ := res_run (P := P) S'.E S'.H fn.results.toList rs hrs hok
      refine ⟨S'.E.defers, ?_⟩
      have hrun' : (results fn a'.tmps).run P w' = .ok (if h : us.toArray.size = 1 then us.toArray[0] else Value.tuple us.toArray) w' := by
        unfold results
        rw [Array.mapM_eq_mapM_toList]
        simp only [Sem.run_bind, Sem.run_map]
        exact (fun (r : Result (List Value)) (hr : r = .ok us w') => (by subst hr; rfl : (r.andThen fun a w' => Result.ok a.toArray w').andThen (fun a w' => Sem.run P (pure (if h : a.size = 1 then a[0] else Value.tuple a)) w') =
          .ok (if h : us.toArray.size = 1 then us.toArray[0] else Value.tuple us.toArray) w')) _ hrun
      refine ⟨_, hrun', _, _, h'', g', rfl, hK, S'.H.le hle, ?_, S'.S⟩
      cases rs with
      | nil =>
        obtain rfl : us = [] := List.eq_nil_of_length_eq_zero hl
        simp only [retV]
        exact .tup #[] [] rfl (by simp)
      | cons r0 rs =>
        cases rs with
        | nil =>
          obtain ⟨u, rfl⟩ := List.length_eq_one_iff.1 hl
          exact hh 0 u _ rfl rfl
        | cons r1 rs =>
          have h2 : ¬ us.toArray.size = 1 := by simp only [List.size_toArray, hl, List.length_cons]; omega
          rw [dif_neg h2]
          exact .tup us.toArray _ (by simp [hl]) (fun j u x hu hx => hh j u x (by simpa using hu) hx)
    cases x' with
    | normal => exact fin hq.1 hq.2
    | ret => exact fin hq.1 hq.2
    | exit id => exact hq.elim
end
end Go.Sim
