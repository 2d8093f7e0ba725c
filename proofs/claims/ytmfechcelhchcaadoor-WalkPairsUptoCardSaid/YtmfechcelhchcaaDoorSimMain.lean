/- The conditions of a body are enough. -/
import Derived.Test.YtmfechcelhchcaaDoorSimIn
namespace Go.Sim
open Go

/-- the assignment to the loop's left sides: moves -/
def mvL (n : Nat) : List Oper → Option (List (Nat × Nat))
  | [] => some []
  | o :: r => match o.op, o.dst, o.guard with
    | .assign (.tmp s), some d, none => if d < n ∧ s < 1000000 then (mvL n r).map ((d, s) :: ·) else none
    | _, _, _ => none
def toMvs (n : Nat) : Code → Option (List (Nat × Nat))
  | .skip => some []
  | .region _ ops false => mvL n ops.toList
  | _ => none
def noRange : Code → Bool
  | .rangeFunc .. => false
  | .seq a b => noRange a && noRange b
  | .cond _ a b => noRange a && noRange b
  | .block _ c => noRange c
  | .loop c => noRange c
  | _ => true
def toS (P : Program) (ann : Ann) (n : Nat) : Code → Option SCode
  | .skip => some .skip
  | .region _ ops false => (toSOps P ann n ops ops.toList).map .reg
  | .region _ ops true => (toSD P ann n ops).map .dreg
  | .seq a b => (toS P ann n a).bind fun x => (toS P ann n b).map (.seq x)
  | .cond c a b => (toSX c).bind fun c => (toS P ann n a).bind fun x => (toS P ann n b).map (.cond c x)
  | .block id c => (toS P ann n c).map (.block id)
  | .loop c => (toS P ann n c).map .loop
  | .exit id => some (.exit id)
  | .ret => some .ret
  | .rangeFunc f ps asg b => if noRange b = true ∧ (ps.toList.all fun p => decide (p < n)) = true then (toSX f).bind fun fx => (toMvs n asg).bind fun mv => (toS P ann n b).map (.range fx ps.toList mv) else none
  | _ => none

/-- the results -/
inductive SRes | tmp (t : Nat) | cell (t : Nat) (size : Nat) (agg : Bool)
def toSRes (P : Program) : ResultVar → Option SRes
  | .tmp t => if t < 1000000 then some (.tmp t) else none
  | .cell a t => if a < 1000000 then (szT P t).bind fun s => (aggT P t).map fun b => .cell a s b else none
def resOK (e : Env) (h : Heap) : SRes → Prop
  | .tmp _ => True
  | .cell a s b => okLd h s b (e a)
def resV (e : Env) (h : Heap) : SRes → AVal
  | .tmp t => e t
  | .cell a s b => aLd h s b (e a)
def allOK (e : Env) (h : Heap) : List SRes → Prop
  | [] => True
  | r :: l => resOK e h r ∧ allOK e h l
def retV (e : Env) (h : Heap) : List SRes → AVal
  | [r] => resV e h r
  | l => .tup (l.map (resV e h))
/-- at the end: the results, as K says, in a heap that may have lost what is no more wanted -/
def retK (rs : List SRes) (K : AVal → Heap → Prop) : SExit → Env → Heap → Prop
  | .exit _, _, _ => False
  | _, e, h => allOK e h rs ∧ ∃ h', (∀ t o, h' t = some o → h t = some o) ∧ K (retV e h rs) h'

structure SFun where
  code : SCode
  res : List SRes
def toSF (P : Program) (ann : Ann) (fn : Func) : Option SFun :=
  fn.body.bind fun c => (toS P ann fn.ntmps c).bind fun sc => (fn.results.toList.mapM (toSRes P)).map fun rs => ⟨sc, rs⟩

/-- the frame as the call begins -/
def initE (G : Glob) (args : List AVal) : Env := fun t => if t < 1000000 then args.getD t .dead else G (t - 1000000)

section
variable {P : PG} {ann : Ann} {n : Nat} {g0 : Ghost} {w0 : World}

theorem effs_get {α : Type} [Inhabited α] (f : Nat → Bool) (N i : Nat) (hi : i < N) : ((List.range N).map f).getD i true = f i := by
  rw [List.getD_eq_getElem?_getD, List.getElem?_map, List.getElem?_range hi]
  rfl

theorem toSI_defer {ann : Ann} {o : Oper} {si : SI} (h : toSI P ann o = some si) (c : Call) : o.op ≠ .defer c := by
  intro e
  unfold toSI at h
  rw [e] at h
  cases h
theorem toSOps_defer {ops : Array Oper} : ∀ {l : List Oper} {sl : List SOp}, toSOps P ann n ops l = some sl → ∀ o ∈ l, ∀ c, o.op ≠ .defer c
  | [], _, _, o, ho => by cases ho
  | x :: r, sl, h, o, ho => by
    simp only [toSOps, Option.bind_eq_some_iff, Option.map_eq_some_iff] at h
    obtain ⟨s, hs, sr, hsr, rfl⟩ := h
    rcases List.mem_cons.1 ho with rfl | ho
    · unfold toSOp at hs
      simp only [Option.bind_eq_some_iff] at hs
      obtain ⟨si, hsi, _⟩ := hs
      exact toSI_defer hsi
    · exact toSOps_defer hsr o ho

theorem dreg_sound (GR : GRel P.gl g0 w0) {ro : Option Nat} {nn : Nat} {id : Nat} {ops : Array Oper} {Q : Exit → Act → World → Prop} (hL : ¬ LetsOut Q) {l : List (SOp × Option (List Nat))} (ht : toSD P ann n ops = some l) {K : Env → Heap → Prop} (hQ : ∀ a w, Lift n g0 w0 K a w → Q .normal a w)
    {e : Env} {h : Heap} {g : Ghost} {a : Act} {w : World} (hk : vcD P l [] e h K) (S : St n g0 w0 e h g a w) : (Code.region id ops true).wpIn (FR ro) nn P Q a w := by
  simp only [toSD, Option.bind_eq_some_iff] at ht
  obtain ⟨sops, hsops, ht⟩ := ht
  split at ht
  · rename_i hc
    obtain ⟨hmix, hpred, hall, hchk⟩ := hc
    cases ht
    obtain ⟨hlen, _⟩ := toSOps_get hsops
    have hN : sops.length = ops.size := by simpa using hlen
    refine wpIn_region_any hmix (any_in hL (fun i o ho => toSOps_defer hsops o (Array.mem_toList_iff.2 (Array.mem_of_getElem? ho))) _ _ _ _ ?_)
    have heff : ∀ i, i < sops.length → ((List.range sops.length).map (effOf sops (ancTbl ops (List.range sops.length) []))).getD i true = effOf sops (ancTbl ops (List.range sops.length) []) i := fun i hi => effs_get (α := Nat) _ _ _ hi
    have hT : TblOK ops (ancTbl ops (List.range sops.length) []) := ancTbl_ok ops _ [] (fun i l hl => by simp at hl)
    have hp : ∀ i, i < sops.length → ∀ p ∈ preOf ops i, p < i := by
      intro i hi p hp
      have := List.all_eq_true.1 hpred i (List.mem_range.2 hi)
      simpa using List.all_eq_true.1 this p hp
    have S' : St n g0 w0 e h g a { w with drawn := w.drawn + 1 } := by
      obtain ⟨s1, s2⟩ := S.H.drew
      exact ⟨S.E.step s1, s2, S.S.trans s1, S.M⟩
    have lf : ∀ i, (Array.replicate ops.size false).getD i false = false := by
      intro i
      simp only [Array.getD_eq_getD_getElem?]
      cases hx : (Array.replicate ops.size false)[i]? with
      | none => rfl
      | some v => rw [Array.getElem?_replicate] at hx; split at hx <;> simp_all
    have hdly : ∀ i, i < sops.length → ((List.range sops.length).map (dlyOf ops sops (ancTbl ops (List.range sops.length) []) (fun i => ((List.range sops.length).map (effOf sops (ancTbl ops (List.range sops.length) []))).getD i true))).getD i true = dlyOf ops sops (ancTbl ops (List.range sops.length) []) (fun i => ((List.range sops.length).map (effOf sops (ancTbl ops (List.range sops.length) []))).getD i true) i := fun i hi => effs_get (α := Nat) _ _ _ hi
    have D : DI P ops sops (ancTbl ops (List.range sops.length) []) (fun i => ((List.range sops.length).map (effOf sops (ancTbl ops (List.range sops.length) []))).getD i true)
        (fun i => ((List.range sops.length).map (dlyOf ops sops (ancTbl ops (List.range sops.length) []) (fun i => ((List.range sops.length).map (effOf sops (ancTbl ops (List.range sops.length) []))).getD i true))).getD i true) n g0 w0 K (fun i => (Array.replicate ops.size false).getD i false = true) [] []
        (sfo ops (fun i => ((List.range sops.length).map (effOf sops (ancTbl ops (List.range sops.length) []))).getD i true)
          (fun i => ((List.range sops.length).map (dlyOf ops sops (ancTbl ops (List.range sops.length) []) (fun i => ((List.range sops.length).map (effOf sops (ancTbl ops (List.range sops.length) []))).getD i true))).getD i true) sops.length sops.length []) e h [] a { w with drawn := w.drawn + 1 } := by
      refine ⟨fun i hi => .inr ?_, by simp, by simp, fun i hi => ?_, fun i hi => ?_, by simp, .nil, hchk, by simp, ⟨e, g, S'.E, S'.H, S'.S, S'.M, fun _ _ _ => rfl, by simp⟩, by simp, by simp, hk⟩
      · have := List.all_eq_true.1 hall i (List.mem_range.2 hi)
        simpa using this
      · rw [lf] at hi; cases hi
      · rw [lf] at hi; cases hi
    obtain ⟨Pn, V, R, e', h', rs, D', hh⟩ := D.advance heff hT
    refine draw_aux GR hsops heff hdly hT hp hQ ops.size _ Pn V R e' h' rs a _ (by simp [hN]) D' hh ?_
    unfold unl
    have := List.length_filter_le (fun i => !(Array.replicate ops.size false).getD i false) (List.range sops.length)
    simp only [List.length_range] at this
    omega
  · cases ht

def exitOf : SExit → Exit
  | .normal => .normal
  | .exit id => .exit id
  | .ret => .ret
def LiftQ (n : Nat) (g0 : Ghost) (w0 : World) (Q : SExit → Env → Heap → Prop) (x : Exit) (a : Act) (w : World) : Prop := ∃ x', x = exitOf x' ∧ Lift n g0 w0 (Q x') a w

theorem LiftQ.in {n : Nat} {g0 : Ghost} {w0 : World} {Q : SExit → Env → Heap → Prop} : ¬ LetsOut (LiftQ n g0 w0 Q) := by
  rintro ⟨a, w, x', hx, _⟩
  cases x' <;> cases hx
theorem putObj_other {w : World} {D b : Nat} {o : Obj} (h : b ≠ D) : (w.putObj D o).heap[b]? = w.heap[b]? := World.putObj_heap_other h
def doMv (a : Act) : List (Nat × Nat) → Act
  | [] => a
  | (d, s) :: r => doMv (a.put (some d) (a.tmps.getD s undef)) r
theorem mv_wp {F : Fence} (hF : ∃ ro, F = FR ro) {k : Nat} {ops : Array Oper} {Q : Exit → Act → World → Prop} {w : World} : ∀ (l : List Oper) (mv : List (Nat × Nat)) (a : Act), mvL n l = some mv → Q .normal (doMv a mv) w → wpListIn F k P ops Q l a w
  | [], mv, a, h, hq => by simp [mvL] at h; subst h; exact hq
  | o :: r, mv, a, h, hq => by
    obtain ⟨ro, rfl⟩ := hF
    unfold mvL at h
    split at h
    · rename_i s d ho hd hg
      split at h
      case isFalse => cases h
      rw [Option.map_eq_some_iff] at h
      obtain ⟨m, hm, rfl⟩ := h
      unfold wpListIn
      rw [if_pos (by simp [Region.wanted, hg])]
      refine op_in (fun c e => by rw [ho] at e; cases e) ?_
      unfold Oper.wp
      have : (execOp a.eval o).run P w = .ok (.value (a.tmps.getD s undef)) w := by simp [execOp, ho, Act.eval]
      rw [this]
      show wpListIn _ _ _ _ _ r (a.put o.dst _) w
      rw [hd]
      exact mv_wp ⟨ro, rfl⟩ r m _ hm hq
    · cases h
theorem toMvs_wp {F : Fence} (hF : ∃ ro, F = FR ro) {k : Nat} {c : Code} {mv : List (Nat × Nat)} (h : toMvs n c = some mv) {Q : Exit → Act → World → Prop} {a : Act} {w : World} (hq : Q .normal (doMv a mv) w) : c.wpIn F k P Q a w := by
  unfold toMvs at h
  split at h
  · cases h; exact wpIn_skip hq
  · exact wpIn_region_list (mv_wp hF _ _ _ h hq)
  · cases h
theorem mvL_ok : ∀ (l : List Oper) (mv : List (Nat × Nat)), mvL n l = some mv → ∀ p ∈ mv, p.1 < n ∧ p.2 < 1000000
  | [], mv, h => by simp [mvL] at h; subst h; simp
  | o :: r, mv, h => by
    unfold mvL at h
    split at h
    · split at h
      case isFalse => cases h
      rename_i hc
      rw [Option.map_eq_some_iff] at h
      obtain ⟨m, hm, rfl⟩ := h
      intro p hp
      rcases List.mem_cons.1 hp with rfl | hp
      · exact hc
      · exact mvL_ok r m hm p hp
    · cases h
theorem toMvs_ok {c : Code} {mv : List (Nat × Nat)} (h : toMvs n c = some mv) : ∀ p ∈ mv, p.1 < n ∧ p.2 < 1000000 := by
  unfold toMvs at h
  split at h
  · cases h; simp
  · exact mvL_ok _ _ h
  · cases h
theorem ERel.mvs {g : Ghost} {w : World} : ∀ (mv : List (Nat × Nat)) (e : Env) (a : Act), (∀ p ∈ mv, p.1 < n ∧ p.2 < 1000000) → ERel n e g w a → ERel n (mvs e mv) g w (doMv a mv)
  | [], e, a, _, E => E
  | (d, s) :: r, e, a, hp, E => by
    have h0 := hp (d, s) List.mem_cons_self
    exact ERel.mvs r _ _ (fun p hp' => hp p (List.mem_cons_of_mem _ hp')) (E.put (dst := some d) (fun x hx => by cases hx; exact h0.1) (E.slot s h0.2))
theorem ERel.setPs {g : Ghost} {w : World} {ds : List Deferred} : ∀ (ps : List Nat) (vs : List Value) (as : List AVal) (e : Env) (ts : Array Value), (∀ p ∈ ps, p < n) → vs.length = as.length → (∀ (j : Nat) (u : Value) (x : AVal), vs[j]? = some u → as[j]? = some x → VRel g w u x) →
    ERel n e g w { tmps := ts, defers := ds } → ERel n (setPs e ps as) g w { tmps := (ps.zip vs).foldl (fun t p => t.setIfInBounds p.1 p.2) ts, defers := ds }
  | [], vs, as, e, ts, _, _, _, E => by cases as <;> exact E
  | p :: ps, [], [], e, ts, _, _, _, E => E
  | p :: ps, v :: vs, x :: as, e, ts, hp, hl, hv, E => by
    refine ERel.setPs ps vs as (upd e p x) (ts.setIfInBounds p v) (fun q hq => hp q (List.mem_cons_of_mem _ hq)) (by simpa using hl) (fun j u y hu hy => hv (j + 1) u y (by simpa using hu) (by simpa using hy)) ?_
    exact E.put (dst := some p) (fun q hq => by cases hq; exact hp p List.mem_cons_self) (hv 0 v x rfl rfl)
def codeOf : SExit → Code
  | .exit id => .exit id
  | _ => .ret

/-- THE RULE FOR A RANGE OVER A FUNCTION. -/
theorem range_sound {f : Operand} {ps : Array Nat} {asg body : Code} {fx : SX} {mv : List (Nat × Nat)} {sb : SCode} (hfx : toSX f = some fx) (hmv : toMvs n asg = some mv) (hps : (ps.toList.all fun p => decide (p < n)) = true)
    (hbd : ∀ (l : Nat) (g0 : Ghost) (w0 : World), GRel P.gl g0 w0 → ∀ (Q : SExit → Env → Heap → Prop) (e : Env) (h : Heap) (g : Ghost) (a : Act) (w : World), vc P sb Q e h → St n g0 w0 e h g a w → body.wpIn (FR (some l)) 0 P (LiftQ n g0 w0 Q) a w)
    {g0 : Ghost} {w0 : World} (GR : GRel P.gl g0 w0) {Q : SExit → Env → Heap → Prop} {e : Env} {h : Heap} {g : Ghost} {a : Act} {w : World} (hk : vc P (.range fx ps.toList mv sb) Q e h) (S : St n g0 w0 e h g a w) :
    (Code.rangeFunc f ps asg body).wpIn (FR none) 2 P (LiftQ n g0 w0 Q) a w := by
  obtain ⟨X, enc, xs, N, k, cap, hf, ⟨⟨fn, hfn, hname, hbody⟩, hit⟩, hl, I, Ix, h0, hb, hQ, hQx⟩ := hk
  have hv := ev_sound S.E hfx
  rw [hf] at hv
  obtain ⟨cs, hfv, hcs⟩ : ∃ cs, a.eval f = .func (.func k) #[] cs ∧ VRelL g w cs cap := by
    revert hv
    generalize a.eval f = q
    intro hv
    cases hv with
    | fn _ fs cs _ _ hf1 hc1 h1 h2 =>
      obtain rfl : fs = #[] := by simpa using hf1
      exact ⟨cs, rfl, hc1, h2⟩
  have hit := hit g w cs S.H.fz (GR.step S.S) hcs
  have hB : fn.body.isNone = false := by cases hb : fn.body <;> simp_all
  have hps' : ∀ p ∈ ps.toList, p < n := fun p hp => by simpa using List.all_eq_true.1 hps p hp
  have hw0 : w0.heap.size ≤ w.heap.size := S.S.size
  -- the caller's invariant
  let Iw (J : Heap → Prop) (W : World) : Prop := ∃ h' gc, J h' ∧ HRel h' gc W ∧ GS g0 w0 gc W ∧ GStep g w gc W ∧ DOK gc W a.defers ∧ ∀ b, gc.fz b → b < w.heap.size ∨ ¬ NonCells W b
  have hOwn : ∀ {J : Heap → Prop} {W W' : World} {row : Option Nat}, Iw J W → W.grownBy W' row → (∀ r, row = some r → w.heap.size ≤ r ∧ ∃ o : Obj, W.heap[r]? = some o ∧ o.isCells = false) → Iw J W' := by
    rintro J W W' row ⟨h', gc, hJ, H, S1, S2, D, hz⟩ hg hr
    have hsame : ∀ b, b < W.heap.size → (∀ r, row = some r → b ≠ r) → W'.heap[b]? = W.heap[b]? := fun b hb hn => hg.block b hb fun e => hn b e.symm rfl
    have hfz : ∀ b, gc.fz b → W'.heap[b]? = W.heap[b]? := fun b hb => hsame b (H.fz b hb) fun r e hbr => by
      subst hbr
      obtain ⟨h1, h2⟩ := hr b e
      rcases hz b hb with h3 | h3
      · omega
      · exact h3 h2
    have hown : ∀ b, Own gc b → W'.heap[b]? = W.heap[b]? := fun b hb => by
      obtain ⟨cur, t, fz, hc⟩ := H.ow b hb
      refine hsame b (Array.getElem?_eq_some_iff.1 hc).1 fun r e hbr => ?_
      subst hbr
      obtain ⟨_, o, ho, hoc⟩ := hr b e
      rw [hc] at ho; cases ho; cases hoc
    have W1 : GStep gc W gc W' := GStep.world hfz hg.os hg.tape hg.output hg.size
    refine ⟨h', gc, hJ, ⟨fun r ob ho => (H.obj r ob ho).step W1 (fun hc => hown _ ⟨r, (H.obj r ob ho).lt, hc, rfl⟩) (fun hc => ?_), H.inj, fun b hb => Nat.lt_of_lt_of_le (H.fz b hb) hg.size, fun b hb => ?_⟩,
      ⟨S1.toGStep.trans W1, fun b hb hn => ?_, S1.new, S1.fzn, fun b hb => ?_⟩, S2.trans W1, ⟨fun d hd => ?_, D.two⟩, fun b hb => ?_⟩
    · rcases (H.obj r ob ho).block with h' | ⟨_, hf', _⟩
      · exact absurd h' hc
      · exact hf'
    · obtain ⟨cur, t, fz, hc⟩ := H.ow b hb
      exact ⟨cur, t, fz, (hown b hb).trans hc⟩
    · exact (hsame b (Nat.lt_of_lt_of_le hb S1.size) fun r e hbr => by have := (hr r e).1; omega).trans (S1.own b hb hn)
    · rcases S1.fzc b hb with h1 | h1
      · exact .inl h1
      · exact .inr fun ⟨o, ho, hc⟩ => h1 ⟨o, (hfz b hb).symm.trans ho, hc⟩
    · obtain ⟨D', e1, e2, e3, e4⟩ := D.one d hd
      refine ⟨D', e1, (hsame D' (Array.getElem?_eq_some_iff.1 e2).1 fun r e hbr => ?_).trans e2, e3, e4⟩
      obtain ⟨D2, f1, f2, _⟩ := S.E.defers.one d hd
      have : D' = D2 := by rw [e1] at f1; cases f1; rfl
      have h1 := (Array.getElem?_eq_some_iff.1 f2).1
      have h2 := (hr r e).1
      omega
    · rcases hz b hb with h1 | h1
      · exact .inl h1
      · exact .inr fun ⟨o, ho, hc⟩ => h1 ⟨o, (hfz b hb).symm.trans ho, hc⟩
  let X' := { p : X × Array Value // VRelL g w p.2 (enc p.1) }
  have base : ∀ {W : World} {gc : Ghost}, GStep g w gc W → ERel n e gc W { tmps := a.tmps, defers := [] } := fun S2 => ⟨DOK.nil _ _, S.E.size, S.E.bnd, fun t h6 => (S.E.slot t h6).step S2, fun b => (S.E.glo b).step S2⟩
  have fin : ∀ {D : Nat} {W : World} {J : Heap → Prop}, Iw J W → w.heap.size ≤ D → W.heap[D]? = some (.deferred (some [])) → ∃ h' gc, J h' ∧ St n g0 w0 e h' gc { a with defers := { target := .collected D, args := #[] } :: a.defers } W := by
    rintro D W J ⟨h', gc, hJ, H, S1, S2, Dk, hz⟩ hD hDW
    refine ⟨h', gc, hJ, ⟨⟨⟨fun d hd => ?_, ?_⟩, S.E.size, S.E.bnd, fun t h6 => (S.E.slot t h6).step S2, fun b => (S.E.glo b).step S2⟩, H, S1, fun d hd D1 hD1 => ?_⟩⟩
    · rcases List.mem_cons.1 hd with rfl | hd
      · refine ⟨D, rfl, hDW, fun ho => ?_, fun hf => ?_⟩
        · obtain ⟨cur, t, fz, hc⟩ := H.ow D ho
          rw [hc] at hDW; cases hDW
        · rcases hz D hf with h1 | h1
          · omega
          · exact h1 ⟨_, hDW, rfl⟩
      · exact Dk.one d hd
    · refine List.pairwise_cons.2 ⟨fun d hd he => ?_, Dk.two⟩
      obtain ⟨D2, f1, f2, _⟩ := S.E.defers.one d hd
      have h1 := (Array.getElem?_eq_some_iff.1 f2).1
      rw [← he] at f1
      cases f1
      omega
    · rcases List.mem_cons.1 hd with rfl | hd
      · cases hD1; omega
      · exact S.M d hd D1 hD1
  refine wpIn_rangeFunc_ownF (F := FR none) (n := 2) (α := X') rfl (by decide) (gf := k) (lb := cs) hfv trivial (fun args W => by simp only [callFunc, Sem.run_bind, run_program, Sem.run_pure, Result.andThen_ok, hfn, hname, hB, Bool.false_eq_true, if_false]) hit
    (fun h1 h2 b hb => (h2 b hb).trans (h1 b hb)) (fun W l o o' hl _ _ _ b hb => putObj_other (by have := S.H.fz b hb; omega)) (RowKit.Below.refl _ _) (fun x => by
      have := x.2.1; rw [this, hl]; simp)
    (fun (pre : List X') (W : World) => Iw (I (pre.map fun (p : X') => p.1.1)) W) (fun (c : Code) (pre : List X') (W : World) => ∃ ex : SExit, ex ≠ .normal ∧ c = codeOf ex ∧ Iw (Ix ex (pre.map fun (p : X') => p.1.1)) W)
    (fun (s : List X') W W' row hs hg hr => hOwn hs hg hr) (fun c (s : List X') W W' row ⟨ex, h1, h2, hs⟩ hg hr => ⟨ex, h1, h2, hOwn hs hg hr⟩)
    ⟨h, g, h0, S.H, S.S, GStep.refl g w, S.E.defers, fun b hb => .inl (S.H.fz b hb)⟩
    (fun x => doMv { tmps := (ps.zip x.1.2).foldl (fun t (p, v) => t.setIfInBounds p v) a.tmps, defers := [] } mv) (fun l x W K hK => toMvs_wp ⟨some l, rfl⟩ hmv hK) ?_ ?_ ?_
  · rintro l pre x W ⟨h', gc, hJ, H, S1, S2, D, hz⟩ hlen
    have E1 : ERel n (mvs (setPs e ps.toList (enc x.1.1)) mv) gc W (doMv { tmps := (ps.zip x.1.2).foldl (fun t (p, v) => t.setIfInBounds p v) a.tmps, defers := [] } mv) := by
      refine ERel.mvs mv _ _ (toMvs_ok hmv) ?_
      have := ERel.setPs ps.toList x.1.2.toList (enc x.1.1) e a.tmps hps' (by simpa using x.2.1) (fun j u y hu hy => (x.2.2 j u y (by simpa using hu) hy).step S2) (base S2)
      rw [← Array.toList_zip, Array.foldl_toList] at this
      exact this
    have hdm : ∀ (a : Act) (mv : List (Nat × Nat)), (doMv a mv).defers = a.defers := by
      intro a mv
      induction mv generalizing a with
      | nil => rfl
      | cons p r ih => obtain ⟨d, s⟩ := p; rw [doMv, ih, put_defers]
    have hv' := hb (pre.map fun p => p.1.1) x.1.1 h' hJ (by simpa using hlen)
    refine wpIn_mono (hbd l gc W (GR.step S1) _ _ h' gc _ W hv' ⟨E1, H, GS.refl gc W, fun d hd => by rw [hdm] at hd; cases hd⟩) ?_
    rintro _ a' W' ⟨x', rfl, e', h2, g', hq, S'⟩
    have hko : KeepsOthers W W' := ⟨S'.S.size, fun b o ho hc => (S'.S.own b (Array.getElem?_eq_some_iff.1 ho).1 (.inr ⟨o, ho, hc⟩)).trans ho⟩
    have hkp : ∀ b, g.fz b → W'.heap[b]? = W.heap[b]? := fun b hb => S'.S.keep b (S2.fz b hb)
    have hI : ∀ {J : Heap → Prop}, J h2 → Iw J W' := fun hJ2 => ⟨h2, g', hJ2, S'.H, S1.trans S'.S, S2.trans S'.S.toGStep, D.step S'.S, fun b hb => by
      rcases S'.S.fzc b hb with h1 | h1
      · rcases hz b h1 with h3 | h3
        · exact .inl h3
        · exact .inr fun ⟨o, ho, hc⟩ => h3 ⟨o, (S'.S.keep b h1).symm.trans ho, hc⟩
      · exact .inr h1⟩
    cases x' with
    | normal => exact ⟨hko, hkp, hI (by simpa [roundK] using hq)⟩
    | exit id => exact ⟨hko, .exit id, by simp, rfl, hI (by simpa [roundK] using hq)⟩
    | ret => exact ⟨hko, .ret, by simp, rfl, hI (by simpa [roundK] using hq)⟩
  · intro D ys W hD hS hI hDW
    rw [hS] at hI
    obtain ⟨h', gc, hJ, St'⟩ := fin hI hD hDW
    exact ⟨.normal, rfl, e, h', gc, hQ h' hJ, St'⟩
  · rintro D c pre W hD hS ⟨ex, hne, rfl, hI⟩ hDW
    obtain ⟨h', gc, hJ, St'⟩ := fin hI hD hDW
    have hq := hQx ex _ h' hne hS hJ
    cases ex with
    | normal => exact absurd rfl hne
    | exit id => exact wpIn_exit ⟨.exit id, rfl, e, h', gc, hq, St'⟩
    | ret => exact wpIn_ret ⟨.ret, rfl, e, h', gc, hq, St'⟩

/-- THE CONDITIONS ARE ENOUGH. -/
theorem vc_sound : ∀ (c : Code) (sc : SCode), toS P ann n c = some sc → ∀ (ro : Option Nat) (nn : Nat), (ro = none ∧ nn = 2 ∨ noRange c = true) → ∀ (g0 : Ghost) (w0 : World), GRel P.gl g0 w0 → ∀ (Q : SExit → Env → Heap → Prop) (e : Env) (h : Heap) (g : Ghost) (a : Act) (w : World), vc P sc Q e h → St n g0 w0 e h g a w → c.wpIn (FR ro) nn P (LiftQ n g0 w0 Q) a w := by
  intro c
  induction c with
  | skip =>
    intro sc ht ro nn hro g0 w0 GR Q e h g a w hk S
    simp [toS] at ht; subst ht
    exact wpIn_skip ⟨.normal, rfl, e, h, g, hk, S⟩
  | region id ops draws =>
    intro sc ht ro nn hro g0 w0 GR Q e h g a w hk S
    cases draws with
    | false =>
      simp only [toS, Option.map_eq_some_iff] at ht
      obtain ⟨sops, hs, rfl⟩ := ht
      exact wpIn_region_list (list_in LiftQ.in _ _ _ (toSOps_defer hs) (vcOps_sound GR (K := Q .normal) (fun a w L => ⟨.normal, rfl, L⟩) _ _ e h g a w hs hk S))
    | true =>
      simp only [toS, Option.map_eq_some_iff] at ht
      obtain ⟨sops, hs, rfl⟩ := ht
      exact dreg_sound GR LiftQ.in hs (K := Q .normal) (fun a w L => ⟨.normal, rfl, L⟩) hk S
  | seq x y ihx ihy =>
    intro sc ht ro nn hro g0 w0 GR Q e h g a w hk S
    simp only [toS, Option.bind_eq_some_iff, Option.map_eq_some_iff] at ht
    obtain ⟨sx, hsx, sy, hsy, rfl⟩ := ht
    refine wpIn_seq (wpIn_mono (ihx sx hsx ro nn (hro.imp (fun h => h) fun h => by simp [noRange] at h; exact h.1) g0 w0 GR (thenK (vc P sy Q) Q) e h g a w hk S) ?_)
    rintro _ a' w' ⟨x', rfl, e', h', g', hq, S'⟩
    cases x' with
    | normal => exact ihy sy hsy ro nn (hro.imp (fun h => h) fun h => by simp [noRange] at h; exact h.2) g0 w0 GR Q e' h' g' a' w' hq S'
    | exit id => exact ⟨.exit id, rfl, e', h', g', hq, S'⟩
    | ret => exact ⟨.ret, rfl, e', h', g', hq, S'⟩
  | cond c x y ihx ihy =>
    intro sc ht ro nn hro g0 w0 GR Q e h g a w hk S
    simp only [toS, Option.bind_eq_some_iff, Option.map_eq_some_iff] at ht
    obtain ⟨s, hs, sx, hsx, sy, hsy, rfl⟩ := ht
    have hv := ev_sound S.E hs
    have hk : condOn (ev e s) (vc P sx Q e h) (vc P sy Q e h) := hk
    revert hk hv
    cases ev e s <;> intro hv hk <;> try exact hk.elim
    rename_i t
    exact wpIn_cond_split hv.bool_inv (fun ht => ihx sx hsx ro nn (hro.imp (fun h => h) fun h => by simp [noRange] at h; exact h.1) g0 w0 GR Q e h g a w (hk.1 ht) S) (fun ht => ihy sy hsy ro nn (hro.imp (fun h => h) fun h => by simp [noRange] at h; exact h.2) g0 w0 GR Q e h g a w (hk.2 ht) S)
  | block id c ih =>
    intro sc ht ro nn hro g0 w0 GR Q e h g a w hk S
    simp only [toS, Option.map_eq_some_iff] at ht
    obtain ⟨s, hs, rfl⟩ := ht
    refine wpIn_block (wpIn_mono (ih s hs ro nn (hro.imp (fun h => h) fun h => by simpa [noRange] using h) g0 w0 GR (blockK id Q) e h g a w hk S) ?_)
    rintro _ a' w' ⟨x', rfl, e', h', g', hq, S'⟩
    cases x' with
    | normal => exact ⟨.normal, rfl, e', h', g', hq, S'⟩
    | ret => exact ⟨.ret, rfl, e', h', g', hq, S'⟩
    | exit j =>
      simp only [blockK] at hq
      simp only [exitOf, Exit.inBlock]
      split at hq
      · rename_i hj; rw [if_pos hj]; exact ⟨.normal, rfl, e', h', g', hq, S'⟩
      · rename_i hj; rw [if_neg hj]; exact ⟨.exit j, rfl, e', h', g', hq, S'⟩
  | loop c ih =>
    intro sc ht ro nn hro g0 w0 GR Q e h g a w hk S
    simp only [toS, Option.map_eq_some_iff] at ht
    obtain ⟨s, hs, rfl⟩ := ht
    obtain ⟨I, ⟨m0, h0⟩, hround⟩ := hk
    intro b k cs hro' hb hr
    have key : ∀ m e h g a w, I m e h → St n g0 w0 e h g a w → ∃ x a' w', LiftQ n g0 w0 Q x a' w' ∧ ArrivesIn (Machine.fenced P (FR ro)) P (lone (b.atR a (.code c :: .inLoop c :: k)) cs w) b k cs x a' w' := by
      intro m
      induction m using Nat.strongRecOn with
      | _ m ihm =>
        intro e h g a w hI S
        obtain ⟨x, a₁, w₁, hq, harr⟩   := ih s hs ro nn (hro.imp (fun h => h) fun h => by simpa [noRange] using h) g0 w0 GR _ e h g a w (hround m e h hI) S b (.inLoop c :: k) cs hro' hb hr
        obtain ⟨x', rfl, e', h', g', hq, S'⟩ := hq
        cases x' with
        | normal =>
          obtain ⟨m', hlt, hI'⟩ := hq
          obtain ⟨x2, a₂, w₂, hq₂, harr₂⟩ := ihm m' hlt e' h' g' a₁ w₁ hI' S'
          exact ⟨x2, a₂, w₂, hq₂, .of_steps (StepsIn.trans harr (.one (fenced_calm hb hr rfl) stepR_inLoop)) harr₂⟩
        | exit id => exact ⟨.exit id, a₁, w₁, ⟨.exit id, rfl, e', h', g', hq, S'⟩, .pass (x := .inLoop c) rfl (fun _ _ => .inl (by simp)) harr⟩
        | ret => exact ⟨.ret, a₁, w₁, ⟨.ret, rfl, e', h', g', hq, S'⟩, .pass (x := .inLoop c) rfl (fun _ _ => .inl (by simp)) harr⟩
    obtain ⟨x, a', w', hq, harr⟩ := key m0 e h g a w h0 S
    exact ⟨x, a', w', hq, .of_steps (.one (fenced_calm hb hr rfl) stepR_loop) harr⟩
  | exit id =>
    intro sc ht ro nn hro g0 w0 GR Q e h g a w hk S
    simp [toS] at ht; subst ht
    exact wpIn_exit ⟨.exit id, rfl, e, h, g, hk, S⟩
  | ret =>
    intro sc ht ro nn hro g0 w0 GR Q e h g a w hk S
    simp [toS] at ht; subst ht
    exact wpIn_ret ⟨.ret, rfl, e, h, g, hk, S⟩
  | rangeFunc f ps asg body _ ihb =>
    intro sc ht ro nn hro g0 w0 GR Q e h g a w hk S
    obtain ⟨rfl, rfl⟩ : ro = none ∧ nn = 2 := hro.resolve_right (by simp [noRange])
    simp only [toS] at ht
    split at ht
    case isFalse => cases ht
    rename_i hc
    obtain ⟨hnr, hps⟩ := hc
    simp only [Option.bind_eq_some_iff, Option.map_eq_some_iff] at ht
    obtain ⟨fx, hfx, mv, hmv, sb, hsb, rfl⟩ := ht
    exact range_sound hfx hmv hps (fun l g0 w0 GR Q e h g a w hk S => ihb sb hsb (some l) 0 (.inr hnr) g0 w0 GR Q e h g a w hk S) GR hk S
  | scope => intro sc ht; simp [toS] at ht
  | label => intro sc ht; simp [toS] at ht
  | goto => intro sc ht; simp [toS] at ht
  | refuse => intro sc ht; simp [toS] at ht

theorem res_run {e : Env} {h : Heap} {g : Ghost} {a : Act} {w : World} (E : ERel n e g w a) (H : HRel h g w) : ∀ (rs : List ResultVar) (ss : List SRes), rs.mapM (toSRes P) = some ss → allOK e h ss →
    ∃ vs : List Value, (rs.mapM fun x => match x with
      | ResultVar.tmp t => (pure (a.tmps.getD t undef) : Sem Value)
      | ResultVar.cell p t => do
        let ad ← asAddr (a.tmps.getD p undef)
        loadVar t ad).run P w = .ok vs w ∧ vs.length = ss.length ∧ ∀ (j : Nat) (u : Value) (x : AVal), vs[j]? = some u → (ss.map (resV e h))[j]? = some x → VRel g w u x
  | [], ss, hm, _ => by
    simp at hm; subst hm
    exact ⟨[], by simp, rfl, by simp⟩
  | r :: rs, ss, hm, hok => by
    simp only [List.mapM_cons, Option.bind_eq_bind, Option.pure_def, Option.bind_eq_some_iff, Option.some.injEq] at hm
    obtain ⟨s, hs, sr, hsr, rfl⟩ := hm
    obtain ⟨vs, hr, hl, hh⟩ := res_run E H rs sr hsr hok.2
    have key : ∃ v, (match r with
      | ResultVar.tmp t => (pure (a.tmps.getD t undef) : Sem Value)
      | ResultVar.cell p t => do
        let ad ← asAddr (a.tmps.getD p undef)
        loadVar t ad).run P w = .ok v w ∧ VRel g w v (resV e h s) := by
      cases r with
      | tmp t =>
        simp only [toSRes] at hs
        split at hs
        · rename_i h6; cases hs; exact ⟨_, rfl, E.slot t h6⟩
        · cases hs
      | cell p t =>
        simp only [toSRes] at hs
        split at hs
        case isFalse => cases hs
        rename_i h6
        simp only [Option.bind_eq_some_iff, Option.map_eq_some_iff] at hs
        obtain ⟨sz, hsz, b, hb, rfl⟩ := hs
        have hv := (E.slot p h6).deVp
        have hok1 : okLd0 h sz b (deVp (e p)) := hok.1
        show ∃ v, _ ∧ VRel g w v (aLd0 h sz b (deVp (e p)))
        revert hok1 hv
        cases deVp (e p) <;> intro hv hok1 <;> try exact hok1.elim
        · rename_i r i j
          obtain ⟨ob, hob, hi, hj, h1s⟩ := hok1
          obtain ⟨hr', hv'⟩ := hv.ptr_inv
          obtain ⟨v, hrun, hrel⟩ := load_cells (P := P) (w := w) (g := g) hsz hb ⟨g.eta r, g.bo r + i * g.sz r + j, none⟩ ((ob.es.getD i []).drop j) (by simp only [List.length_drop]; omega) h1s ((H.obj r ob hob).cells hi j)
          exact ⟨v, by simp only [hv', asAddr, Sem.run_bind, Sem.run_pure, Result.andThen_ok]; exact hrun, by simpa [aLd0, hob] using hrel⟩
        · rename_i cs
          obtain ⟨hle, h1s⟩ := hok1
          obtain ⟨ad, hv', _, _, hc⟩ := hv.pin_inv
          obtain ⟨v, hrun, hrel⟩ := load_cells (P := P) (w := w) (g := g) hsz hb ad cs hle h1s hc
          exact ⟨v, by simp only [hv', asAddr, Sem.run_bind, Sem.run_pure, Result.andThen_ok]; exact hrun, hrel⟩
    obtain ⟨v, hv, hrel⟩ := key
    refine ⟨v :: vs, ?_, by simp [hl], fun j u x hu hx => ?_⟩
    · simp only [List.mapM_cons, Sem.run_bind, hv, Result.andThen_ok, hr, Sem.run_pure]
    · cases j with
      | zero => simp at hu hx; subst hu hx; exact hrel
      | succ j => simp at hu; simp only [List.map_cons, List.getElem?_cons_succ] at hx; exact hh j u x hu hx

/-- the marks are taken, one by one; then the results -/
theorem leave_marks {fn : Func} {R : Ending → World → Prop} {e : Env} {h : Heap} {g : Ghost} {ts : Array Value} : ∀ (a : Act) (_ : a.tmps = ts) (w : World), ERel n e g w a → HRel h g w → GS g0 w0 g w → MK w0 a →
    (∀ a1 w1, a1.tmps = ts → ERel n e g w1 a1 → HRel h g w1 → GS g0 w0 g w1 → ∃ v, (results fn ts).run P w1 = .ok v w1 ∧ R (.returned v) w1) → LeavesInM (FR none) 2 P fn ts R a.defers .returning w := by
  rintro ⟨tm, ds⟩ ht w E H S M hR
  simp only at ht
  subst ht
  induction ds generalizing w with
  | nil => exact hR _ w rfl E H S
  | cons d ds ih =>
    obtain ⟨D, hd, hD, ho, hf⟩ := E.defers.one d List.mem_cons_self
    have hB : w0.heap.size ≤ D := M d List.mem_cons_self D (by rw [hd])
    have hlt : D < w.heap.size := (Array.getElem?_eq_some_iff.1 hD).1
    have hsz : (w.putObj D (.deferred none)).heap.size = w.heap.size := by simp [World.putObj]
    have W : GStep g w g (w.putObj D (.deferred none)) := GStep.world (fun b hb => putObj_other (fun e => hf (e ▸ hb))) rfl rfl rfl (by rw [hsz]; exact Nat.le_refl _)
    refine ⟨by simp, .inl ⟨D, _, by rw [hd], run_takeDeferred hD, ih _ ⟨⟨fun d' hd' => ?_, (List.pairwise_cons.1 E.defers.two).2⟩, E.size, E.bnd, fun t h6 => (E.slot t h6).step W, fun b => (E.glo b).step W⟩ ?_ ?_ (fun d' hd' => M d' (List.mem_cons_of_mem _ hd'))⟩⟩
    · obtain ⟨D', e1, e2, e3, e4⟩ := E.defers.one d' (List.mem_cons_of_mem _ hd')
      have hne : D' ≠ D := by
        rintro rfl
        exact (List.pairwise_cons.1 E.defers.two).1 d' hd' (hd.trans e1.symm)
      exact ⟨D', e1, (putObj_other hne).trans e2, e3, e4⟩
    · refine ⟨fun r ob hr => (H.obj r ob hr).step W (fun h0 => putObj_other fun he => ho ⟨r, (H.obj r ob hr).lt, h0, he⟩) (fun h0 => ?_), H.inj, fun b hb => by rw [hsz]; exact H.fz b hb, fun b hb => ?_⟩
      rcases (H.obj r ob hr).block with h' | ⟨_, hf', _⟩
      · exact absurd h' h0
      · exact hf'
      · obtain ⟨cur, t, f, hc⟩ := H.ow b hb
        have hne : b ≠ D := by rintro rfl; exact ho hb
        exact ⟨cur, t, f, (putObj_other hne).trans hc⟩
    · refine ⟨S.toGStep.trans W, fun b hb hn => (putObj_other (by omega)).trans (S.own b hb hn), S.new, S.fzn, fun b hb => ?_⟩
      rcases S.fzc b hb with h1 | h1
      · exact .inl h1
      · have hne : b ≠ D := by rintro rfl; exact hf hb
        exact .inr fun ⟨o, ho', hc⟩ => h1 ⟨o, (putObj_other hne).symm.trans ho', hc⟩

/-- A CONTRACT OUT OF A BODY's CONDITIONS. -/
theorem dcalls_of_vc {f : Nat} {fn : Func} {sf : SFun} {args : List AVal} {h : Heap} {K : AVal → Heap → Prop} (hf : P.p.funcs[f]? = some fn) (hname : (fn.name == "runtime.NumGoroutine") = false)
    (hsf : toSF P ann fn = some sf) (hn : args.length ≤ fn.ntmps) (hN : fn.ntmps ≤ 1000000) (hk : vc P sf.code (retK sf.res K) (initE P.gl args) h) : DCalls P f args h K := by
  simp only [toSF, Option.bind_eq_some_iff, Option.map_eq_some_iff] at hsf
  obtain ⟨c, hc, sc, hsc, rs, hrs, rfl⟩ := hsf
  refine ⟨⟨fn, hf, hname, by simp [hc]⟩, fun g w vs H GR V => ?_⟩
  refine in_calls (ro := none) (n := 2) (callsIn_of_wp_marks hf hc trivial (wpIn_mono (vc_sound c sc hsc none 2 (.inl ⟨rfl, rfl⟩) g w GR (retK rs K) (initE P.gl args) h g _ w hk ⟨⟨DOK.nil g w, ?_, hN, fun t h6 => ?_, fun b => ?_⟩, H, GS.refl g w, fun d hd => by cases hd⟩) ?_) rfl)
  · simp only [Array.size_append, Array.size_replicate]
    have := V.1
    omega
  · simp only [initE, if_pos h6]
    by_cases ht : t < vs.size
    · have h1 : (vs ++ Array.replicate (fn.ntmps - vs.size) undef).getD t undef = vs[t] := by
        simp only [Array.getD_eq_getD_getElem?, Array.getElem?_append_left ht, Array.getElem?_eq_getElem ht, Option.getD_some]
      rw [h1]
      exact V.2 t _ _ (Array.getElem?_eq_getElem ht) (getD_getElem? args t .dead (by rw [← V.1]; exact ht))
    · have h1 : args.getD t .dead = .dead := by
        rw [List.getD_eq_getElem?_getD, List.getElem?_eq_none (by rw [← V.1]; omega)]
        rfl
      rw [h1]
      exact .dead _
  · rw [initE, if_neg (by omega), Nat.add_sub_cancel_left]; exact (GR b).2
  · rintro x a' w' ⟨x', rfl, e, h', g', hq, S'⟩
    have fin : allOK e h' rs → (∃ h'', (∀ t o, h'' t = some o → h' t = some o) ∧ K (retV e h' rs) h'') → LeavesInM (FR none) 2 P fn a'.tmps (fun e w' => ∃ v r h'' g'', e = .returned v ∧ K r h'' ∧ HRel h'' g'' w' ∧ VRel g'' w' v r ∧ GS g w g'' w') a'.defers .returning w' := by
      intro hok ⟨h'', hle, hK⟩
      refine leave_marks (R := fun e w' => ∃ v r h'' g'', e = .returned v ∧ K r h'' ∧ HRel h'' g'' w' ∧ VRel g'' w' v r ∧ GS g w g'' w') a' rfl w' S'.E S'.H S'.S S'.M fun a1 w1 ht E1 H1 S1 => ?_
      obtain ⟨us, hrun, hl, hh⟩ := res_run (P := P) E1 H1 fn.results.toList rs hrs hok
      have hrun' : (results fn a1.tmps).run P w1 = .ok (if h : us.toArray.size = 1 then us.toArray[0] else Value.tuple us.toArray) w1 := by
        unfold results
        rw [Array.mapM_eq_mapM_toList]
        simp only [Sem.run_bind, Sem.run_map]
        exact (fun (r : Result (List Value)) (hr : r = .ok us w1) => (by subst hr; rfl : (r.andThen fun a w1 => Result.ok a.toArray w1).andThen (fun a w1 => Sem.run P (pure (if h : a.size = 1 then a[0] else Value.tuple a)) w1) =
          .ok (if h : us.toArray.size = 1 then us.toArray[0] else Value.tuple us.toArray) w1)) _ hrun
      rw [ht] at hrun'
      refine ⟨_, hrun', _, _, h'', g', rfl, hK, H1.le hle, ?_, S1⟩
      cases rs with
      | nil =>
        obtain rfl : us = [] := List.eq_nil_of_length_eq_zero hl
        simp only [retV]
        exact .tup #[] [] rfl (by simp)
      | cons r0 rs =>
        cases rs with
        | nil =>
          obtain ⟨u, rfl⟩ := List.length_eq_one_iff.1 hl
          exact hh 0 u _ rfl rfl
        | cons r1 rs =>
          have h2 : ¬ us.toArray.size = 1 := by simp only [List.size_toArray, hl, List.length_cons]; omega
          rw [dif_neg h2]
          exact .tup us.toArray _ (by simp [hl]) (fun j u x hu hx => hh j u x (by simpa using hu) hx)
    cases x' with
    | normal => exact fin hq.1 hq.2
    | ret => exact fin hq.1 hq.2
    | exit id => exact hq.elim
end
end Go.Sim
