/- Iterators whose memory is data: the conditions of their code. -/
import Derived.Test.YtlehoolkjkdncaaDoorSimIter
set_option linter.defProp false
namespace Go.Sim
open Go

theorem VRel.heap {g : Ghost} {w w' : World} (hk : ∀ b, g.fz b → w'.heap[b]? = w.heap[b]?) {v : Value} {a : AVal} (h : VRel g w v a) : VRel g w' v a := by
  have hcell : ∀ ad : Addr, g.fz ad.block → w'.cell? ad = w.cell? ad := fun ad hb => World.cell?_of_block (hk _ hb)
  induction h with
  | prim v => exact .prim v
  | int k n => exact .int k n
  | bool b => exact .bool b
  | str s => exact .str s
  | agg vs cs hl h1 _ ih => exact .agg vs cs hl h1 ih
  | slc0 A c => exact .slc0 A c
  | slc ad n c sz es us hn hc hsz hsp hf h1 h2 _ ih =>
    exact .slc ad n c sz es us hn hc hsz hsp hf (fun i j e a he ha => (hcell _ (by rw [Addr.block_add]; exact hf)).trans (h1 i j e a he ha)) h2 ih
  | emp0 => exact .emp0
  | empS ad hsp hf hc => exact .empS ad hsp hf (by rw [hk _ hf]; exact hc)
  | osl0 r sz hr hc hz => exact .osl0 r sz hr hc hz
  | osl r sz i n cap off hr hz hc hm hi ho => exact .osl r sz i n cap off hr hz hc hm hi ho
  | ptr r i j hr => exact .ptr r i j hr
  | vp r j hr hb hc => exact .vp r j hr hb hc
  | anyp q => exact .anyp q
  | pin ad cs us hsp hf h1 h2 _ ih => exact .pin ad cs us hsp hf (fun j a ha => (hcell _ (by rw [Addr.block_add]; exact hf)).trans (h1 j a ha)) h2 ih
  | fn f fs cs as bs hf hc _ _ ih1 ih2 => exact .fn f fs cs as bs hf hc ih1 ih2
  | tup vs as hl _ ih => exact .tup vs as hl ih
  | dead v => exact .dead v

inductive IOp | op (s : SOp) | yld (dst : Option Nat) (f : SX) (args : List SX)
inductive ICode : Type
  | skip
  | reg (ops : List IOp)
  | seq (a b : ICode)
  | cond (x : SX) (a b : ICode)
  | block (id : Nat) (c : ICode)
  | loop (c : ICode)
  | exit (id : Nat)
  | ret
/-- a call of a value: of yield -/
def yieldOf (o : Oper) : Option (Nat × List Operand) :=
  match o.op, o.guard with
  | .call c, none => match c.callee with
    | .value (.tmp t) => if t < 1000000 then some (t, c.args.toList) else none
    | _ => none
  | _, _ => none
def dstI (np n : Nat) : Option Nat → Bool
  | some d => decide (np ≤ d) && decide (d < n)
  | none => true
def toIOp (P : Program) (ann : Ann) (np n : Nat) (ops : Array Oper) (o : Oper) : Option IOp :=
  if dstI np n o.dst = true then
    match yieldOf o with
    | some (t, as) => (toSXs as).map fun l => .yld o.dst (.t t) l
    | none => (toSOp P ann n ops o).map .op
  else none
def toIOps (P : Program) (ann : Ann) (np n : Nat) (ops : Array Oper) : List Oper → Option (List IOp)
  | [] => some []
  | o :: r => (toIOp P ann np n ops o).bind fun s => (toIOps P ann np n ops r).map (s :: ·)
def toI (P : Program) (ann : Ann) (np n : Nat) : Code → Option ICode
  | .skip => some .skip
  | .region _ ops false => (toIOps P ann np n ops ops.toList).map .reg
  | .seq a b => (toI P ann np n a).bind fun x => (toI P ann np n b).map (.seq x)
  | .cond c a b => (toSX c).bind fun c => (toI P ann np n a).bind fun x => (toI P ann np n b).map (.cond c x)
  | .block id c => (toI P ann np n c).map (.block id)
  | .loop c => (toI P ann np n c).map .loop
  | .exit id => some (.exit id)
  | .ret => some .ret
  | _ => none
def toIF (P : Program) (ann : Ann) (np : Nat) (fn : Func) : Option ICode := if fn.results = #[] then fn.body.bind (toI P ann np fn.ntmps) else none

def keepS : AVal → AVal
  | .int k n => .int k n
  | .bool b => .bool b
  | .str l => .str l
  | _ => .dead
/-- after a round: numbers and texts; what the iterator has been handed; the package-level variables -/
def aft (np : Nat) (e : Env) : Env := fun t => if t < np ∨ 1000000 ≤ t then e t else keepS (e t)
/-- .. when the loop has been left -/
def aftX (e : Env) : Env := fun t => keepS (e t)
def PG.dark (P : PG) : PG := ⟨P.p, fun _ => .dead⟩
def PS (P : PG) (s : Bool) : PG := if s = true then P.dark else P
section
variable {X : Type}
def itOps (P : PG) (np : Nat) (yv : AVal) (enc : X → List AVal) (N : Nat) : List IOp → Bool → List X → Env → (Bool → List X → Env → Prop) → Prop
  | [], s, p, e, K => K s p e
  | .op o :: r, s, p, e, K => Hd (vcV (PS P s) o e (fun _ => none)) (fun v _ => itOps P np yv enc N r s p (setD e o.dst v) K) .mk
  | .yld d f as :: r, s, p, e, K => s = false ∧ p.length < N ∧ ev e f = yv ∧ ∃ x, as.map (ev e) = enc x ∧
      itOps P np yv enc N r false (p ++ [x]) (setD (aft np e) d (.bool true)) K ∧ itOps P np yv enc N r true (p ++ [x]) (setD (aftX e) d (.bool false)) K
def seqK (N : Bool → List X → Env → Prop) (Q : SExit → Bool → List X → Env → Prop) : SExit → Bool → List X → Env → Prop
  | .normal, s, p, e => N s p e
  | x, s, p, e => Q x s p e
def blkK (id : Nat) (Q : SExit → Bool → List X → Env → Prop) : SExit → Bool → List X → Env → Prop
  | .exit j, s, p, e => if j = id then Q .normal s p e else Q (.exit j) s p e
  | x, s, p, e => Q x s p e
def itLoop (body : (SExit → Bool → List X → Env → Prop) → Bool → List X → Env → Prop) (Q : SExit → Bool → List X → Env → Prop) (s : Bool) (p : List X) (e : Env) : Prop :=
  ∃ I : Nat → Bool → List X → Env → Prop, (∃ m, I m s p e) ∧ ∀ m s p e, I m s p e → body (seqK (fun s p e => ∃ m', m' < m ∧ I m' s p e) Q) s p e
def itv (P : PG) (np : Nat) (yv : AVal) (enc : X → List AVal) (N : Nat) : ICode → (SExit → Bool → List X → Env → Prop) → Bool → List X → Env → Prop
  | .skip, Q, s, p, e => Q .normal s p e
  | .reg ops, Q, s, p, e => itOps P np yv enc N ops s p e (Q .normal)
  | .seq a b, Q, s, p, e => itv P np yv enc N a (seqK (itv P np yv enc N b Q) Q) s p e
  | .cond x a b, Q, s, p, e => condOn (ev e x) (itv P np yv enc N a Q s p e) (itv P np yv enc N b Q s p e)
  | .block id c, Q, s, p, e => itv P np yv enc N c (blkK id Q) s p e
  | .loop c, Q, s, p, e => itLoop (itv P np yv enc N c) Q s p e
  | .exit id, Q, s, p, e => Q (.exit id) s p e
  | .ret, Q, s, p, e => Q .ret s p e
def endK (xs : List X) : SExit → Bool → List X → Env → Prop
  | .exit _, _, _, _ => False
  | _, s, p, _ => if s = true then p <+: xs else p = xs
end

/-! ## Soundness -/
theorem vcOp_put {ann : Ann} {ops : Array Oper} {o : Oper} {op : SOp} {P : PG} {n : Nat} {e : Env} {h : Heap} {g : Ghost} {a : Act} {w : World} (ht : toSOp P ann n ops o = some op) {K : Env → Heap → Prop} (hk : vcOp P op e h K) {g0 : Ghost} {w0 : World} (GR : GRel P.gl g0 w0) (T : St n g0 w0 e h g a w)
    {next : Act → World → Prop} {Q : Exit → Act → World → Prop} (hn : ∀ v r w', Lift n g0 w0 (fun e' h' => e' = setD e o.dst r ∧ K e' h') (a.put o.dst v) w' → next (a.put o.dst v) w') :
    if Region.wanted o (yielded ops a.tmps) then o.wp P a w next Q ∨ (o.asks P a w ∧ LetsOut Q) else next (a.put o.dst undef) w := by
  unfold toSOp at ht
  simp only [Option.bind_eq_some_iff] at ht
  obtain ⟨si, hsi, ht⟩ := ht
  split at ht
  · rename_i hd
    have hd := dstOK_out hd
    have run : ∀ {K' : AVal → Heap → Prop}, vcI P si e h K' → (∀ r h', K' r h' → K (setD e o.dst r) h') → o.wp P a w next Q := by
      intro K' hv hK'
      refine vcI_sound hsi hv T.E T.H (GR.step T.S) fun v w' g' r h' S' H' V' k' => hn _ r _ ⟨_, h', g', ⟨rfl, hK' r h' k'⟩, ⟨(T.E.step S').put hd V', H', T.S.trans S', T.M.put _ _⟩⟩
    split at ht
    · rename_i hg
      cases ht
      have hw : Region.wanted o (yielded ops a.tmps) = true := by simp [Region.wanted, hg]
      rw [if_pos hw]
      exact .inl (run hk fun _ _ k => k)
    · rename_i j b hg
      rw [Option.bind_eq_some_iff] at ht
      obtain ⟨s, hs, ht⟩ := ht
      split at ht
      case isFalse => cases ht
      rename_i h6
      cases ht
      have skip : want (e s) b = some false → K (setD e o.dst (.tup [])) h → (if Region.wanted o (yielded ops a.tmps) then o.wp P a w next Q ∨ (o.asks P a w ∧ LetsOut Q) else next (a.put o.dst undef) w) := by
        intro het hK
        have hy := want_off hs (T.E.slot s h6) het
        rw [if_neg (by simp [Region.wanted, hg, hy])]
        exact hn _ _ _ ⟨_, h, g, ⟨rfl, hK⟩, ⟨T.E.put hd (.tup #[] [] rfl (by simp)), T.H, T.S, T.M.put _ _⟩⟩
      have go : want (e s) b = some true → o.wp P a w next Q → (if Region.wanted o (yielded ops a.tmps) then o.wp P a w next Q ∨ (o.asks P a w ∧ LetsOut Q) else next (a.put o.dst undef) w) := by
        intro het hwp
        have hy := want_on hs (T.E.slot s h6) het
        rw [if_pos (by simp [Region.wanted, hg, hy])]
        exact .inl hwp
      have hk : vcG P s b si e h (fun r h' => K (setD e o.dst r) h') := hk
      unfold vcG at hk
      split at hk
      · rename_i f args
        obtain ⟨v, hk⟩ := hk
        obtain ⟨t, het, h1, h2⟩ := gateP_out hk
        rw [gateV_w het] at h2
        cases t with
        | true => exact go het (run (K' := fun r h' => r = v ∧ h' = h) ⟨v, h1 rfl, rfl, rfl⟩ (by rintro r h' ⟨rfl, rfl⟩; exact h2))
        | false => exact skip het h2
      · split at hk
        · rename_i hst
          obtain ⟨t, het, h1, h2⟩ := gateP_out hk
          rw [gateV_w het] at h2
          cases t with
          | true => exact go het (run (K' := fun r h' => r = fop si e h ∧ h' = h) (stable_vcI hst (h1 rfl) ⟨rfl, rfl⟩) (by rintro r h' ⟨rfl, rfl⟩; exact h2))
          | false => exact skip het h2
        · obtain ⟨t, het, h1, h2⟩ := gateE_out hk
          cases t with
          | true => exact go het (run (h1 rfl) fun _ _ k => k)
          | false => exact skip het (h2 rfl)
  · cases ht


structure IR {X : Type} (P : PG) (n np : Nat) (enc : X → List AVal) (g0 : Ghost) (w0 : World) (e0 : Env) (J Jx : List { p : X × Array Value // VRelL g0 w0 p.2 (enc p.1) } → World → Prop) (s : Bool) (p : List X) (e : Env) (a : Act) (W : World) : Prop where
  D : a.defers = []
  B : ∃ gs Ws g p', gs.nxt = 0 ∧ St n gs Ws e (fun _ => none) g a W ∧ GRel (PS P s).gl gs Ws ∧ p'.map (fun q => q.1.1) = p ∧ (s = true → Jx p' Ws) ∧
    (s = false → J p' Ws ∧ (∀ b, g0.fz b → gs.fz b ∧ Ws.heap[b]? = w0.heap[b]?) ∧ (∀ b, e (1000000 + b) = P.gl b) ∧ ∀ t, t < np → e t = e0 t ∧ VRel g0 w0 (a.tmps.getD t undef) (e0 t))
theorem VRel.prim_inv' {g : Ghost} {w : World} {u v : Value} (h : VRel g w u (.prim v)) : u = v := by cases h; rfl
theorem setD_hi {np n : Nat} (_ : np ≤ n) (hn : n ≤ 1000000) {e : Env} {dst : Option Nat} (h : ∀ d, dst = some d → d < n) {v : AVal} (b : Nat) : setD e dst v (1000000 + b) = e (1000000 + b) := by
  cases dst with
  | none => rfl
  | some d => exact upd_ne _ _ (by have := h d rfl; omega)
theorem grown_of {gs g : Ghost} {Ws W : World} (S : GS gs Ws g W) (hn : gs.nxt = 0) : Ws.grownBy W none :=
  ⟨S.os, S.tape, S.output, S.size, fun k hk _ => S.own k hk (.inl fun ⟨r, hr, _⟩ => by rw [hn] at hr; omega)⟩
theorem GRel.dark (P : PG) (g : Ghost) (w : World) : GRel (PG.dark P).gl g w := fun _ => ⟨.dead, .dead _⟩
theorem keepS_rel {g g' : Ghost} {w w' : World} {v : Value} {a : AVal} (h : VRel g w v a) : VRel g' w' v (keepS a) := by
  cases h <;> first | exact .dead _ | exact .int _ _ | exact .bool _ | exact .str _
theorem put_at {a : Act} {dst : Option Nat} {v : Value} {t : Nat} (h : ∀ d, dst = some d → d ≠ t) : (a.put dst v).tmps.getD t undef = a.tmps.getD t undef := by
  cases dst with
  | none => rfl
  | some d =>
    simp only [Act.put, Array.getD_eq_getD_getElem?, Array.getElem?_setIfInBounds]
    rw [if_neg (h d rfl)]
theorem dstI_out {np n : Nat} {d : Option Nat} (h : dstI np n d = true) : ∀ x, d = some x → np ≤ x ∧ x < n := by
  intro x hx; subst hx; simpa [dstI] using h

section
variable {X : Type} {P : PG} {ann : Ann} {n np N : Nat} {enc : X → List AVal} {g0 : Ghost} {w0 : World} {e0 : Env} {l B : Nat} {J Jx : List { p : X × Array Value // VRelL g0 w0 p.2 (enc p.1) } → World → Prop}
abbrev Kp0 (g0 : Ghost) (W W' : World) : Prop := ∀ b, g0.fz b → W'.heap[b]? = W.heap[b]?
theorem itOps_sound (hnp : np ≤ n) (G0 : GRel P.gl g0 w0) (F0 : ∀ b, g0.fz b → b < w0.heap.size) (D0 : ∀ t, t < np → Dat (e0 t)) (henc : ∀ x, ∀ y ∈ enc x, Scal y)
    (hJ : ∀ p W W', J p W → W.grownBy W' none → J p W') (hJx : ∀ p W W', Jx p W → W.grownBy W' none → Jx p W')
    (hY : ∀ pre x W1, J pre W1 → pre.length < N → YieldAt (FR none) 0 P.p l x.1.2 W1 fun e W' => (e = .returned (.bool true) ∧ J (pre ++ [x]) W' ∧ Kp0 g0 W1 W') ∨ (e = .returned (.bool false) ∧ Jx (pre ++ [x]) W'))
    {ops : Array Oper} {K : Bool → List X → Env → Prop} {Q : Exit → Act → World → Prop} (hL : ¬ LetsOut Q) (hQ : ∀ s p e a W, K s p e → IR P n np enc g0 w0 e0 J Jx s p e a W → Q .normal a W) :
    ∀ (os : List Oper) (il : List IOp) (s : Bool) (p : List X) (e : Env) (a : Act) (W : World), toIOps P ann np n ops os = some il → itOps P np (.prim (.func (.yield l) #[] #[])) enc N il s p e K → IR P n np enc g0 w0 e0 J Jx s p e a W → wpListIn (FR none) 1 P ops Q os a W
  | [], il, s, p, e, a, W, ht, hk, R => by
    simp [toIOps] at ht; subst ht
    exact hQ s p e a W hk R
  | o :: r, il, s, p, e, a, W, ht, hk, R => by
    simp only [toIOps, Option.bind_eq_some_iff, Option.map_eq_some_iff] at ht
    obtain ⟨io, hio, ir, hir, rfl⟩ := ht
    obtain ⟨hD, gs, Ws, g, p', hnx, S, GR, hp, hX, hF⟩ := R
    unfold toIOp at hio
    split at hio
    case isFalse => cases hio
    rename_i hdst
    have hdst := dstI_out hdst
    split at hio
    · rename_i t as hyo
      rw [Option.map_eq_some_iff] at hio
      obtain ⟨sl, hsl, rfl⟩ := hio
      obtain ⟨rfl, hlen, hf, x, hx, hgo, hst⟩ := hk
      obtain ⟨hJp, hfz, hgl, hpar⟩ := hF rfl
      unfold yieldOf at hyo
      split at hyo
      case h_2 => cases hyo
      rename_i c ho hg
      split at hyo
      case h_2 => cases hyo
      rename_i t' hc
      split at hyo
      case isFalse => cases hyo
      rename_i h6
      cases hyo
      have hw : Region.wanted o (yielded ops a.tmps) = true := by simp [Region.wanted, hg]
      unfold wpListIn
      rw [if_pos hw]
      have hfv : a.eval (.tmp t) = .func (.yield l) #[] #[] := by
        have h1 := ev_sound S.E (x := .tmp t) (sx := .t t) (by simp [toSX, h6])
        rw [show ev e (.t t) = _ from hf] at h1
        exact h1.prim_inv'
      have hargs := evs_rel S.E hsl
      rw [hx] at hargs
      have hargs0 : VRelL g0 w0 (c.args.map a.eval) (enc x) := ⟨hargs.1, fun j u y hu hy => (henc x y (List.mem_of_getElem? hy)).any (hargs.2 j u y hu hy) g0 w0⟩
      have hgr := grown_of S.S hnx
      have hyy := hY p' ⟨(x, c.args.map a.eval), hargs0⟩ W (hJ _ _ _ hJp hgr) (by rw [← hp] at hlen; simpa using hlen)
      have hWk : ∀ b, g0.fz b → W.heap[b]? = w0.heap[b]? := fun b hb => (S.S.keep b (hfz b hb).1).trans (hfz b hb).2
      refine yield_op (l := l) (m := 0) (A := fun W' => J (p' ++ [⟨(x, c.args.map a.eval), hargs0⟩]) W' ∧ Kp0 g0 W W') (B := fun W' => Jx (p' ++ [⟨(x, c.args.map a.eval), hargs0⟩]) W') ho hc hfv ?_ ?_ ?_
      · obtain ⟨fn, tm, asg, body, h1, h2⟩ := hyy
        exact ⟨fn, tm, asg, body, h1, h2.mono fun e W' hh => hh.imp (fun ⟨a, b, c⟩ => ⟨a, b, c⟩) fun h => h⟩
      · rintro W' ⟨hJ', hK'⟩
        have hk0 : ∀ b, g0.fz b → W'.heap[b]? = w0.heap[b]? := fun b hb => (hK' b hb).trans (hWk b hb)
        have hb : ∀ b, g0.fz b → g0.bare.fz b := fun b h => h
        have hsz : ∀ b, g0.fz b → b < W'.heap.size := fun b hb => by
          have h1 := F0 b hb
          have h2 := hk0 b hb
          rw [Array.getElem?_eq_getElem h1] at h2
          exact (Array.getElem?_eq_some_iff.1 h2).1
        have GR' : GRel P.gl g0.bare W' := fun b => ⟨(G0 b).1, (G0 b).1.rel hb ((G0 b).2.heap hk0)⟩
        have E1 : ERel n (aft np e) g0.bare W' a := by
          refine ⟨by rw [hD]; exact DOK.nil _ _, S.E.size, S.E.bnd, fun t ht => ?_, fun b => ?_⟩
          · unfold aft
            split
            · rename_i hh
              have ht' : t < np := by omega
              rw [(hpar t ht').1]
              exact (D0 t ht').rel hb ((hpar t ht').2.heap hk0)
            · exact keepS_rel (S.E.slot t ht)
          · unfold aft
            rw [if_pos (by omega)]
            rw [hgl b]
            exact (GR' b).2
        refine itOps_sound hnp G0 F0 D0 henc hJ hJx hY hL hQ r ir false _ _ _ W' hir hgo ⟨by rw [put_defers]; exact hD, g0.bare, W', g0.bare, _, rfl, ⟨E1.put (fun d hd => (hdst d hd).2) (.bool true), ⟨(fun r o hr => by cases hr), (fun r r' o o' hr => by cases hr), hsz, (fun b ⟨r, hr, _⟩ => by cases hr)⟩, GS.refl _ _, (MK.put (fun d hd => by rw [hD] at hd; cases hd) _ _)⟩, GR', by simp [hp], (fun h => by cases h), fun _ => ⟨hJ', fun b hb => ⟨hb, hk0 b hb⟩, fun b => (setD_hi hnp S.E.bnd (fun d hd => (hdst d hd).2) b).trans ((if_pos (by omega)).trans (hgl b)), fun t ht => ?_⟩⟩
        have hne : ∀ d, o.dst = some d → d ≠ t := fun d hd => Nat.ne_of_gt (Nat.lt_of_lt_of_le ht (hdst d hd).1)
        refine ⟨?_, by rw [put_at hne]; exact (hpar t ht).2⟩
        have h1 : setD (aft np e) o.dst (.bool true) t = aft np e t := by
          cases hd : o.dst with
          | none => rfl
          | some d => exact upd_ne _ _ (fun h => hne d hd h.symm)
        rw [h1, aft, if_pos (.inl ht)]
        exact (hpar t ht).1
      · intro W' hJ'
        let g1 : Ghost := { g0 with nxt := 0, fz := fun _ => False }
        have E1 : ERel n (aftX e) g1 W' a := ⟨by rw [hD]; exact DOK.nil _ _, S.E.size, S.E.bnd, fun t ht => keepS_rel (S.E.slot t ht), fun b => keepS_rel (S.E.glo b)⟩
        exact itOps_sound hnp G0 F0 D0 henc hJ hJx hY hL hQ r ir true _ _ _ W' hir hst ⟨by rw [put_defers]; exact hD, g1, W', g1, _, rfl, ⟨E1.put (fun d hd => (hdst d hd).2) (.bool false), ⟨(fun r o hr => by cases hr), (fun r r' o o' hr => by cases hr), (fun b hb => by cases hb), (fun b ⟨r, hr, _⟩ => by cases hr)⟩, GS.refl _ _, (MK.put (fun d hd => by rw [hD] at hd; cases hd) _ _)⟩, GRel.dark P _ _, by simp [hp], fun _ => hJ', (fun h => by cases h)⟩
    · rw [Option.map_eq_some_iff] at hio
      obtain ⟨so, hso, rfl⟩ := hio
      have hndef : ∀ c, o.op ≠ .defer c := by
        unfold toSOp at hso
        rw [Option.bind_eq_some_iff] at hso
        obtain ⟨si, hsi, _⟩ := hso
        exact toSI_defer hsi
      have hk : vcOp (PS P s) so e (fun _ => none) fun e' _ => itOps P np (.prim (.func (.yield l) #[] #[])) enc N ir s p e' K := hk
      have hPp : (PS P s).p = P.p := by unfold PS; split <;> rfl
      have key := vcOp_put (P := PS P s) (Q := Q) (o := o) (ops := ops) (ann := ann) (n := n) (by rw [hPp]; exact hso) hk GR S (next := fun a' w' => wpListIn (FR none) 1 P ops Q r a' w') fun v rv w' ⟨e', h', g', ⟨he', k'⟩, T'⟩ => by
        refine itOps_sound hnp G0 F0 D0 henc hJ hJx hY hL hQ r ir s p e' _ w' hir k' ⟨by rw [put_defers]; exact hD, gs, Ws, g', p', hnx, ⟨T'.E, T'.H.le (fun t o h => by cases h), T'.S, T'.M⟩, GR, hp, hX, fun hs => ?_⟩
        obtain ⟨h1, h2, h3, h4⟩ := hF hs
        refine ⟨h1, h2, fun b => by rw [he', setD_hi hnp S.E.bnd (fun d hd => (hdst d hd).2)]; exact h3 b, fun t ht => ?_⟩
        have hne : ∀ d, o.dst = some d → d ≠ t := fun d hd => Nat.ne_of_gt (Nat.lt_of_lt_of_le ht (hdst d hd).1)
        refine ⟨?_, by rw [put_at hne]; exact (h4 t ht).2⟩
        rw [he']
        refine Eq.trans ?_ (h4 t ht).1
        cases hd : o.dst with
        | none => rfl
        | some d => exact upd_ne _ _ (fun h => hne d hd h.symm)
      rw [hPp] at key
      unfold wpListIn
      split at key
      · rename_i hw
        rw [if_pos hw]
        exact op_in hndef (key.resolve_right fun h => hL h.2)
      · rename_i hw
        rw [if_neg hw]
        exact ⟨fun _ _ => trivial, key⟩
def IQ {X : Type} (P : PG) (n np : Nat) (enc : X → List AVal) (g0 : Ghost) (w0 : World) (e0 : Env) (J Jx : List { p : X × Array Value // VRelL g0 w0 p.2 (enc p.1) } → World → Prop) (Q : SExit → Bool → List X → Env → Prop) (x : Exit) (a : Act) (W : World) : Prop :=
  ∃ x' s p e, x = exitOf x' ∧ Q x' s p e ∧ IR P n np enc g0 w0 e0 J Jx s p e a W
theorem IQ.in {Q : SExit → Bool → List X → Env → Prop} : ¬ LetsOut (IQ P n np enc g0 w0 e0 J Jx Q) := by
  rintro ⟨a, w, x', s, p, e, hx, _⟩
  cases x' <;> cases hx
theorem itv_sound (hnp : np ≤ n) (G0 : GRel P.gl g0 w0) (F0 : ∀ b, g0.fz b → b < w0.heap.size) (D0 : ∀ t, t < np → Dat (e0 t)) (henc : ∀ x, ∀ y ∈ enc x, Scal y)
    (hJ : ∀ p W W', J p W → W.grownBy W' none → J p W') (hJx : ∀ p W W', Jx p W → W.grownBy W' none → Jx p W')
    (hY : ∀ pre x W1, J pre W1 → pre.length < N → YieldAt (FR none) 0 P.p l x.1.2 W1 fun e W' => (e = .returned (.bool true) ∧ J (pre ++ [x]) W' ∧ Kp0 g0 W1 W') ∨ (e = .returned (.bool false) ∧ Jx (pre ++ [x]) W')) :
    ∀ (c : Code) (ic : ICode), toI P ann np n c = some ic → ∀ (Q : SExit → Bool → List X → Env → Prop) (s : Bool) (p : List X) (e : Env) (a : Act) (W : World), itv P np (.prim (.func (.yield l) #[] #[])) enc N ic Q s p e → IR P n np enc g0 w0 e0 J Jx s p e a W → c.wpIn (FR none) 1 P (IQ P n np enc g0 w0 e0 J Jx Q) a W := by
  intro c
  induction c with
  | skip =>
    intro ic ht Q s p e a W hk R
    simp [toI] at ht; subst ht
    exact wpIn_skip ⟨.normal, s, p, e, rfl, hk, R⟩
  | region id ops draws =>
    intro ic ht Q s p e a W hk R
    cases draws with
    | true => simp [toI] at ht
    | false =>
      simp only [toI, Option.map_eq_some_iff] at ht
      obtain ⟨il, hil, rfl⟩ := ht
      exact wpIn_region_list (itOps_sound hnp G0 F0 D0 henc hJ hJx hY IQ.in (K := Q .normal) (fun s p e a W hk R => ⟨.normal, s, p, e, rfl, hk, R⟩) _ _ s p e a W hil hk R)
  | seq x y ihx ihy =>
    intro ic ht Q s p e a W hk R
    simp only [toI, Option.bind_eq_some_iff, Option.map_eq_some_iff] at ht
    obtain ⟨ix, hix, iy, hiy, rfl⟩ := ht
    refine wpIn_seq (wpIn_mono (ihx ix hix _ s p e a W hk R) ?_)
    rintro _ a' W' ⟨x', s', p', e', rfl, hq, R'⟩
    cases x' with
    | normal => exact ihy iy hiy Q s' p' e' a' W' hq R'
    | exit id => exact ⟨.exit id, s', p', e', rfl, hq, R'⟩
    | ret => exact ⟨.ret, s', p', e', rfl, hq, R'⟩
  | cond c x y ihx ihy =>
    intro ic ht Q s p e a W hk R
    simp only [toI, Option.bind_eq_some_iff, Option.map_eq_some_iff] at ht
    obtain ⟨sc, hsc, ix, hix, iy, hiy, rfl⟩ := ht
    obtain ⟨gs, Ws, g, p', _, S, _⟩ := R.B
    have hv := ev_sound S.E hsc
    have hk : condOn (ev e sc) (itv P np _ enc N ix Q s p e) (itv P np _ enc N iy Q s p e) := hk
    revert hk hv
    cases ev e sc <;> intro hv hk <;> try exact hk.elim
    rename_i t
    exact wpIn_cond_split hv.bool_inv (fun ht => ihx ix hix Q s p e a W (hk.1 ht) R) (fun ht => ihy iy hiy Q s p e a W (hk.2 ht) R)
  | block id c ih =>
    intro ic ht Q s p e a W hk R
    simp only [toI, Option.map_eq_some_iff] at ht
    obtain ⟨i, hi, rfl⟩ := ht
    refine wpIn_block (wpIn_mono (ih i hi (blkK id Q) s p e a W hk R) ?_)
    rintro _ a' W' ⟨x', s', p', e', rfl, hq, R'⟩
    cases x' with
    | normal => exact ⟨.normal, s', p', e', rfl, hq, R'⟩
    | ret => exact ⟨.ret, s', p', e', rfl, hq, R'⟩
    | exit j =>
      simp only [blkK] at hq
      simp only [exitOf, Exit.inBlock]
      split at hq
      · rename_i hj; rw [if_pos hj]; exact ⟨.normal, s', p', e', rfl, hq, R'⟩
      · rename_i hj; rw [if_neg hj]; exact ⟨.exit j, s', p', e', rfl, hq, R'⟩
  | loop c ih =>
    intro ic ht Q s p e a W hk R
    simp only [toI, Option.map_eq_some_iff] at ht
    obtain ⟨i, hi, rfl⟩ := ht
    obtain ⟨I, ⟨m0, h0⟩, hround⟩ := hk
    intro b k cs hro' hb hr
    have key : ∀ m s p e a W, I m s p e → IR P n np enc g0 w0 e0 J Jx s p e a W → ∃ x a' W', IQ P n np enc g0 w0 e0 J Jx Q x a' W' ∧ ArrivesIn (Machine.fenced P (FR none)) P (lone (b.atR a (.code c :: .inLoop c :: k)) cs W) b k cs x a' W' := by
      intro m
      induction m using Nat.strongRecOn with
      | _ m ihm =>
        intro s p e a W hI R
        obtain ⟨x, a₁, w₁, hq, harr⟩ := ih i hi _ s p e a W (hround m s p e hI) R b (.inLoop c :: k) cs hro' hb hr
        obtain ⟨x', s', p', e', rfl, hq, R'⟩ := hq
        cases x' with
        | normal =>
          obtain ⟨m', hlt, hI'⟩ := hq
          obtain ⟨x2, a₂, w₂, hq₂, harr₂⟩ := ihm m' hlt s' p' e' a₁ w₁ hI' R'
          exact ⟨x2, a₂, w₂, hq₂, .of_steps (StepsIn.trans harr (.one (fenced_calm hb hr rfl) stepR_inLoop)) harr₂⟩
        | exit id => exact ⟨.exit id, a₁, w₁, ⟨.exit id, s', p', e', rfl, hq, R'⟩, .pass (x := .inLoop c) rfl (fun _ _ => .inl (by simp)) harr⟩
        | ret => exact ⟨.ret, a₁, w₁, ⟨.ret, s', p', e', rfl, hq, R'⟩, .pass (x := .inLoop c) rfl (fun _ _ => .inl (by simp)) harr⟩
    obtain ⟨x, a', W', hq, harr⟩ := key m0 s p e a W h0 R
    exact ⟨x, a', W', hq, .of_steps (.one (fenced_calm hb hr rfl) stepR_loop) harr⟩
  | exit id =>
    intro ic ht Q s p e a W hk R
    simp [toI] at ht; subst ht
    exact wpIn_exit ⟨.exit id, s, p, e, rfl, hk, R⟩
  | ret =>
    intro ic ht Q s p e a W hk R
    simp [toI] at ht; subst ht
    exact wpIn_ret ⟨.ret, s, p, e, rfl, hk, R⟩
  | rangeFunc f ps asg body _ ihb => intro ic ht; simp [toI] at ht
  | scope => intro ic ht; simp [toI] at ht
  | label => intro ic ht; simp [toI] at ht
  | goto => intro ic ht; simp [toI] at ht
  | refuse => intro ic ht; simp [toI] at ht
end

/-- AN ITERATOR's CONTRACT OUT OF THE CONDITIONS OF ITS CODE. -/
theorem iterV_of_itv {X : Type} {P : PG} {ann : Ann} {k : Nat} {fn : Func} {ic : ICode} {cap : List AVal} {enc : X → List AVal} {xs : List X} {N : Nat} (hf : P.p.funcs[k]? = some fn) (hname : (fn.name == "runtime.NumGoroutine") = false)
    (ht : toIF P ann (cap.length + 1) fn = some ic) (hn : cap.length + 1 ≤ fn.ntmps) (hN : fn.ntmps ≤ 1000000) (hd : ∀ c ∈ cap, Dat c) (henc : ∀ x, ∀ y ∈ enc x, Scal y)
    (hk : ∀ l, itv P (cap.length + 1) (.prim (.func (.yield l) #[] #[])) enc N ic (endK xs) false [] (initE P.gl (.prim (.func (.yield l) #[] #[]) :: cap))) : IterV P k cap enc xs N := by
  unfold toIF at ht
  split at ht
  case isFalse => cases ht
  rename_i hres
  rw [Option.bind_eq_some_iff] at ht
  obtain ⟨c, hc, hic⟩ := ht
  refine ⟨⟨fn, hf, hname, by simp [hc]⟩, fun g w cs hfz GR V => ?_⟩
  intro l J Jx W hB hJ hJx hY h0
  let e0 := initE P.gl (.prim (.func (.yield l) #[] #[]) :: cap)
  have hkW : ∀ b, g.fz b → W.heap[b]? = w.heap[b]? := fun b hb => hB.block b (hfz b hb)
  have hb : ∀ b, g.fz b → g.bare.fz b := fun b h => h
  have hcs : cs.size = cap.length := V.1
  have hD0 : ∀ t, t < cap.length + 1 → Dat (e0 t) := by
    intro t ht
    show Dat (initE _ _ t)
    unfold initE
    rw [if_pos (by omega)]
    cases t with
    | zero => exact .prim _
    | succ t =>
      have : (AVal.prim (.func (.yield l) #[] #[]) :: cap).getD (t + 1) .dead = cap.getD t .dead := rfl
      rw [this, List.getD_eq_getElem?_getD, List.getElem?_eq_getElem (by omega)]
      exact hd _ (List.getElem_mem _)
  have hslot : ∀ t, t < 1000000 → VRel g w (((#[Value.func (.yield l) #[] #[]] ++ cs) ++ Array.replicate (fn.ntmps - (#[Value.func (.yield l) #[] #[]] ++ cs).size) undef).getD t undef) (e0 t) := by
    intro t h6
    show VRel g w _ (initE _ _ t)
    unfold initE
    rw [if_pos h6]
    cases t with
    | zero =>
      have h1 : ((#[Value.func (.yield l) #[] #[]] ++ cs) ++ Array.replicate (fn.ntmps - (#[Value.func (.yield l) #[] #[]] ++ cs).size) undef).getD 0 undef = .func (.yield l) #[] #[] := by
        rw [Array.getD_eq_getD_getElem?, Array.append_assoc, Array.getElem?_append_left (by simp)]
        rfl
      rw [h1]; exact .prim _
    | succ t =>
      by_cases ht : t < cap.length
      · have h1 : ((#[Value.func (.yield l) #[] #[]] ++ cs) ++ Array.replicate (fn.ntmps - (#[Value.func (.yield l) #[] #[]] ++ cs).size) undef).getD (t + 1) undef = cs[t]'(by omega) := by
          have ht' : t < cs.size := by omega
          rw [Array.getD_eq_getD_getElem?, Array.append_assoc, Array.getElem?_append_right (by simp), Array.getElem?_append_left (by simpa using ht')]
          simp [ht']
        rw [h1]
        have h2 : (AVal.prim (.func (.yield l) #[] #[]) :: cap).getD (t + 1) .dead = cap[t] := by
          show cap.getD t .dead = _
          rw [List.getD_eq_getElem?_getD, List.getElem?_eq_getElem ht]; rfl
        rw [h2]
        exact V.2 t _ _ (Array.getElem?_eq_getElem (by omega)) (List.getElem?_eq_getElem ht)
      · have h2 : (AVal.prim (.func (.yield l) #[] #[]) :: cap).getD (t + 1) .dead = .dead := by
          show cap.getD t .dead = _
          rw [List.getD_eq_getElem?_getD, List.getElem?_eq_none (by omega)]; rfl
        rw [h2]; exact .dead _
  have hslotW : ∀ t, t < 1000000 → VRel g.bare W (((#[Value.func (.yield l) #[] #[]] ++ cs) ++ Array.replicate (fn.ntmps - (#[Value.func (.yield l) #[] #[]] ++ cs).size) undef).getD t undef) (e0 t) := by
    intro t h6
    by_cases ht : t < cap.length + 1
    · exact (hD0 t ht).rel hb ((hslot t h6).heap hkW)
    · have : e0 t = .dead := by
        show initE _ _ t = _
        unfold initE
        rw [if_pos h6, List.getD_eq_getElem?_getD, List.getElem?_eq_none (by simp; omega)]; rfl
      rw [this]; exact .dead _
  have GRW : GRel P.gl g.bare W := fun b => ⟨(GR b).1, (GR b).1.rel hb ((GR b).2.heap hkW)⟩
  refine callsIn_of_wp hf hc trivial (wpIn_mono (itv_sound (P := P) (n := fn.ntmps) (np := cap.length + 1) (N := N) (enc := enc) (g0 := g) (w0 := w) (e0 := e0) (l := l) (J := J) (Jx := Jx) hn GR hfz hD0 henc
    (fun p W W' h hg => hJ p W W' none h hg (fun r h => by cases h)) (fun p W W' h hg => hJx p W W' none h hg (fun r h => by cases h)) (fun pre x W1 h1 h2 => hY pre x W1 h1 h2) c ic hic (endK xs) false [] e0 _ W (hk l)
    ⟨rfl, g.bare, W, g.bare, [], rfl, ⟨⟨DOK.nil _ _, ?_, hN, hslotW, fun b => ?_⟩, ⟨(fun r o hr => by cases hr), (fun r r' o o' hr => by cases hr), fun b hbz => ?_, (fun b ⟨r, hr, _⟩ => by cases hr)⟩, GS.refl _ _, fun d hd => by cases hd⟩, GRW, rfl, (fun h => by cases h), fun _ => ⟨h0, fun b hb => ⟨hb, hkW b hb⟩, fun b => ?_, fun t ht => ⟨rfl, hslot t (by omega)⟩⟩⟩) ?_) rfl
  · simp only [Array.size_append, Array.size_replicate]
    have : (#[Value.func (.yield l) #[] #[]] : Array Value).size = 1 := rfl
    omega
  · show VRel _ _ _ (initE _ _ _)
    rw [initE, if_neg (by omega), Nat.add_sub_cancel_left]; exact (GRW b).2
  · exact Nat.lt_of_lt_of_le (hfz b hbz) hB.size
  · show initE _ _ _ = _
    rw [initE, if_neg (by omega), Nat.add_sub_cancel_left]
  · rintro x a' W' ⟨x', s, p, e, rfl, hq, hD, gs, Ws, g', p', hnx, S, _, hp, hX, hF⟩
    have hg := grown_of S.S hnx
    have fin : (if s = true then p <+: xs else p = xs) → ((∃ ys : List { p : X × Array Value // VRelL g w p.2 (enc p.1) }, ys.map (fun q => q.1.1) = xs ∧ J ys W') ∨ ∃ pre : List { p : X × Array Value // VRelL g w p.2 (enc p.1) }, pre.map (fun q => q.1.1) <+: xs ∧ Jx pre W') := by
      intro hh
      cases s with
      | true => exact .inr ⟨p', by rw [hp]; simpa using hh, hJx _ _ _ none (hX rfl) hg (fun r h => by cases h)⟩
      | false => exact .inl ⟨p', by rw [hp]; simpa using hh, hJ _ _ _ none (hF rfl).1 hg (fun r h => by cases h)⟩
    cases x' with
    | normal => exact ⟨hD, _, results_none hres _ _ _, ⟨_, rfl⟩, fin hq⟩
    | ret => exact ⟨hD, _, results_none hres _ _ _, ⟨_, rfl⟩, fin hq⟩
    | exit id => exact hq.elim

/-! ## Rules -/
section
variable {X : Type} {P : PG} {np : Nat} {yv : AVal} {enc : X → List AVal} {N : Nat} {Q : SExit → Bool → List X → Env → Prop} {s : Bool} {p : List X} {e : Env} {K : Bool → List X → Env → Prop}
theorem itv_skip : itv P np yv enc N .skip Q s p e = Q .normal s p e := rfl
theorem itv_reg (ops : List IOp) : itv P np yv enc N (.reg ops) Q s p e = itOps P np yv enc N ops s p e (Q .normal) := rfl
theorem itv_seq (a b : ICode) : itv P np yv enc N (.seq a b) Q s p e = itv P np yv enc N a (seqK (itv P np yv enc N b Q) Q) s p e := rfl
theorem itv_cond (x : SX) (a b : ICode) : itv P np yv enc N (.cond x a b) Q s p e = condW (ev e x) (itv P np yv enc N a Q s p e) (itv P np yv enc N b Q s p e) .mk := rfl
theorem itv_block (id : Nat) (c : ICode) : itv P np yv enc N (.block id c) Q s p e = itv P np yv enc N c (blkK id Q) s p e := rfl
theorem itv_loop (c : ICode) : itv P np yv enc N (.loop c) Q s p e = itLoop (itv P np yv enc N c) Q s p e := rfl
theorem itv_exit (id : Nat) : itv P np yv enc N (.exit id) Q s p e = Q (.exit id) s p e := rfl
theorem itv_ret : itv P np yv enc N .ret Q s p e = Q .ret s p e := rfl
theorem itOps_nil : itOps P np yv enc N [] s p e K = K s p e := rfl
theorem itOps_op (o : SOp) (r : List IOp) : itOps P np yv enc N (.op o :: r) s p e K = Hd (vcV (PS P s) o e (fun _ => none)) (fun v _ => itOps P np yv enc N r s p (setD e o.dst v) K) .mk := rfl
theorem itOps_yld (d : Option Nat) (f : SX) (as : List SX) (r : List IOp) : itOps P np yv enc N (.yld d f as :: r) s p e K = (s = false ∧ p.length < N ∧ ev e f = yv ∧ ∃ x, as.map (ev e) = enc x ∧
      itOps P np yv enc N r false (p ++ [x]) (setD (aft np e) d (.bool true)) K ∧ itOps P np yv enc N r true (p ++ [x]) (setD (aftX e) d (.bool false)) K) := rfl
theorem PS_false : PS P false = P := rfl
variable {M : Bool → List X → Env → Prop}
theorem seqK_normal : seqK M Q .normal s p e = M s p e := rfl
theorem seqK_exit (id : Nat) : seqK M Q (.exit id) s p e = Q (.exit id) s p e := rfl
theorem seqK_ret : seqK M Q .ret s p e = Q .ret s p e := rfl
theorem blkK_normal (id : Nat) : blkK id Q .normal s p e = Q .normal s p e := rfl
theorem blkK_ret (id : Nat) : blkK id Q .ret s p e = Q .ret s p e := rfl
theorem blkK_exit (id j : Nat) : blkK id Q (.exit j) s p e = if j = id then Q .normal s p e else Q (.exit j) s p e := rfl
theorem endK_normal (xs : List X) : endK xs .normal s p e = if s = true then p <+: xs else p = xs := rfl
theorem endK_ret (xs : List X) : endK xs .ret s p e = if s = true then p <+: xs else p = xs := rfl
theorem itLoop.intro {b : (SExit → Bool → List X → Env → Prop) → Bool → List X → Env → Prop} (I : Nat → Bool → List X → Env → Prop) (m : Nat) (h0 : I m s p e) (hr : ∀ m s p e, I m s p e → b (seqK (fun s p e => ∃ m', m' < m ∧ I m' s p e) Q) s p e) : itLoop b Q s p e := ⟨I, ⟨m, h0⟩, hr⟩
end
theorem aft_upd (np : Nat) (e : Env) (d : Nat) (v : AVal) (t : Nat) (h : np ≤ t) (h6 : t < 1000000) : aft np (upd e d v) t = if t = d then keepS v else aft np e t := by
  unfold aft upd
  split
  · omega
  · split <;> rfl
theorem aftX_upd (e : Env) (d : Nat) (v : AVal) (t : Nat) : aftX (upd e d v) t = if t = d then keepS v else aftX e t := by
  unfold aftX upd
  split <;> rfl
theorem aft_at (np : Nat) (e : Env) (t : Nat) : aft np e t = if t < np ∨ 1000000 ≤ t then e t else keepS (e t) := rfl
theorem aft_lo {np : Nat} {e : Env} {t : Nat} (h : t < np) : aft np e t = e t := if_pos (.inl h)
theorem aft_hi {np : Nat} {e : Env} {t : Nat} (h : np ≤ t) (h6 : t < 1000000) : aft np e t = keepS (e t) := if_neg (by omega)
theorem aftX_at (e : Env) (t : Nat) : aftX e t = keepS (e t) := rfl
theorem keepS_int (k : IntKind) (n : Int) : keepS (.int k n) = .int k n := rfl
theorem keepS_bool (b : Bool) : keepS (.bool b) = .bool b := rfl
theorem keepS_str (l : List UInt8) : keepS (.str l) = .str l := rfl
def IT1 := And.intro (@itv_skip) (And.intro (@itv_reg) (And.intro (@itv_seq) (And.intro (@itv_cond) (And.intro (@itv_block) (And.intro (@itv_loop) (And.intro (@itv_exit) (And.intro (@itv_ret) (@itOps_nil))))))))
def IT2 := And.intro (@itOps_op) (And.intro (@itOps_yld) (And.intro (@PS_false) (And.intro (@seqK_normal) (And.intro (@seqK_exit) (And.intro (@seqK_ret) (And.intro (@blkK_normal) (And.intro (@blkK_ret) (@blkK_exit))))))))
def IT3 := And.intro (@endK_normal) (And.intro (@endK_ret) (And.intro (@keepS_int) (And.intro (@keepS_bool) (And.intro (@keepS_str) (@aftX_at)))))
end Go.Sim
