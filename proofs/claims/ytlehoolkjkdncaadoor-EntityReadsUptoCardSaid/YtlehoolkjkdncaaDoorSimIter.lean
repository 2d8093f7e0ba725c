/- Iterators that have no memory of their own. -/
import Derived.Test.YtlehoolkjkdncaaDoorSimLaw
namespace Go.Sim
open Go

theorem Dat.rel {g g' : Ghost} {w : World} (hf : ∀ b, g.fz b → g'.fz b) {a : AVal} (hd : Dat a) : ∀ {v : Value}, VRel g w v a → VRel g' w v a := by
  induction hd with
  | prim u => intro v hv; cases hv; exact .prim _
  | int k n => intro v hv; cases hv; exact .int _ _
  | bool b => intro v hv; cases hv; exact .bool _
  | str l => intro v hv; rw [hv.str_inv']; exact VRel.str' l
  | agg cs h ih =>
    intro v hv
    obtain ⟨vs, rfl, hl, h1, h2⟩ := hv.agg_inv
    exact .agg vs cs hl h1 fun j u c hu hc => ih c (List.mem_of_getElem? hc) (h2 j u c hu hc)
  | slc es h ih =>
    intro v hv
    cases hv with
    | slc0 A c => exact .slc0 A c
    | slc ad n c sz _ us hn hc hsz hs hfz h1 h2 h3 => exact .slc ad n c sz es us hn hc hsz hs (hf _ hfz) h1 h2 fun i j e x he hx => ih e (List.mem_of_getElem? he) x (List.mem_of_getElem? hx) (h3 i j e x he hx)
  | emp => intro v hv; cases hv with
    | emp0 => exact .emp0
    | empS ad hs hfz hc => exact .empS ad hs (hf _ hfz) hc
  | pin cs h ih =>
    intro v hv
    obtain ⟨ad, rfl, hs, hfz, hc⟩ := hv.pin_inv
    exact VRel.pin_mk hs (hf _ hfz) fun j b hb => by
      obtain ⟨u, h1, h2, h3⟩ := hc j b hb
      exact ⟨u, h1, h2, ih b (List.mem_of_getElem? hb) h3⟩
  | tup cs h ih =>
    intro v hv
    obtain ⟨vs, rfl, hl, h2⟩ := hv.tup_inv
    exact .tup vs cs hl fun j u c hu hc => ih c (List.mem_of_getElem? hc) (h2 j u c hu hc)
  | dead => intro v hv; exact .dead v

/-- the frame of an iterator -/
structure IS (P : PG) (n : Nat) (e : Env) (g : Ghost) (W : World) (a : Act) : Prop where
  E : ERel n e g W a
  D : a.defers = []
  N : g.nxt = 0
  F : ∀ b, g.fz b → b < W.heap.size
  G : GRel P.gl g W
theorem IS.H {P : PG} {n : Nat} {e : Env} {g : Ghost} {W : World} {a : Act} (s : IS P n e g W a) : HRel (fun _ => none) g W :=
  ⟨(fun r o hr => by cases hr), (fun r r' o o' hr => by cases hr), s.F, (fun b ⟨r, hr, _⟩ => by rw [s.N] at hr; omega)⟩
def Ghost.bare (g : Ghost) : Ghost := { g with nxt := 0 }
/-- what follows a piece: the slots that are named no more are forgotten -/
structure Fgt (e e' : Env) : Prop where
  lo : ∀ t, t < 1000000 → e' t = .dead ∨ (e' t = e t ∧ Dat (e t))
  hi : ∀ t, 1000000 ≤ t → e' t = e t ∧ Dat (e t)

section
variable {P : PG} {n : Nat} {ann : Ann} {W : World} {g : Ghost} {a : Act} {e : Env}
theorem IS.next {a' : Act} {W' : World} {e1 e2 : Env} {h1 : Heap} {g1 : Ghost} (s : IS P n e g W a) (S : St n g W e1 h1 g1 a' W') (hd : a'.defers = []) (hf : Fgt e1 e2) : IS P n e2 g1.bare W' a' ∧ W.grownBy W' none ∧ ∀ b, g.fz b → g1.bare.fz b := by
  have hb : ∀ b, g1.fz b → g1.bare.fz b := fun b h => h
  refine ⟨⟨⟨by rw [hd]; exact DOK.nil _ _, S.E.size, S.E.bnd, fun t ht => ?_, fun b => ?_⟩, hd, rfl, fun b h => S.H.fz b h, fun b => ?_⟩, ⟨S.S.os, S.S.tape, S.S.output, S.S.size, fun k hk _ => S.S.own k hk (.inl fun ⟨r, hr, _⟩ => by rw [s.N] at hr; omega)⟩, S.S.fz⟩
  · rcases hf.lo t ht with h | ⟨h, hdat⟩
    · rw [h]; exact .dead _
    · rw [h]; exact hdat.rel hb (S.E.slot t ht)
  · obtain ⟨h, hdat⟩ := hf.hi (1000000 + b) (by omega)
    rw [h]; exact hdat.rel hb (S.E.glo b)
  · have := (s.G.step S.S.toGStep) b
    exact ⟨this.1, this.1.rel hb this.2⟩
theorem ops_in {ro : Option Nat} {m : Nat} {ops : Array Oper} {g0 : Ghost} {w0 : World} (GR : GRel P.gl g0 w0) {K : Env → Heap → Prop} {Q : Exit → Act → World → Prop} (hL : ¬ LetsOut Q) {rest : List Oper} (hQ : ∀ a w, Lift n g0 w0 K a w → wpListIn (FR ro) m P ops Q rest a w) :
    ∀ (l : List Oper) (sl : List SOp) (e : Env) (h : Heap) (g : Ghost) (a : Act) (w : World), toSOps P ann n ops l = some sl → vcOps P sl e h K → St n g0 w0 e h g a w → wpListIn (FR ro) m P ops Q (l ++ rest) a w
  | [], sl, e, h, g, a, w, ht, hk, T => by
    simp [toSOps] at ht; subst ht
    exact hQ a w ⟨e, h, g, hk, T⟩
  | o :: r, sl, e, h, g, a, w, ht, hk, T => by
    have hd : ∀ c, o.op ≠ .defer c := toSOps_defer ht o List.mem_cons_self
    simp only [toSOps, Option.bind_eq_some_iff, Option.map_eq_some_iff] at ht
    obtain ⟨s, hs, sr, hsr, rfl⟩ := ht
    have key := vcOp_sound (Q := Q) hs hk GR T fun a' w' ⟨e', h', g', k', T'⟩ => ops_in GR hL hQ r sr e' h' g' a' w' hsr k' T'
    rw [List.cons_append]
    unfold wpListIn
    split at key
    · rename_i hw
      rw [if_pos hw]
      exact op_in hd (key.resolve_right fun h => hL h.2)
    · rename_i hw
      rw [if_neg hw]
      exact ⟨fun _ _ => trivial, key⟩
/-- the call of yield -/
theorem yield_op {o : Oper} {c : Call} {f : Operand} {l m : Nat} {next : Act → World → Prop} {Q : Exit → Act → World → Prop} {A B : World → Prop} (ho : o.op = .call c) (hc : c.callee = .value f) (hf : a.eval f = .func (.yield l) #[] #[])
    (hy : YieldAt (FR none) m P l (c.args.map a.eval) W fun e W' => (e = .returned (.bool true) ∧ A W') ∨ (e = .returned (.bool false) ∧ B W')) (hA : ∀ W', A W' → next (a.put o.dst (.bool true)) W') (hB : ∀ W', B W' → next (a.put o.dst (.bool false)) W') :
    o.wpIn (FR none) (m + 1) P a W next Q := by
  obtain ⟨fn, tmps, assign, body, hrun, hR⟩ := hy
  refine ⟨fun _ _ => trivial, ?_⟩
  have e : o.semAt (FR none).round a.eval = execOp a.eval o := rfl
  have hex : (execOp a.eval o).run P W = .ok (.round l fn tmps assign body) W := by
    simp only [execOp, ho, resolve, hc, hf, Deferred.ofValue, Sem.run_bind, Sem.run_pure, Result.andThen_ok, invoke]
    simpa using hrun
  rw [e, hex]
  refine ⟨(fun h => by cases h), hR.mono fun e' W' hh => ?_⟩
  rcases hh with ⟨rfl, h⟩ | ⟨rfl, h⟩
  · exact hA W' h
  · exact hB W' h
end
end Go.Sim
