/- The conditions of code. -/
import Derived.Test.YtmfechcelhchcaaDoorSimCode
namespace Go.Sim
open Go

structure SOp where
  dst : Option Nat
  si : SI
  guard : Option (Nat × Bool)

inductive SExit | normal | exit (id : Nat) | ret

inductive SCode : Type
  | skip
  | reg (ops : List SOp)
  | dreg (ops : List (SOp × Option (List Nat)))
  | seq (a b : SCode)
  | cond (x : SX) (a b : SCode)
  | block (id : Nat) (c : SCode)
  | loop (c : SCode)
  | exit (id : Nat)
  | ret
  | range (f : SX) (ps : List Nat) (mv : List (Nat × Nat)) (body : SCode)

/-- is a guarded operation wanted? (the tuple of nothing: its guard was not wanted itself) -/
def want (v : AVal) (b : Bool) : Option Bool :=
  match v with
  | .bool t => some (t == b)
  | .tup _ => some false
  | _ => none
def gateP (v : AVal) (b : Bool) (ok : Prop) (k : Prop) : Prop :=
  match want v b with
  | some t => (t = true → ok) ∧ k
  | none => False
def gateV (v : AVal) (b : Bool) (r : AVal) : AVal :=
  match want v b with
  | some t => if t = true then r else .tup []
  | none => .tup []
def gateE (v : AVal) (b : Bool) (k1 k2 : Prop) : Prop :=
  match want v b with
  | some t => (t = true → k1) ∧ (t = false → k2)
  | none => False

def SI.gated : SI → Bool
  | .bldF .. => false
  | si => si.stable
def vcG (P : PG) (s : Nat) (b : Bool) (si : SI) (e : Env) (h : Heap) (K : AVal → Heap → Prop) : Prop :=
  match si with
  | .pcall f args => ∃ v, gateP (e s) b (PCalls P f (args.map (ev e)) v) (K (gateV (e s) b v) h)
  | si => if si.gated = true then gateP (e s) b (fok si e h) (K (gateV (e s) b (fop si e h)) h)
    else gateE (e s) b (vcI P si e h K) (K (.tup []) h)
def vcV (P : PG) (op : SOp) (e : Env) (h : Heap) (K : AVal → Heap → Prop) : Prop :=
  match op with
  | ⟨_, si, none⟩ => vcI P si e h K
  | ⟨_, si, some (s, b)⟩ => vcG P s b si e h K
def vcOp (P : PG) (op : SOp) (e : Env) (h : Heap) (K : Env → Heap → Prop) : Prop :=
  vcV P op e h fun r h' => K (setD e op.dst r) h'

def vcOps (P : PG) : List SOp → Env → Heap → (Env → Heap → Prop) → Prop
  | [], e, h, K => K e h
  | op :: r, e, h, K => vcOp P op e h fun e' h' => vcOps P r e' h' K

def SX.rd : SX → List Nat
  | .t n => [n]
  | .c _ => []
def rdO : Option SX → List Nat
  | some x => x.rd
  | none => []
def rdL : List SX → List Nat
  | [] => []
  | x :: r => x.rd ++ rdL r
def rdP : List (Nat × Nat × SX) → List Nat
  | [] => []
  | p :: r => p.2.2.rd ++ rdP r
def SI.rd : SI → List Nat
  | .mv x => x.rd
  | .pick c a b => c.rd ++ (a.rd ++ b.rd)
  | .bin _ x y => x.rd ++ y.rd
  | .eqs _ _ x y => x.rd ++ y.rd
  | .eqb _ x y => x.rd ++ y.rd
  | .un _ x => x.rd
  | .cvi _ x => x.rd
  | .idc x => x.rd
  | .fld _ _ _ x => x.rd
  | .fldA _ x => x.rd
  | .idxA _ x i => x.rd ++ i.rd
  | .idxS x i => x.rd ++ i.rd
  | .ld _ _ x => x.rd
  | .slS x lo hi => x.rd ++ (rdO lo ++ rdO hi)
  | .slA _ x lo hi => x.rd ++ (rdO lo ++ rdO hi)
  | .slM _ x lo hi mx => x.rd ++ (rdO lo ++ (rdO hi ++ rdO mx))
  | .ext x _ => x.rd
  | .bld _ parts => rdP parts
  | .bldF _ _ parts => rdL parts
  | .len x => x.rd
  | .lenS x => x.rd
  | .min2 x y => x.rd ++ y.rd
  | .max2 x y => x.rd ++ y.rd
  | .mkf _ a b => rdL a ++ rdL b
  | .isnil _ _ x => x.rd
  | .bldR _ _ parts => rdL parts
  | .box _ _ x => x.rd
  | .boxF _ _ x => x.rd
  | .new _ _ _ => []
  | .newnil _ _ => []
  | .st _ x v => x.rd ++ v.rd
  | .app _ _ _ x y => x.rd ++ y.rd
  | .appS _ _ x y => x.rd ++ y.rd
  | .appIn _ _ x y => x.rd ++ y.rd
  | .slX _ x lo hi => x.rd ++ (rdO lo ++ rdO hi)
  | .mks _ _ _ _ n c => n.rd ++ c.rd
  | .copy _ x y => x.rd ++ y.rd
  | .clear _ _ x => x.rd
  | .call f args => f.rd ++ rdL args
  | .pcall _ args => rdL args
  | .b2s x => x.rd
  | .usd x => x.rd
  | .ustr _ x y => x.rd ++ y.rd
def SOp.rd (op : SOp) : List Nat := op.si.rd ++ (match op.guard with | some (s, _) => [s] | none => [])

/-- in a region that draws its order: a root that was read stays as it was -/
def rootsOf (op : SOp) (e : Env) : List Nat :=
  match op.si with
  | .ld _ _ x => match deVp (ev e x) with
    | .ptr r _ _ => [r]
    | _ => []
  | _ => []
def rsOf (op : SOp) (e : Env) : List (Nat × Nat) := (rootsOf op e).map fun t => (op.dst.getD 0, t)
def keepR (rd : List Nat) (rs : List (Nat × Nat)) (h h' : Heap) : Prop := ∀ p ∈ rs, rd.contains p.1 = false → h' p.2 = h p.2
def dropR (rd : List Nat) (rs : List (Nat × Nat)) : List (Nat × Nat) := rs.filter fun p => !rd.contains p.1
def vcD (P : PG) : List (SOp × Option (List Nat)) → List (Nat × Nat) → Env → Heap → (Env → Heap → Prop) → Prop
  | [], _, e, h, K => K e h
  | (op, none) :: r, rs, e, h, K => vcOp P op e h fun e' h' => vcD P r (rsOf op e ++ rs) e' h' K
  | (op, some an) :: r, rs, e, h, K => vcOp P op e h fun e' h' => keepR (op.rd ++ an) rs h h' ∧ vcD P r (dropR (op.rd ++ an) rs) e' h' K

def condOn (v : AVal) (A B : Prop) : Prop :=
  match v with
  | .bool t => (t = true → A) ∧ (t = false → B)
  | _ => False

def thenK (N : Env → Heap → Prop) (Q : SExit → Env → Heap → Prop) : SExit → Env → Heap → Prop
  | .normal, e, h => N e h
  | x, e, h => Q x e h
def blockK (id : Nat) (Q : SExit → Env → Heap → Prop) : SExit → Env → Heap → Prop
  | .exit j, e, h => if j = id then Q .normal e h else Q (.exit j) e h
  | x, e, h => Q x e h

/-- a loop: what holds at its head, with a measure -/
def LoopVC (body : (SExit → Env → Heap → Prop) → Env → Heap → Prop) (Q : SExit → Env → Heap → Prop) (e : Env) (h : Heap) : Prop :=
  ∃ I : Nat → Env → Heap → Prop, (∃ m, I m e h) ∧ ∀ m e h, I m e h → body (thenK (fun e' h' => ∃ m', m' < m ∧ I m' e' h') Q) e h

/-- AN ITERATOR: the function k, with what it has captured, hands its yield the values of xs, one after the other, till that says no. -/
def IterV (P : PG) (k : Nat) (cap : List AVal) {X : Type} (enc : X → List AVal) (xs : List X) (N : Nat) : Prop :=
  Callable P.p k ∧ ∀ (g : Ghost) (w : World) (cs : Array Value), (∀ b, g.fz b → b < w.heap.size) → GRel P.gl g w → VRelL g w cs cap →
    SeqStopsK Fence.wide 1 P.p k cs (fun p : { p : X × Array Value // VRelL g w p.2 (enc p.1) } => p.1.2) (fun W W' => ∀ b, g.fz b → W'.heap[b]? = W.heap[b]?)
      (fun l => l.map (fun p => p.1.1) = xs) (fun l => l.map (fun p => p.1.1) <+: xs) N w
def setPs (e : Env) : List Nat → List AVal → Env
  | p :: ps, v :: vs => setPs (upd e p v) ps vs
  | _, _ => e
def mvs (e : Env) : List (Nat × Nat) → Env
  | (d, s) :: r => mvs (upd e d (e s)) r
  | [] => e
def roundK {X : Type} (I : List X → Heap → Prop) (Ix : SExit → List X → Heap → Prop) (pre : List X) : SExit → Env → Heap → Prop
  | .normal, _, h => I pre h
  | ex, _, h => Ix ex pre h
def RangeVC (P : PG) (f : SX) (ps : List Nat) (mv : List (Nat × Nat)) (vb : (SExit → Env → Heap → Prop) → Env → Heap → Prop) (Q : SExit → Env → Heap → Prop) (e : Env) (h : Heap) : Prop :=
  ∃ (X : Type) (enc : X → List AVal) (xs : List X) (N k : Nat) (cap : List AVal), ev e f = .fn k [] cap ∧ IterV P k cap enc xs N ∧ (∀ x, (enc x).length = ps.length) ∧
    ∃ (I : List X → Heap → Prop) (Ix : SExit → List X → Heap → Prop), I [] h ∧ (∀ pre x h', I pre h' → pre.length < N → vb (roundK I Ix (pre ++ [x])) (mvs (setPs e ps (enc x)) mv) h') ∧
      (∀ h', I xs h' → Q .normal e h') ∧ (∀ ex pre h', ex ≠ .normal → pre <+: xs → Ix ex pre h' → Q ex e h')
def vc (P : PG) : SCode → (SExit → Env → Heap → Prop) → Env → Heap → Prop
  | .skip, Q, e, h => Q .normal e h
  | .reg ops, Q, e, h => vcOps P ops e h (Q .normal)
  | .dreg ops, Q, e, h => vcD P ops [] e h (Q .normal)
  | .seq a b, Q, e, h => vc P a (thenK (vc P b Q) Q) e h
  | .cond x a b, Q, e, h => condOn (ev e x) (vc P a Q e h) (vc P b Q e h)
  | .block id c, Q, e, h => vc P c (blockK id Q) e h
  | .loop c, Q, e, h => LoopVC (vc P c) Q e h
  | .exit id, Q, e, h => Q (.exit id) e h
  | .ret, Q, e, h => Q .ret e h
  | .range f ps mv b, Q, e, h => RangeVC P f ps mv (vc P b) Q e h

/-! ## From the program -/
def dstOK (n : Nat) : Option Nat → Bool
  | some d => decide (d < n)
  | none => true
def toSOp (P : Program) (ann : Ann) (n : Nat) (ops : Array Oper) (o : Oper) : Option SOp :=
  (toSI P ann o).bind fun si =>
    if dstOK n o.dst then
      match o.guard with
      | none => some ⟨o.dst, si, none⟩
      | some (j, b) => (ops[j]?.bind (·.dst)).bind fun s => if s < 1000000 then some ⟨o.dst, si, some (s, b)⟩ else none
    else none
def toSOps (P : Program) (ann : Ann) (n : Nat) (ops : Array Oper) : List Oper → Option (List SOp)
  | [] => some []
  | o :: r => (toSOp P ann n ops o).bind fun s => (toSOps P ann n ops r).map (s :: ·)

section
variable {P : PG} {a : Act} {w : World} {g : Ghost} {h : Heap} {n : Nat} {e : Env}

/-- the marks that the frame bears are its own -/
def MK (w0 : World) (a : Act) : Prop := ∀ d ∈ a.defers, ∀ D, d.target = .collected D → w0.heap.size ≤ D
theorem put_defers (a : Act) (d : Option Nat) (v : Value) : (a.put d v).defers = a.defers := by cases d <;> rfl
theorem MK.put {w0 : World} {a : Act} (h : MK w0 a) (d : Option Nat) (v : Value) : MK w0 (a.put d v) := by unfold MK; rw [put_defers]; exact h
/-- the state of the machine stands for (e, h), and has come from (g0, w0) -/
structure St (n : Nat) (g0 : Ghost) (w0 : World) (e : Env) (h : Heap) (g : Ghost) (a : Act) (w : World) : Prop where
  E : ERel n e g w a
  H : HRel h g w
  S : GS g0 w0 g w
  M : MK w0 a
/-- a condition on (e, h), of the machine's state -/
def Lift (n : Nat) (g0 : Ghost) (w0 : World) (K : Env → Heap → Prop) (a : Act) (w : World) : Prop := ∃ e h g, K e h ∧ St n g0 w0 e h g a w

theorem yielded_bool {ops : Array Oper} {tmps : Array Value} {j s : Nat} {t : Bool} (hj : ops[j]?.bind (·.dst) = some s) (hv : tmps.getD s undef = .bool t) : yielded ops tmps j = some t := by
  unfold yielded
  rw [hj]
  simp only [Option.bind_some]
  rw [Array.getD_eq_getD_getElem?] at hv
  cases hs : tmps[s]? with
  | none => rw [hs] at hv; simp [undef] at hv
  | some v => rw [hs] at hv; simp at hv; subst hv; rfl

theorem gateP_out {v : AVal} {b : Bool} {ok k : Prop} (hk : gateP v b ok k) : ∃ t, want v b = some t ∧ (t = true → ok) ∧ k := by
  unfold gateP at hk
  split at hk
  · rename_i t ht; exact ⟨t, ht, hk⟩
  · exact hk.elim
theorem gateE_out {v : AVal} {b : Bool} {k1 k2 : Prop} (hk : gateE v b k1 k2) : ∃ t, want v b = some t ∧ (t = true → k1) ∧ (t = false → k2) := by
  unfold gateE at hk
  split at hk
  · rename_i t ht; exact ⟨t, ht, hk⟩
  · exact hk.elim
theorem gateP_w {v : AVal} {b t : Bool} {ok k : Prop} (hw : want v b = some t) : gateP v b ok k = ((t = true → ok) ∧ k) := by unfold gateP; rw [hw]
theorem gateE_w {v : AVal} {b t : Bool} {k1 k2 : Prop} (hw : want v b = some t) : gateE v b k1 k2 = ((t = true → k1) ∧ (t = false → k2)) := by unfold gateE; rw [hw]
theorem gateV_w {v : AVal} {b t : Bool} {r : AVal} (hw : want v b = some t) : gateV v b r = if t = true then r else .tup [] := by unfold gateV; rw [hw]
theorem want_off {ops : Array Oper} {tmps : Array Value} {j s : Nat} {b : Bool} {v : AVal} (hj : ops[j]?.bind (·.dst) = some s) (hv : VRel g w (tmps.getD s undef) v) (hw : want v b = some false) : yielded ops tmps j ≠ some b := by
  unfold want at hw
  split at hw
  · rename_i t
    rw [yielded_bool hj hv.bool_inv]
    intro h; cases h; simp at hw
  · obtain ⟨vs, he, _⟩ := hv.tup_inv
    unfold yielded
    rw [hj]
    simp only [Option.bind_some]
    rw [Array.getD_eq_getD_getElem?] at he
    cases hs : tmps[s]? with
    | none => simp
    | some v => rw [hs] at he; simp at he; subst he; simp
  · cases hw
theorem want_on {ops : Array Oper} {tmps : Array Value} {j s : Nat} {b : Bool} {v : AVal} (hj : ops[j]?.bind (·.dst) = some s) (hv : VRel g w (tmps.getD s undef) v) (hw : want v b = some true) : yielded ops tmps j = some b := by
  unfold want at hw
  split at hw
  · rename_i t
    rw [yielded_bool hj hv.bool_inv]
    simpa using hw
  · cases hw
  · cases hw
theorem dstOK_out {d : Option Nat} (hd : dstOK n d = true) : ∀ x, d = some x → x < n := by
  intro x hx; subst hx; simpa [dstOK] using hd

/-- stable operations are what vcI says of them -/
theorem stable_vcI {si : SI} (hs : si.gated = true) {K : AVal → Heap → Prop} (h1 : fok si e h) (h2 : K (fop si e h) h) : vcI P si e h K := by
  cases si <;> first | (cases hs; done) | exact ⟨h1, h2⟩

theorem vcOp_soundS {ann : Ann} {ops : Array Oper} {o : Oper} {op : SOp} (ht : toSOp P ann n ops o = some op) {K : Env → Heap → Prop} (hk : vcOp P op e h K) {g0 : Ghost} {w0 : World} (GR : GRel P.gl g0 w0) (T : St n g0 w0 e h g a w)
    {next : Act → World → Prop} {Q : Exit → Act → World → Prop} (hn : ∀ a' w', (∃ e' h' g' v, K e' h' ∧ St n g0 w0 e' h' g' a' w' ∧ GS g w g' w' ∧ a' = a.put o.dst v) → next a' w') :
    if Region.wanted o (yielded ops a.tmps) then o.wp P a w next Q ∨ (o.asks P a w ∧ LetsOut Q) else next (a.put o.dst undef) w := by
  unfold toSOp at ht
  simp only [Option.bind_eq_some_iff] at ht
  obtain ⟨si, hsi, ht⟩ := ht
  split at ht
  · rename_i hd
    have hd := dstOK_out hd
    have run : ∀ {K' : AVal → Heap → Prop}, vcI P si e h K' → (∀ r h', K' r h' → K (setD e o.dst r) h') → o.wp P a w next Q := by
      intro K' hv hK'
      refine vcI_sound hsi hv T.E T.H (GR.step T.S) fun v w' g' r h' S' H' V' k' => hn _ _ ⟨_, h', g', v, hK' r h' k', ⟨(T.E.step S').put hd V', H', T.S.trans S', T.M.put _ _⟩, S', rfl⟩
    split at ht
    · rename_i hg
      cases ht
      have hw : Region.wanted o (yielded ops a.tmps) = true := by simp [Region.wanted, hg]
      rw [if_pos hw]
      exact .inl (run hk fun _ _ k => k)
    · rename_i j b hg
      rw [Option.bind_eq_some_iff] at ht
      obtain ⟨s, hs, ht⟩ := ht
      split at ht
      case isFalse => cases ht
      rename_i h6
      cases ht
      have skip : want (e s) b = some false → K (setD e o.dst (.tup [])) h → (if Region.wanted o (yielded ops a.tmps) then o.wp P a w next Q ∨ (o.asks P a w ∧ LetsOut Q) else next (a.put o.dst undef) w) := by
        intro het hK
        have hy := want_off hs (T.E.slot s h6) het
        rw [if_neg (by simp [Region.wanted, hg, hy])]
        exact hn _ _ ⟨_, h, g, undef, hK, ⟨T.E.put hd (.tup #[] [] rfl (by simp)), T.H, T.S, T.M.put _ _⟩, GS.refl g w, rfl⟩
      have go : want (e s) b = some true → o.wp P a w next Q → (if Region.wanted o (yielded ops a.tmps) then o.wp P a w next Q ∨ (o.asks P a w ∧ LetsOut Q) else next (a.put o.dst undef) w) := by
        intro het hwp
        have hy := want_on hs (T.E.slot s h6) het
        rw [if_pos (by simp [Region.wanted, hg, hy])]
        exact .inl hwp
      have hk : vcG P s b si e h (fun r h' => K (setD e o.dst r) h') := hk
      unfold vcG at hk
      split at hk
      · rename_i f args
        obtain ⟨v, hk⟩ := hk
        obtain ⟨t, het, h1, h2⟩ := gateP_out hk
        rw [gateV_w het] at h2
        cases t with
        | true => exact go het (run (K' := fun r h' => r = v ∧ h' = h) ⟨v, h1 rfl, rfl, rfl⟩ (by rintro r h' ⟨rfl, rfl⟩; exact h2))
        | false => exact skip het h2
      · split at hk
        · rename_i hst
          obtain ⟨t, het, h1, h2⟩ := gateP_out hk
          rw [gateV_w het] at h2
          cases t with
          | true => exact go het (run (K' := fun r h' => r = fop si e h ∧ h' = h) (stable_vcI hst (h1 rfl) ⟨rfl, rfl⟩) (by rintro r h' ⟨rfl, rfl⟩; exact h2))
          | false => exact skip het h2
        · obtain ⟨t, het, h1, h2⟩ := gateE_out hk
          cases t with
          | true => exact go het (run (h1 rfl) fun _ _ k => k)
          | false => exact skip het (h2 rfl)
  · cases ht

theorem vcOp_sound {ann : Ann} {ops : Array Oper} {o : Oper} {op : SOp} (ht : toSOp P ann n ops o = some op) {K : Env → Heap → Prop} (hk : vcOp P op e h K) {g0 : Ghost} {w0 : World} (GR : GRel P.gl g0 w0) (T : St n g0 w0 e h g a w)
    {next : Act → World → Prop} {Q : Exit → Act → World → Prop} (hn : ∀ a' w', Lift n g0 w0 K a' w' → next a' w') :
    if Region.wanted o (yielded ops a.tmps) then o.wp P a w next Q ∨ (o.asks P a w ∧ LetsOut Q) else next (a.put o.dst undef) w :=
  vcOp_soundS ht hk GR T fun a' w' ⟨e', h', g', _, k, T', _, _⟩ => hn a' w' ⟨e', h', g', k, T'⟩

theorem vcOps_sound {ann : Ann} {ops : Array Oper} {g0 : Ghost} {w0 : World} (GR : GRel P.gl g0 w0) {K : Env → Heap → Prop} {Q : Exit → Act → World → Prop} (hQ : ∀ a w, Lift n g0 w0 K a w → Q .normal a w) :
    ∀ (l : List Oper) (sl : List SOp) (e : Env) (h : Heap) (g : Ghost) (a : Act) (w : World), toSOps P ann n ops l = some sl → vcOps P sl e h K → St n g0 w0 e h g a w → wpList P ops Q l a w
  | [], sl, e, h, g, a, w, ht, hk, T => by
    simp [toSOps] at ht; subst ht
    exact hQ a w ⟨e, h, g, hk, T⟩
  | o :: r, sl, e, h, g, a, w, ht, hk, T => by
    simp only [toSOps, Option.bind_eq_some_iff, Option.map_eq_some_iff] at ht
    obtain ⟨s, hs, sr, hsr, rfl⟩ := ht
    exact vcOp_sound hs hk GR T fun a' w' ⟨e', h', g', k', T'⟩ => vcOps_sound GR hQ r sr e' h' g' a' w' hsr k' T'
end
end Go.Sim
