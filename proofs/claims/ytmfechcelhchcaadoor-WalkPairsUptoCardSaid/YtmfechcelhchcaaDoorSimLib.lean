/- Rules for working a body's conditions out, and data as lists. -/
import Derived.Test.YtmfechcelhchcaaDoorSimMain
namespace Go.Sim
open Go

section
variable {P : PG} {e : Env} {h : Heap} {K : AVal → Heap → Prop}

def pcallE (P : PG) (f : Nat) (args : List AVal) (K : AVal → Prop) : Prop := ∃ v, PCalls P f args v ∧ K v

/-- what must not be worked out yet -/
inductive Wit {α : Sort _} (a : α) : Type
  | mk : Wit a
inductive Wit2 (A B : Prop) : Type
  | mk : Wit2 A B
/-- a condition on what is to come: what is to come waits -/
def Hd {κ : Type} (F : (κ → Prop)) (K : κ) (_ : Wit K) : Prop := F K
theorem Hd.of {κ : Type} {F : (κ → Prop)} {K : κ} {w : Wit K} (h : F K) : Hd F K w := h
def condW (v : AVal) (A B : Prop) (_ : Wit2 A B) : Prop := condOn v A B
def gateX (v : AVal) (b : Bool) (A B : Prop) (_ : Wit2 A B) : Prop :=
  match want v b with
  | some t => if t = true then A else B
  | none => False
theorem gateX_bool (t b : Bool) (A B : Prop) (w : Wit2 A B) : gateX (.bool t) b A B w = if t = b then A else B := by
  simp [gateX, want]
theorem gateX_tup (as : List AVal) (b : Bool) (A B : Prop) (w : Wit2 A B) : gateX (.tup as) b A B w = B := by
  simp [gateX, want]
variable {w : Wit K}
theorem vcI_mv (x : SX) : Hd (vcI P (.mv x) e h) K w = (K (ev e x) h) := by simp [Hd, vcI, fok, fop]
theorem vcI_pick (c a b : SX) : Hd (vcI P (.pick c a b) e h) K w = ((okPick (ev e c) ∧ K (aPick (ev e c) (ev e a) (ev e b)) h)) := rfl
theorem vcI_bin (op : BinOp) (x y : SX) : Hd (vcI P (.bin op x y) e h) K w = ((okBin op (ev e x) (ev e y) ∧ K (aBin op (ev e x) (ev e y)) h)) := rfl
theorem vcI_eqs (n : Bool) (ks : List Nat) (x y : SX) : Hd (vcI P (.eqs n ks x y) e h) K w = ((okEqs ks (ev e x) (ev e y) ∧ K (aEqs n (ev e x) (ev e y)) h)) := rfl
theorem vcI_eqb (n : Bool) (x y : SX) : Hd (vcI P (.eqb n x y) e h) K w = ((okEqb (ev e x) (ev e y) ∧ K (aEqb n (ev e x) (ev e y)) h)) := rfl
theorem vcI_un (op : UnOp) (x : SX) : Hd (vcI P (.un op x) e h) K w = ((okUn op (ev e x) ∧ K (aUn op (ev e x)) h)) := rfl
theorem vcI_cvi (k : IntKind) (x : SX) : Hd (vcI P (.cvi k x) e h) K w = ((okCvi (ev e x) ∧ K (aCvi k (ev e x)) h)) := rfl
theorem vcI_idc (x : SX) : Hd (vcI P (.idc x) e h) K w = (((∃ l, ev e x = .str l) ∧ K (ev e x) h)) := rfl
theorem vcI_fld (o s : Nat) (b : Bool) (x : SX) : Hd (vcI P (.fld o s b x) e h) K w = ((okFld o s b (ev e x) ∧ K (aFld o s b (ev e x)) h)) := rfl
theorem vcI_fldA (o : Nat) (x : SX) : Hd (vcI P (.fldA o x) e h) K w = ((okFldA (ev e x) ∧ K (aFldA o (ev e x)) h)) := rfl
theorem vcI_idxA (s : Nat) (x i : SX) : Hd (vcI P (.idxA s x i) e h) K w = ((okIdxA s (ev e x) (ev e i) ∧ K (aIdxA (ev e x) (ev e i)) h)) := rfl
theorem vcI_idxS (x i : SX) : Hd (vcI P (.idxS x i) e h) K w = ((okIdxS (ev e x) (ev e i) ∧ K (aIdxS (ev e x) (ev e i)) h)) := rfl
theorem vcI_ld (s : Nat) (b : Bool) (x : SX) : Hd (vcI P (.ld s b x) e h) K w = ((okLd h s b (ev e x) ∧ K (aLd h s b (ev e x)) h)) := rfl
theorem vcI_slS (x : SX) (lo hi : Option SX) : Hd (vcI P (.slS x lo hi) e h) K w = ((okSlS (ev e x) (evO e lo) (evO e hi) ∧ K (aSlS (ev e x) (evO e lo) (evO e hi)) h)) := rfl
theorem vcI_slA (s : Nat) (x : SX) (lo hi : Option SX) : Hd (vcI P (.slA s x lo hi) e h) K w = ((okSlA s (ev e x) (evO e lo) (evO e hi) ∧ K (aSlA (ev e x) (evO e lo) (evO e hi)) h)) := rfl
theorem vcI_slM (s : Nat) (x : SX) (lo hi mx : Option SX) : Hd (vcI P (.slM s x lo hi mx) e h) K w = ((okSlM (ev e x) (evO e lo) (evO e hi) (evO e mx) ∧ K .dead h)) := rfl
theorem vcI_ext (x : SX) (i : Nat) : Hd (vcI P (.ext x i) e h) K w = ((okExt i (ev e x) ∧ K (aExt i (ev e x)) h)) := rfl
theorem vcI_bld (z : List AVal) (ps : List (Nat × Nat × SX)) : Hd (vcI P (.bld z ps) e h) K w = ((okFill z.length (ps.map fun p => (p.1, p.2.1, ev e p.2.2)) ∧ K (.agg (fillA z (ps.map fun p => (p.1, p.2.1, ev e p.2.2)))) h)) := rfl
theorem vcI_bldF (ty s : Nat) (ps : List SX) : Hd (vcI P (.bldF ty s ps) e h) K w = ((okParts s e ps ∧ K (if ps.isEmpty then .emp else .slc (ps.map fun x => cellsOf (ev e x))) h)) := rfl
theorem vcI_len (x : SX) : Hd (vcI P (.len x) e h) K w = ((okLen (ev e x) ∧ K (aLen (ev e x)) h)) := rfl
theorem vcI_lenS (x : SX) : Hd (vcI P (.lenS x) e h) K w = ((okLenS (ev e x) ∧ K (aLenS (ev e x)) h)) := rfl
theorem vcI_min2 (x y : SX) : Hd (vcI P (.min2 x y) e h) K w = ((ok2i (ev e x) (ev e y) ∧ K (aMin (ev e x) (ev e y)) h)) := rfl
theorem vcI_max2 (x y : SX) : Hd (vcI P (.max2 x y) e h) K w = ((ok2i (ev e x) (ev e y) ∧ K (aMax (ev e x) (ev e y)) h)) := rfl
theorem vcI_mkf (f : Nat) (a b : List SX) : Hd (vcI P (.mkf f a b) e h) K w = (K (.fn f (a.map (ev e)) (b.map (ev e))) h) := by simp [Hd, vcI, fok, fop]
theorem vcI_isnil (k : Nat) (n : Bool) (x : SX) : Hd (vcI P (.isnil k n x) e h) K w = (Hd (nilE k n (ev e x)) (fun r => K r h) .mk) := rfl
theorem vcI_bldR (ty s : Nat) (ps : List SX) : Hd (vcI P (.bldR ty s ps) e h) K w = (Hd (litE ty s ps e h) K w) := rfl
theorem vcI_box (ty s : Nat) (x : SX) : Hd (vcI P (.box ty s x) e h) K w = ((isV (ev e x) = true ∧ (cellsOf (ev e x)).length = s ∧ ∀ r, h r = none → K (.vp r 0) (upd h r (some ⟨ty, s, [cellsOf (ev e x)]⟩)))) := rfl
theorem vcI_boxF (ty s : Nat) (x : SX) : Hd (vcI P (.boxF ty s x) e h) K w = (isV (ev e x) = true ∧ (cellsOf (ev e x)).length = s ∧ K (.pin (cellsOf (ev e x))) h) := rfl
theorem vcI_new (ty s : Nat) (z : List AVal) : Hd (vcI P (.new ty s z) e h) K w = (∀ r, h r = none → K (.vp r 0) (upd h r (some ⟨ty, s, [z]⟩))) := rfl
theorem vcI_newnil (ty s : Nat) : Hd (vcI P (.newnil ty s) e h) K w = (∀ r, h r = none → K (.osl r s 0 0) (upd h r (some ⟨ty, s, []⟩))) := rfl
theorem vcI_st (s : Nat) (x v : SX) : Hd (vcI P (.st s x v) e h) K w = (Hd (stE s (ev e x) (ev e v) h) K w) := rfl
theorem vcI_app (ty s b : Nat) (x y : SX) : Hd (vcI P (.app ty s b x y) e h) K w = (∃ es2, Rd h s (ev e y) es2 ∧ Hd (appE ty s b (ev e x) es2 h) K w) := rfl
theorem vcI_appS (ty b : Nat) (x y : SX) : Hd (vcI P (.appS ty b x y) e h) K w = (∃ l, ev e y = .str l ∧ Hd (appE ty 1 b (ev e x) (strEs l) h) K w) := rfl
theorem vcI_appIn (ty s : Nat) (x y : SX) : Hd (vcI P (.appIn ty s x y) e h) K w = (∃ es2, Rd h s (ev e y) es2 ∧ Hd (appInE s (ev e x) es2 h) K w) := rfl
theorem vcI_slX (s : Nat) (x : SX) (lo hi : Option SX) : Hd (vcI P (.slX s x lo hi) e h) K w = (Hd (slXE s (ev e x) (evO e lo) (evO e hi) h) K w) := rfl
theorem vcI_mks (ty s b : Nat) (z : List AVal) (n c : SX) : Hd (vcI P (.mks ty s b z n c) e h) K w = (Hd (mksE ty s b z (ev e n) (ev e c) h) K w) := rfl
theorem vcI_copy (s : Nat) (x y : SX) : Hd (vcI P (.copy s x y) e h) K w = (∃ es2, Rd h s (ev e y) es2 ∧ Hd (copyE s (ev e x) es2 h) K w) := rfl
theorem vcI_clear (s : Nat) (z : List AVal) (x : SX) : Hd (vcI P (.clear s z x) e h) K w = (Hd (clearE s z (ev e x) h) K w) := rfl
theorem vcI_call (f : SX) (args : List SX) : Hd (vcI P (.call f args) e h) K w = (Hd (callE P (ev e f) (args.map (ev e)) h) K w) := rfl
theorem vcI_b2s (x : SX) : Hd (vcI P (.b2s x) e h) K w = (∃ l, Rd h 1 (ev e x) (strEs l) ∧ K (.str l) h) := rfl
theorem vcI_usd (x : SX) : Hd (vcI P (.usd x) e h) K w = (Hd (usdE (ev e x) h) K w) := rfl
theorem vcI_ustr (ty : Nat) (x y : SX) : Hd (vcI P (.ustr ty x y) e h) K w = (Hd (ustrE ty (ev e x) (ev e y) h) K w) := rfl
theorem vcI_pcall (f : Nat) (args : List SX) : Hd (vcI P (.pcall f args) e h) K w = (Hd (pcallE P f (args.map (ev e))) (fun v => K v h) .mk) := rfl

theorem vcV_none (d : Option Nat) (si : SI) : Hd (vcV P ⟨d, si, none⟩ e h) K w = Hd (vcI P si e h) K w := rfl
theorem gateP_X (v : AVal) (b : Bool) (ok : Prop) (f : AVal → Prop) (r : AVal) (w : Wit2 (ok ∧ f r) (f (.tup []))) : gateP v b ok (f (gateV v b r)) = gateX v b (ok ∧ f r) (f (.tup [])) w := by
  unfold gateP gateV gateX
  cases want v b with
  | none => rfl
  | some t => cases t <;> simp
theorem gateE_X (v : AVal) (b : Bool) (k1 k2 : Prop) (w : Wit2 k1 k2) : gateE v b k1 k2 = gateX v b k1 k2 w := by
  unfold gateE gateX
  cases want v b with
  | none => rfl
  | some t => cases t <;> simp
theorem vcI_stable {si : SI} (hs : si.gated = true) : vcI P si e h K = (fok si e h ∧ K (fop si e h) h) := by
  cases si <;> first | rfl | simp [SI.gated, SI.stable] at hs
theorem gateP_E (v : AVal) (b : Bool) (ok : AVal → Prop) (f : AVal → Prop) (w : Wit2 (∃ r, ok r ∧ f r) (f (.tup []))) : (∃ r, gateP v b (ok r) (f (gateV v b r))) = gateX v b (∃ r, ok r ∧ f r) (f (.tup [])) w := by
  unfold gateP gateV gateX
  cases want v b with
  | none => simp
  | some t =>
    cases t
    · simp only [Bool.false_eq_true, false_implies, true_and, if_false, eq_iff_iff]
      exact ⟨fun ⟨_, h⟩ => h, fun h => ⟨.dead, h⟩⟩
    · simp
theorem vcG_X (s : Nat) (b : Bool) (si : SI) : vcG P s b si e h K = gateX (e s) b (vcI P si e h K) (K (.tup []) h) .mk := by
  by_cases hg : si.gated = true
  · have hv := vcI_stable (P := P) (e := e) (h := h) (K := K) hg
    have := gateP_X (e s) b (fok si e h) (fun r => K r h) (fop si e h) .mk
    have h2 : gateX (e s) b (vcI P si e h K) (K (.tup []) h) .mk = gateX (e s) b (fok si e h ∧ K (fop si e h) h) (K (.tup []) h) .mk := by
      unfold gateX; rw [hv]
    rw [h2, ← this]
    cases si <;> first | (simp [SI.gated, SI.stable] at hg; done) | simp [vcG, SI.gated, SI.stable]
  · cases si with
    | pcall f args => exact gateP_E (e s) b (fun v => PCalls P f (args.map (ev e)) v) (fun v => K v h) .mk
    | _ => first | (exact absurd rfl hg) | (rw [← gateE_X]; rfl)
theorem vcV_some (d : Option Nat) (si : SI) (s : Nat) (b : Bool) : Hd (vcV P ⟨d, si, some (s, b)⟩ e h) K w = gateX (e s) b (Hd (vcI P si e h) K w) (K (.tup []) h) .mk := vcG_X s b si
section
variable {L : Env → Heap → Prop} {wl : Wit L}
theorem vcOps_nil : Hd (vcOps P [] e h) L wl = L e h := rfl
theorem vcOps_cons (op : SOp) (r : List SOp) : Hd (vcOps P (op :: r) e h) L wl = Hd (vcV P op e h) (fun v h' => Hd (vcOps P r (setD e op.dst v) h') L wl) .mk := rfl
theorem vcD_nil (rs : List (Nat × Nat)) : Hd (vcD P [] rs e h) L wl = L e h := rfl
theorem vcD_false (op : SOp) (r : List (SOp × Option (List Nat))) (rs : List (Nat × Nat)) : Hd (vcD P ((op, none) :: r) rs e h) L wl = Hd (vcV P op e h) (fun v h' => Hd (vcD P r (rsOf op e ++ rs) (setD e op.dst v) h') L wl) .mk := rfl
theorem vcD_true (op : SOp) (an : List Nat) (r : List (SOp × Option (List Nat))) (rs : List (Nat × Nat)) : Hd (vcD P ((op, some an) :: r) rs e h) L wl = Hd (vcV P op e h) (fun v h' => keepR (op.rd ++ an) rs h h' ∧ Hd (vcD P r (dropR (op.rd ++ an) rs) (setD e op.dst v) h') L wl) .mk := rfl
theorem keepR_nil (rd : List Nat) (h h' : Heap) : keepR rd [] h h' = True := by simp [keepR]
theorem keepR_cons (rd : List Nat) (d t : Nat) (rs : List (Nat × Nat)) (h h' : Heap) : keepR rd ((d, t) :: rs) h h' = ((rd.contains d = false → h' t = h t) ∧ keepR rd rs h h') := by
  simp [keepR]
theorem dropR_nil (rd : List Nat) : dropR rd [] = [] := rfl
theorem dropR_cons (rd : List Nat) (d t : Nat) (rs : List (Nat × Nat)) : dropR rd ((d, t) :: rs) = if rd.contains d = true then dropR rd rs else (d, t) :: dropR rd rs := by
  unfold dropR
  rw [List.filter_cons]
  cases rd.contains d <;> simp
/-- a truth value: go on by cases -/
def Sp (v : AVal) (K : AVal → Prop) (_ : Wit K) : Prop := K v
theorem vcOps_sp (d : Nat) (si : SI) (g : Option (Nat × Bool)) (r : List SOp) : Hd (vcOps P (⟨some d, si, g⟩ :: r) e h) L wl = Hd (vcV P ⟨some d, si, g⟩ e h) (fun v h' => Sp v (fun v' => Hd (vcOps P r (upd e d v') h') L wl) .mk) .mk := rfl
theorem vcD_sp (d : Nat) (si : SI) (g : Option (Nat × Bool)) (r : List (SOp × Option (List Nat))) (rs : List (Nat × Nat)) : Hd (vcD P ((⟨some d, si, g⟩, none) :: r) rs e h) L wl = Hd (vcV P ⟨some d, si, g⟩ e h) (fun v h' => Sp v (fun v' => Hd (vcD P r (rsOf ⟨some d, si, g⟩ e ++ rs) (upd e d v') h') L wl) .mk) .mk := rfl
end

variable {Q : SExit → Env → Heap → Prop}
theorem vc_skip : vc P .skip Q e h = Q .normal e h := rfl
theorem vc_reg (ops : List SOp) : vc P (.reg ops) Q e h = Hd (vcOps P ops e h) (Q .normal) .mk := rfl
theorem vc_dreg (ops : List (SOp × Option (List Nat))) : vc P (.dreg ops) Q e h = Hd (vcD P ops [] e h) (Q .normal) .mk := rfl
theorem vc_seq (a b : SCode) : vc P (.seq a b) Q e h = vc P a (thenK (vc P b Q) Q) e h := rfl
theorem vc_cond (x : SX) (a b : SCode) : vc P (.cond x a b) Q e h = condW (ev e x) (vc P a Q e h) (vc P b Q e h) .mk := rfl
theorem vc_block (id : Nat) (c : SCode) : vc P (.block id c) Q e h = vc P c (blockK id Q) e h := rfl
theorem vc_loop (c : SCode) : vc P (.loop c) Q e h = LoopVC (vc P c) Q e h := rfl
theorem vc_range (f : SX) (ps : List Nat) (mv : List (Nat × Nat)) (b : SCode) : vc P (.range f ps mv b) Q e h = RangeVC P f ps mv (vc P b) Q e h := rfl
theorem mvs_cons (d s : Nat) (r : List (Nat × Nat)) : mvs e ((d, s) :: r) = mvs (upd e d (e s)) r := rfl
theorem mvs_nil : mvs e [] = e := rfl
theorem setPs_cons (p : Nat) (ps : List Nat) (v : AVal) (vs : List AVal) : setPs e (p :: ps) (v :: vs) = setPs (upd e p v) ps vs := rfl
theorem setPs_nil : setPs e [] [] = e := rfl
theorem roundK_normal {X : Type} (I : List X → Heap → Prop) (Ix : SExit → List X → Heap → Prop) (pre : List X) : roundK I Ix pre .normal e h = I pre h := rfl
theorem roundK_exit {X : Type} (I : List X → Heap → Prop) (Ix : SExit → List X → Heap → Prop) (pre : List X) (id : Nat) : roundK I Ix pre (.exit id) e h = Ix (.exit id) pre h := rfl
theorem roundK_ret {X : Type} (I : List X → Heap → Prop) (Ix : SExit → List X → Heap → Prop) (pre : List X) : roundK I Ix pre .ret e h = Ix .ret pre h := rfl
theorem RangeVC.intro {f : SX} {ps : List Nat} {mv : List (Nat × Nat)} {vb : (SExit → Env → Heap → Prop) → Env → Heap → Prop} {X : Type} {enc : X → List AVal} {xs : List X} {N k : Nat} {cap : List AVal}
    (hit : IterV P k cap enc xs N) (hf : ev e f = .fn k [] cap) (hl : ∀ x, (enc x).length = ps.length) (I : List X → Heap → Prop) (Ix : SExit → List X → Heap → Prop) (h0 : I [] h)
    (hb : ∀ pre x h', I pre h' → pre.length < N → vb (roundK I Ix (pre ++ [x])) (mvs (setPs e ps (enc x)) mv) h') (hq : ∀ h', I xs h' → Q .normal e h')
    (hx : ∀ ex pre h', ex ≠ .normal → pre <+: xs → Ix ex pre h' → Q ex e h') : RangeVC P f ps mv vb Q e h := ⟨X, enc, xs, N, k, cap, hf, hit, hl, I, Ix, h0, hb, hq, hx⟩
theorem vc_exit (id : Nat) : vc P (.exit id) Q e h = Q (.exit id) e h := rfl
theorem vc_ret : vc P .ret Q e h = Q .ret e h := rfl
variable {N : Env → Heap → Prop}
theorem thenK_normal : thenK N Q .normal e h = N e h := rfl
theorem thenK_exit (id : Nat) : thenK N Q (.exit id) e h = Q (.exit id) e h := rfl
theorem thenK_ret : thenK N Q .ret e h = Q .ret e h := rfl
theorem blockK_normal (id : Nat) : blockK id Q .normal e h = Q .normal e h := rfl
theorem blockK_ret (id : Nat) : blockK id Q .ret e h = Q .ret e h := rfl
theorem blockK_exit (id j : Nat) : blockK id Q (.exit j) e h = if j = id then Q .normal e h else Q (.exit j) e h := rfl
theorem condOn_bool (t : Bool) (A B : Prop) : condOn (.bool t) A B = ((t = true → A) ∧ (t = false → B)) := rfl
variable {rs : List SRes} {R : AVal → Heap → Prop}
theorem retK_normal : retK rs R .normal e h = (allOK e h rs ∧ ∃ h', (∀ t o, h' t = some o → h t = some o) ∧ R (retV e h rs) h') := rfl
theorem retK_ret : retK rs R .ret e h = (allOK e h rs ∧ ∃ h', (∀ t o, h' t = some o → h t = some o) ∧ R (retV e h rs) h') := rfl
theorem ev_t (n : Nat) : ev e (.t n) = e n := rfl
theorem ev_c (v : AVal) : ev e (.c v) = v := rfl
theorem evO_some (x : SX) : evO e (some x) = some (ev e x) := rfl
theorem evO_none : evO e none = none := rfl
theorem setD_some (d : Nat) (v : AVal) : setD e (some d) v = upd e d v := rfl
theorem setD_none (v : AVal) : setD e none v = e := rfl
theorem LoopVC.intro {b : (SExit → Env → Heap → Prop) → Env → Heap → Prop} (I : Nat → Env → Heap → Prop) (m : Nat) (h0 : I m e h) (hr : ∀ m e h, I m e h → b (thenK (fun e' h' => ∃ m', m' < m ∧ I m' e' h') Q) e h) : LoopVC b Q e h :=
  ⟨I, ⟨m, h0⟩, hr⟩
end

/-! ## Data -/
class LenE {α : Type} (enc : α → List AVal) (sz : outParam Nat) : Prop where
  len : ∀ x, (enc x).length = sz
def sl {α : Type} (enc : α → List AVal) (l : List α) : AVal := .slc (l.map enc)
def nth {α : Type} [Inhabited α] (l : List α) (i : Nat) : α := l.getD i default
theorem nth_some {α : Type} [Inhabited α] {l : List α} {i : Nat} (h : i < l.length) : l[i]? = some (nth l i) := getD_getElem? l i default h
section
set_option linter.unusedSectionVars false
variable {α : Type} [Inhabited α] {enc : α → List AVal} {l : List α} {sz : Nat}
theorem aLen_sl : aLen (sl enc l) = aInt l.length := by simp [aLen, sl]
theorem okLen_sl : okLen (sl enc l) = True := rfl
theorem okIdxA_sl [LenE enc sz] {s : Nat} {k : IntKind} {n : Int} : okIdxA s (sl enc l) (.int k n) = (0 ≤ n ∧ n < l.length ∧ sz = s) := by
  simp only [okIdxA, sl, List.length_map, eq_iff_iff]
  refine and_congr_right fun h0 => and_congr_right fun h1 => ?_
  have : ((l.map enc).getD n.toNat []) = enc (nth l n.toNat) := by
    rw [List.getD_eq_getElem?_getD, List.getElem?_map, nth_some (by omega)]
    rfl
  rw [this, LenE.len (enc := enc)]
theorem aIdxA_sl {k : IntKind} {n : Int} (h0 : 0 ≤ n) (h1 : n < l.length) : aIdxA (sl enc l) (.int k n) = .pin (enc (nth l n.toNat)) := by
  simp only [aIdxA, sl]
  rw [List.getD_eq_getElem?_getD, List.getElem?_map, nth_some (by omega)]
  rfl
end
def eInt (n : Int) : List AVal := [.int .i64 n]
instance : LenE eInt 1 := ⟨fun _ => rfl⟩
theorem wrap_i64 {n : Int} (h0 : -9223372036854775808 ≤ n) (h1 : n ≤ 9223372036854775807) : IntKind.i64.wrap n = n := by
  rw [IntKind.wrap_i64]; omega

/-! ## Rules -/
theorem aBin_add (k k' : IntKind) (a b : Int) : aBin .add (.int k a) (.int k' b) = .int k (k.wrap (a + b)) := rfl
theorem okBin_add (k k' : IntKind) (a b : Int) : okBin .add (.int k a) (.int k' b) = (k = k') := rfl
theorem aBin_sub (k k' : IntKind) (a b : Int) : aBin .sub (.int k a) (.int k' b) = .int k (k.wrap (a - b)) := rfl
theorem okBin_sub (k k' : IntKind) (a b : Int) : okBin .sub (.int k a) (.int k' b) = (k = k') := rfl
theorem aBin_mul (k k' : IntKind) (a b : Int) : aBin .mul (.int k a) (.int k' b) = .int k (k.wrap (a * b)) := rfl
theorem okBin_mul (k k' : IntKind) (a b : Int) : okBin .mul (.int k a) (.int k' b) = (k = k') := rfl
theorem aBin_quo (k k' : IntKind) (a b : Int) : aBin .quo (.int k a) (.int k' b) = .int k (k.wrap (a.tdiv b)) := rfl
theorem okBin_quo (k k' : IntKind) (a b : Int) : okBin .quo (.int k a) (.int k' b) = (k = k' ∧ b ≠ 0) := rfl
theorem aBin_rem (k k' : IntKind) (a b : Int) : aBin .rem (.int k a) (.int k' b) = .int k (a.tmod b) := rfl
theorem okBin_rem (k k' : IntKind) (a b : Int) : okBin .rem (.int k a) (.int k' b) = (k = k' ∧ b ≠ 0) := rfl
theorem aBin_shl (k k' : IntKind) (a b : Int) : aBin .shl (.int k a) (.int k' b) = .int k (k.wrap (a * 2 ^ (min b.toNat k.bits))) := rfl
theorem okBin_shl (k k' : IntKind) (a b : Int) : okBin .shl (.int k a) (.int k' b) = (0 ≤ b) := rfl
theorem aBin_shr (k k' : IntKind) (a b : Int) : aBin .shr (.int k a) (.int k' b) = .int k (a.fdiv (2 ^ (min b.toNat k.bits))) := rfl
theorem okBin_shr (k k' : IntKind) (a b : Int) : okBin .shr (.int k a) (.int k' b) = (0 ≤ b) := rfl
theorem aBin_eql (k k' : IntKind) (a b : Int) : aBin .eql (.int k a) (.int k' b) = .bool (a == b) := rfl
theorem okBin_eql (k k' : IntKind) (a b : Int) : okBin .eql (.int k a) (.int k' b) = (k = k') := rfl
theorem aBin_neq (k k' : IntKind) (a b : Int) : aBin .neq (.int k a) (.int k' b) = .bool (a != b) := rfl
theorem okBin_neq (k k' : IntKind) (a b : Int) : okBin .neq (.int k a) (.int k' b) = (k = k') := rfl
theorem aBin_lss (k k' : IntKind) (a b : Int) : aBin .lss (.int k a) (.int k' b) = .bool (decide (a < b)) := rfl
theorem okBin_lss (k k' : IntKind) (a b : Int) : okBin .lss (.int k a) (.int k' b) = (k = k') := rfl
theorem aBin_leq (k k' : IntKind) (a b : Int) : aBin .leq (.int k a) (.int k' b) = .bool (decide (a ≤ b)) := rfl
theorem okBin_leq (k k' : IntKind) (a b : Int) : okBin .leq (.int k a) (.int k' b) = (k = k') := rfl
theorem aBin_gtr (k k' : IntKind) (a b : Int) : aBin .gtr (.int k a) (.int k' b) = .bool (decide (b < a)) := rfl
theorem okBin_gtr (k k' : IntKind) (a b : Int) : okBin .gtr (.int k a) (.int k' b) = (k = k') := rfl
theorem aBin_geq (k k' : IntKind) (a b : Int) : aBin .geq (.int k a) (.int k' b) = .bool (decide (b ≤ a)) := rfl
theorem okBin_geq (k k' : IntKind) (a b : Int) : okBin .geq (.int k a) (.int k' b) = (k = k') := rfl
theorem aBin_and (k k' : IntKind) (a b : Int) : aBin .and (.int k a) (.int k' b) = .int k (bitF .and k a b) := rfl
theorem okBin_and (k k' : IntKind) (a b : Int) : okBin .and (.int k a) (.int k' b) = (k = k') := rfl
theorem aBin_or (k k' : IntKind) (a b : Int) : aBin .or (.int k a) (.int k' b) = .int k (bitF .or k a b) := rfl
theorem okBin_or (k k' : IntKind) (a b : Int) : okBin .or (.int k a) (.int k' b) = (k = k') := rfl
theorem aBin_xor (k k' : IntKind) (a b : Int) : aBin .xor (.int k a) (.int k' b) = .int k (bitF .xor k a b) := rfl
theorem okBin_xor (k k' : IntKind) (a b : Int) : okBin .xor (.int k a) (.int k' b) = (k = k') := rfl
theorem aBin_andNot (k k' : IntKind) (a b : Int) : aBin .andNot (.int k a) (.int k' b) = .int k (bitF .andNot k a b) := rfl
theorem okBin_andNot (k k' : IntKind) (a b : Int) : okBin .andNot (.int k a) (.int k' b) = (k = k') := rfl
theorem aBinS_add (a b : List UInt8) : aBin .add (.str a) (.str b) = .str (a ++ b) := rfl
theorem okBinS_add (a b : List UInt8) : okBin .add (.str a) (.str b) = (a.length + b.length ≤ 9223372036854775807) := rfl
theorem aBinS_eql (a b : List UInt8) : aBin .eql (.str a) (.str b) = .bool (a == b) := rfl
theorem okBinS_eql (a b : List UInt8) : okBin .eql (.str a) (.str b) = True := rfl
theorem aBinS_neq (a b : List UInt8) : aBin .neq (.str a) (.str b) = .bool (a != b) := rfl
theorem okBinS_neq (a b : List UInt8) : okBin .neq (.str a) (.str b) = True := rfl
theorem aBinS_lss (a b : List UInt8) : aBin .lss (.str a) (.str b) = .bool (Op.bytesLess a b) := rfl
theorem okBinS_lss (a b : List UInt8) : okBin .lss (.str a) (.str b) = True := rfl
theorem aBinS_geq (a b : List UInt8) : aBin .geq (.str a) (.str b) = .bool (!Op.bytesLess a b) := rfl
theorem okBinS_geq (a b : List UInt8) : okBin .geq (.str a) (.str b) = True := rfl
theorem aUn_not (b : Bool) : aUn .not (.bool b) = .bool (!b) := rfl
theorem okUn_not (b : Bool) : okUn .not (.bool b) = (UnOp.not = UnOp.not) := rfl
theorem aUn_neg (k : IntKind) (n : Int) : aUn .neg (.int k n) = .int k (k.wrap (0 - n)) := rfl
theorem okUn_neg (k : IntKind) (n : Int) : okUn .neg (.int k n) = (UnOp.neg = UnOp.neg) := rfl
theorem aEqb_bool (n a b : Bool) : aEqb n (.bool a) (.bool b) = .bool (xor n (a == b)) := rfl
theorem okEqb_bool (a b : Bool) : okEqb (.bool a) (.bool b) = True := rfl
theorem aEqs_agg (n : Bool) (as bs : List AVal) : aEqs n (.agg as) (.agg bs) = .bool (xor n (eqCells as bs)) := rfl
theorem okEqs_agg (ks : List Nat) (as bs : List AVal) : okEqs ks (.agg as) (.agg bs) = okEqCells ks as bs := rfl
theorem aCvi_int (k k' : IntKind) (n : Int) : aCvi k (.int k' n) = .int k (k.wrap n) := rfl
theorem okCvi_int (k' : IntKind) (n : Int) : okCvi (.int k' n) = True := rfl
theorem aPick_bool (c : Bool) (a b : AVal) : aPick (.bool c) a b = if c then a else b := rfl
theorem okPick_bool (c : Bool) : okPick (.bool c) = True := rfl
theorem aFld_agg (o s : Nat) (b : Bool) (cs : List AVal) : aFld o s b (.agg cs) = cutV s b (cs.drop o) := rfl
theorem okFld_agg (o s : Nat) (b : Bool) (cs : List AVal) : okFld o s b (.agg cs) = (o + s ≤ cs.length ∧ (b = false → s = 1)) := rfl
theorem cutV_true (s : Nat) (cs : List AVal) : cutV s true cs = .agg (cs.take s) := rfl
theorem cutV_false (s : Nat) (cs : List AVal) : cutV s false cs = cs.headD .dead := rfl
theorem aFldA_pin (o : Nat) (cs : List AVal) : aFldA o (.pin cs) = .pin (cs.drop o) := rfl
theorem okFldA_pin (cs : List AVal) : okFldA (.pin cs) = True := rfl
theorem deVp_vp (r j : Nat) : deVp (.vp r j) = .ptr r 0 j := rfl
theorem deVp_ptr (r i j : Nat) : deVp (.ptr r i j) = .ptr r i j := rfl
theorem deVp_pin (cs : List AVal) : deVp (.pin cs) = .pin cs := rfl
theorem aFldA_vp (o r j : Nat) : aFldA o (.vp r j) = .vp r (j + o) := rfl
theorem okFldA_vp (r j : Nat) : okFldA (.vp r j) = True := rfl
theorem aFldA_ptr (o r i j : Nat) : aFldA o (.ptr r i j) = .ptr r i (j + o) := rfl
theorem okFldA_ptr (r i j : Nat) : okFldA (.ptr r i j) = True := rfl
theorem aIdxA_osl (r sz i n : Nat) (k : IntKind) (m : Int) : aIdxA (.osl r sz i n) (.int k m) = .ptr r (i + m.toNat) 0 := rfl
theorem okIdxA_osl (s r sz i n : Nat) (k : IntKind) (m : Int) : okIdxA s (.osl r sz i n) (.int k m) = (sz = s ∧ 0 ≤ m ∧ m < n) := rfl
theorem aIdxA_slc (es : List (List AVal)) (k : IntKind) (m : Int) : aIdxA (.slc es) (.int k m) = .pin (es.getD m.toNat []) := rfl
theorem okIdxA_slc (s : Nat) (es : List (List AVal)) (k : IntKind) (m : Int) : okIdxA s (.slc es) (.int k m) = (0 ≤ m ∧ m < es.length ∧ (es.getD m.toNat []).length = s) := rfl
theorem aIdxS_str (l : List UInt8) (k : IntKind) (m : Int) : aIdxS (.str l) (.int k m) = .int .u8 (l.getD m.toNat 0).toNat := rfl
theorem okIdxS_str (l : List UInt8) (k : IntKind) (m : Int) : okIdxS (.str l) (.int k m) = (0 ≤ m ∧ m < l.length) := rfl
theorem aLd_pin (h : Heap) (s : Nat) (b : Bool) (cs : List AVal) : aLd h s b (.pin cs) = cutV s b cs := rfl
theorem okLd_pin (h : Heap) (s : Nat) (b : Bool) (cs : List AVal) : okLd h s b (.pin cs) = (s ≤ cs.length ∧ (b = false → s = 1)) := rfl
theorem okLd_ptr (h : Heap) (s : Nat) (b : Bool) (r i j : Nat) : okLd h s b (.ptr r i j) = ∃ o, h r = some o ∧ i < o.es.length ∧ j + s ≤ (o.es.getD i []).length ∧ (b = false → s = 1) := rfl
def ldO (o : Option AObj) (i j s : Nat) (b : Bool) : AVal := match o with | some o => cutV s b ((o.es.getD i []).drop j) | none => .dead
theorem aLd_ptr (h : Heap) (s : Nat) (b : Bool) (r i j : Nat) : aLd h s b (.ptr r i j) = ldO (h r) i j s b := rfl
theorem okLd_vp (h : Heap) (s : Nat) (b : Bool) (r j : Nat) : okLd h s b (.vp r j) = ∃ o, h r = some o ∧ 0 < o.es.length ∧ j + s ≤ (o.es.getD 0 []).length ∧ (b = false → s = 1) := rfl
theorem aLd_vp (h : Heap) (s : Nat) (b : Bool) (r j : Nat) : aLd h s b (.vp r j) = ldO (h r) 0 j s b := rfl
theorem ldO_some (o : AObj) (i j s : Nat) (b : Bool) : ldO (some o) i j s b = cutV s b ((o.es.getD i []).drop j) := rfl
theorem aExt_tup (i : Nat) (vs : List AVal) : aExt i (.tup vs) = vs.getD i .dead := rfl
theorem okExt_tup (i : Nat) (vs : List AVal) : okExt i (.tup vs) = (i < vs.length) := rfl
theorem aLen_osl (r sz i n : Nat) : aLen (.osl r sz i n) = aInt n := rfl
theorem okLen_osl (r sz i n : Nat) : okLen (.osl r sz i n) = True := rfl
theorem aLen_slc (es : List (List AVal)) : aLen (.slc es) = aInt es.length := rfl
theorem okLen_slc (es : List (List AVal)) : okLen (.slc es) = True := rfl
theorem aLen_emp  : aLen .emp = aInt 0 := rfl
theorem okLen_emp  : okLen .emp = True := rfl
theorem aLenS_str (l : List UInt8) : aLenS (.str l) = aInt l.length := rfl
theorem okLenS_str (l : List UInt8) : okLenS (.str l) = True := rfl
theorem aMin_int (k k' : IntKind) (a b : Int) : aMin (.int k a) (.int k' b) = .int k (min a b) := rfl
theorem aMax_int (k k' : IntKind) (a b : Int) : aMax (.int k a) (.int k' b) = .int k (max a b) := rfl
theorem ok2i_int (k k' : IntKind) (a b : Int) : ok2i (.int k a) (.int k' b) = (k = k') := rfl
theorem aSlS_str (l : List UInt8) (lo hi : Option AVal) : aSlS (.str l) lo hi = .str ((l.take (hiOf l.length hi).toNat).drop (loOf lo).toNat) := rfl
theorem okSlS_str (l : List UInt8) (lo hi : Option AVal) : okSlS (.str l) lo hi = (okB lo ∧ okB hi ∧ 0 ≤ loOf lo ∧ loOf lo ≤ hiOf l.length hi ∧ hiOf l.length hi ≤ l.length) := rfl
theorem loOf_int (k : IntKind) (n : Int) : loOf (some (.int k n)) = n := rfl
theorem loOf_none  : loOf none = 0 := rfl
theorem hiOf_int (m : Nat) (k : IntKind) (n : Int) : hiOf m (some (.int k n)) = n := rfl
theorem hiOf_none (m : Nat) : hiOf m none = m := rfl
theorem okB_int (k : IntKind) (n : Int) : okB (some (.int k n)) = True := rfl
theorem okB_none  : okB none = True := rfl
theorem aSlA_osl (r sz i n : Nat) (lo hi : Option AVal) : aSlA (.osl r sz i n) lo hi = .osl r sz (i + (loOf lo).toNat) ((hiOf n hi).toNat - (loOf lo).toNat) := rfl
theorem okSlA_osl (s r sz i n : Nat) (lo hi : Option AVal) : okSlA s (.osl r sz i n) lo hi = (sz = s ∧ okB lo ∧ okB hi ∧ 0 ≤ loOf lo ∧ loOf lo ≤ hiOf n hi ∧ hiOf n hi ≤ n) := rfl
theorem aSlA_emp (lo hi : Option AVal) : aSlA .emp lo hi = .emp := rfl
theorem okSlA_emp (s : Nat) (lo hi : Option AVal) : okSlA s .emp lo hi = (okB lo ∧ okB hi ∧ loOf lo = 0 ∧ hiOf 0 hi = 0) := rfl
theorem okSlM_osl (r sz i n : Nat) (lo hi mx : Option AVal) : okSlM (.osl r sz i n) lo hi mx = (True ∧ okB lo ∧ okB hi ∧ okB mx ∧ 0 ≤ loOf lo ∧ loOf lo ≤ hiOf n hi ∧ hiOf n hi ≤ hiOf n mx ∧ hiOf n mx ≤ n) := rfl
theorem nil_slc (n : Bool) (es : List (List AVal)) (K : AVal → Prop) (w : Wit K) : Hd (nilE 0 n (.slc es)) K w = (∀ b : Bool, (b = true → es = []) → K (.bool (xor n b))) := rfl
theorem nil_emp (n : Bool) (K : AVal → Prop) (w : Wit K) : Hd (nilE 0 n .emp) K w = (∀ b : Bool, K (.bool (xor n b))) := rfl
theorem nil_osl (n : Bool) (r sz i m : Nat) (K : AVal → Prop) (w : Wit K) : Hd (nilE 0 n (.osl r sz i m)) K w = (∀ b : Bool, (b = true → m = 0) → K (.bool (xor n b))) := rfl
theorem nil_vp (n : Bool) (r j : Nat) (K : AVal → Prop) (w : Wit K) : Hd (nilE 1 n (.vp r j)) K w = (K (.bool n)) := rfl
theorem cells_vp (r j : Nat) : cellsOf (.vp r j) = [.vp r j] := rfl
theorem isV_vp (r j : Nat) : isV (.vp r j) = true := rfl
theorem stE_vp (s r j : Nat) (v : AVal) (h : Heap) (K : AVal → Heap → Prop) (w : Wit K) : Hd (stE s (.vp r j) v h) K w = Hd (stE s (.ptr r 0 j) v h) K w := rfl
theorem nil_ptr (n : Bool) (r i j : Nat) (K : AVal → Prop) (w : Wit K) : Hd (nilE 1 n (.ptr r i j)) K w = (K (.bool n)) := rfl
theorem nil_pin (n : Bool) (cs : List AVal) (K : AVal → Prop) (w : Wit K) : Hd (nilE 1 n (.pin cs)) K w = (K (.bool n)) := rfl
theorem nil_pnil (n : Bool) (K : AVal → Prop) (w : Wit K) : Hd (nilE 1 n (.prim (.pointer none))) K w = (K (.bool (!n))) := rfl
theorem nil_fn (n : Bool) (f : Nat) (a b : List AVal) (K : AVal → Prop) (w : Wit K) : Hd (nilE 2 n (.fn f a b)) K w = (K (.bool n)) := rfl
theorem nil_fnil (n : Bool) (K : AVal → Prop) (w : Wit K) : Hd (nilE 2 n (.prim .nilFunc)) K w = (K (.bool (!n))) := rfl
theorem stE_ptr (s r i j : Nat) (v : AVal) (h : Heap) (K : AVal → Heap → Prop) (w : Wit K) : Hd (stE s (.ptr r i j) v h) K w = (∃ ob, h r = some ob ∧ i < ob.es.length ∧ j + s ≤ (ob.es.getD i []).length ∧ isV v = true ∧ (cellsOf v).length = s ∧ K .dead (upd h r (some { ob with es := ob.es.set i (setAt (ob.es.getD i []) j (cellsOf v)) }))) := rfl
theorem appE_emp (ty sz b : Nat) (es2 : List (List AVal)) (h : Heap) (K : AVal → Heap → Prop) (w : Wit K) : Hd (appE ty sz b .emp es2 h) K w = ((es2.length * b ≤ 140737488355328 ∧ es2.length ≤ 140737488355328 ∧ ∀ r, h r = none → K (.osl r sz 0 es2.length) (upd h r (some ⟨ty, sz, es2⟩)))) := rfl
theorem appE_osl (ty sz b r sz' i m : Nat) (es2 : List (List AVal)) (h : Heap) (K : AVal → Heap → Prop) (w : Wit K) : Hd (appE ty sz b (.osl r sz' i m) es2 h) K w = ((sz' = sz ∧ ∃ ob, h r = some ob ∧ ob.ty = ty ∧ i + m ≤ ob.es.length ∧ (m + es2.length) * b ≤ 140737488355328 ∧ m + es2.length ≤ 140737488355328 ∧ ∀ r', del h r r' = none → K (.osl r' sz 0 (m + es2.length)) (upd (del h r) r' (some ⟨ty, sz, (ob.es.drop i).take m ++ es2⟩)))) := rfl
theorem Rd_slc (h : Heap) (s : Nat) (es l : List (List AVal)) : Rd h s (.slc es) l = (l = es ∧ ∀ e ∈ es, e.length = s) := rfl
theorem Rd_emp (h : Heap) (s : Nat) (l : List (List AVal)) : Rd h s .emp l = (l = []) := rfl
theorem Rd_osl (h : Heap) (s r sz i n : Nat) (l : List (List AVal)) : Rd h s (.osl r sz i n) l = (sz = s ∧ ∃ o, h r = some o ∧ i + n ≤ o.es.length ∧ l = (o.es.drop i).take n) := rfl
theorem cells_agg (cs : List AVal) : cellsOf (.agg cs) = cs := rfl
theorem cells_int (k : IntKind) (n : Int) : cellsOf (.int k n) = [.int k n] := rfl
theorem isV_int (k : IntKind) (n : Int) : isV (.int k n) = true := rfl
theorem cells_bool (b : Bool) : cellsOf (.bool b) = [.bool b] := rfl
theorem isV_bool (b : Bool) : isV (.bool b) = true := rfl
theorem cells_str (l : List UInt8) : cellsOf (.str l) = [.str l] := rfl
theorem isV_str (l : List UInt8) : isV (.str l) = true := rfl
theorem cells_slc (es : List (List AVal)) : cellsOf (.slc es) = [.slc es] := rfl
theorem isV_slc (es : List (List AVal)) : isV (.slc es) = true := rfl
theorem cells_emp  : cellsOf (.emp ) = [.emp ] := rfl
theorem isV_emp  : isV (.emp ) = true := rfl
theorem cells_osl (r sz i n : Nat) : cellsOf (.osl r sz i n) = [.osl r sz i n] := rfl
theorem isV_osl (r sz i n : Nat) : isV (.osl r sz i n) = true := rfl
theorem cells_ptr (r i j : Nat) : cellsOf (.ptr r i j) = [.ptr r i j] := rfl
theorem isV_ptr (r i j : Nat) : isV (.ptr r i j) = true := rfl
theorem cells_pin (cs : List AVal) : cellsOf (.pin cs) = [.pin cs] := rfl
theorem isV_pin (cs : List AVal) : isV (.pin cs) = true := rfl
theorem cells_fn (f : Nat) (a b : List AVal) : cellsOf (.fn f a b) = [.fn f a b] := rfl
theorem isV_fn (f : Nat) (a b : List AVal) : isV (.fn f a b) = true := rfl
theorem isV_agg (cs : List AVal) : isV (.agg cs) = true := rfl
theorem cells_sl {α : Type} (enc : α → List AVal) (l : List α) : cellsOf (sl enc l) = [sl enc l] := rfl
theorem isV_sl {α : Type} (enc : α → List AVal) (l : List α) : isV (sl enc l) = true := rfl
theorem callE_fn {P : PG} (f : Nat) (a b args : List AVal) (h : Heap) (K : AVal → Heap → Prop) (w : Wit K) : Hd (callE P (.fn f a b) args h) K w = (Hd (DCalls P f (a ++ (args ++ b)) h) K w) := rfl
theorem allOK_nil (e : Env) (h : Heap) : allOK e h [] = True := rfl
theorem allOK_cons (e : Env) (h : Heap) (r : SRes) (l : List SRes) : allOK e h (r :: l) = (resOK e h r ∧ allOK e h l) := rfl
theorem resOK_tmp (e : Env) (h : Heap) (t : Nat) : resOK e h (.tmp t) = True := rfl
theorem resOK_cell (e : Env) (h : Heap) (t s : Nat) (b : Bool) : resOK e h (.cell t s b) = okLd h s b (e t) := rfl
theorem resV_tmp (e : Env) (h : Heap) (t : Nat) : resV e h (.tmp t) = e t := rfl
theorem resV_cell (e : Env) (h : Heap) (t s : Nat) (b : Bool) : resV e h (.cell t s b) = aLd h s b (e t) := rfl
theorem retV_one (e : Env) (h : Heap) (r : SRes) : retV e h [r] = resV e h r := rfl
theorem retV_two (e : Env) (h : Heap) (r s : SRes) (l : List SRes) : retV e h (r :: s :: l) = .tup ((r :: s :: l).map (resV e h)) := rfl
theorem retV_nil (e : Env) (h : Heap) : retV e h [] = .tup [] := rfl
theorem initE_at (G : Glob) (args : List AVal) (t : Nat) (h : t < 1000000) : initE G args t = args.getD t .dead := if_pos h
theorem initE_gl (G : Glob) (args : List AVal) (t : Nat) (h : 1000000 ≤ t) : initE G args t = G (t - 1000000) := if_neg (by omega)

def Br (t : Bool) (A B : Prop) (_ : Wit2 A B) : Prop := (t = true → A) ∧ (t = false → B)
section
variable {A B : Prop} {w : Wit2 A B}
theorem Br_true : Br true A B w = A := by simp [Br]
theorem Br_false : Br false A B w = B := by simp [Br]
theorem condOn_br (t : Bool) : condW (.bool t) A B w = Br t A B .mk := rfl
theorem Br.intro {t : Bool} (h1 : t = true → A) (h2 : t = false → B) : Br t A B .mk := ⟨h1, h2⟩
theorem Br.dec {p : Prop} [Decidable p] (h1 : p → A) (h2 : ¬ p → B) : Br (decide p) A B .mk := ⟨fun h => h1 (by simpa using h), fun h => h2 (by simpa using h)⟩
theorem Br.eq {α : Type} [BEq α] [LawfulBEq α] {a b : α} (h1 : a = b → A) (h2 : a ≠ b → B) : Br (a == b) A B .mk := ⟨fun h => h1 (by simpa using h), fun h => h2 (by simpa using h)⟩
theorem Br.ne {α : Type} [BEq α] [LawfulBEq α] {a b : α} (h1 : a ≠ b → A) (h2 : a = b → B) : Br (a != b) A B .mk := ⟨fun h => h1 (by simpa using h), fun h => h2 (by simpa using h)⟩
end
theorem Sp_tup (l : List AVal) (K : AVal → Prop) (w : Wit K) : Sp (.tup l) K w = K (.tup l) := rfl
theorem Sp_dead (K : AVal → Prop) (w : Wit K) : Sp .dead K w = K .dead := rfl
theorem Sp_bool (t : Bool) (K : AVal → Prop) (w : Wit K) : Sp (.bool t) K w = Br t (K (.bool true)) (K (.bool false)) .mk := by
  cases t <;> simp [Sp, Br]

end Go.Sim
