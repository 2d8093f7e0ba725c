/- Texts of this claim, one behind the other. -/
import Derived.Test.YtkpaokgikhnpgaaGreatDoorM2
import Derived.ChangeArms
import Derived.RowKit3
import Derived.ReadAgain
import Derived.OpenShut
import Derived.JoinedCond
import Derived.Shelf.Vars
set_option maxHeartbeats 4000000
set_option maxRecDepth 100000
section
namespace Go.Sim
open Go
section
variable {P : PG} {e : Env} {h : Q2} {K : AVal -> Q2 -> Prop}
def pcallE (P : PG) (f : Nat) (args : List AVal) (K : AVal -> Prop) : Prop := ∃ v, PCalls P f args v /\ K v
inductive Wit {α : Sort _} (a : α) : Type
  | mk : Wit a
inductive Wit2 (A B : Prop) : Type
  | mk : Wit2 A B
def Hd {κ : Type} (F : (κ -> Prop)) (K : κ) (_ : Wit K) : Prop := F K
def condW (v : AVal) (A B : Prop) (_ : Wit2 A B) : Prop := condOn v A B
def UJ (v : AVal) (b : Bool) (A B : Prop) (_ : Wit2 A B) : Prop :=
  match UW v b with
  | some t => if t = true then A else B
  | none => False
theorem gateX_bool (t b : Bool) (A B : Prop) (w : Wit2 A B) : UJ (.bool t) b A B w = if t = b then A else B := by
  simp [UJ, UW]
theorem gateX_tup (as : List AVal) (b : Bool) (A B : Prop) (w : Wit2 A B) : UJ (.tup as) b A B w = B := by
  simp [UJ, UW]
variable {w : Wit K}
theorem vcI_mv (x : SX) : Hd (vcI P (.mv x) e h) K w = (K (ev e x) h) := by simp [Hd, vcI, fok, fop]
theorem vcI_pick (c a b : SX) : Hd (vcI P (.pick c a b) e h) K w = ((okPick (ev e c) /\ K (aPick (ev e c) (ev e a) (ev e b)) h)) := rfl
theorem vcI_bin (op : BinOp) (x y : SX) : Hd (vcI P (.bin op x y) e h) K w = ((V8 op (ev e x) (ev e y) /\ K (YJ op (ev e x) (ev e y)) h)) := rfl
theorem vcI_eqs (n : Bool) (ks : List Nat) (x y : SX) : Hd (vcI P (.eqs n ks x y) e h) K w = ((okEqs ks (ev e x) (ev e y) /\ K (aEqs n (ev e x) (ev e y)) h)) := rfl
theorem vcI_eqb (n : Bool) (x y : SX) : Hd (vcI P (.eqb n x y) e h) K w = ((okEqb (ev e x) (ev e y) /\ K (aEqb n (ev e x) (ev e y)) h)) := rfl
theorem vcI_un (op : UnOp) (x : SX) : Hd (vcI P (.un op x) e h) K w = ((okUn op (ev e x) /\ K (aUn op (ev e x)) h)) := rfl
theorem vcI_r2s (x : SX) : Hd (vcI P (.r2s x) e h) K w = ((okCvi (ev e x) /\ K (aR2s (ev e x)) h)) := rfl
theorem aR2s_int (k : IntKind) (r : Int) : aR2s (.int k r) = .str (Utf8.encode r).data.toList := rfl
theorem vcI_cvi (k : IntKind) (x : SX) : Hd (vcI P (.cvi k x) e h) K w = ((okCvi (ev e x) /\ K (aCvi k (ev e x)) h)) := rfl
theorem vcI_idc (x : SX) : Hd (vcI P (.idc x) e h) K w = (((∃ l, ev e x = .str l) /\ K (ev e x) h)) := rfl
theorem vcI_fld (o s : Nat) (b : Bool) (x : SX) : Hd (vcI P (.fld o s b x) e h) K w = ((okFld o s b (ev e x) /\ K (aFld o s b (ev e x)) h)) := rfl
theorem vcI_fldA (o : Nat) (x : SX) : Hd (vcI P (.fldA o x) e h) K w = ((okFldA (ev e x) /\ K (aFldA o (ev e x)) h)) := rfl
theorem vcI_idxG (s : Nat) (x i : SX) : Hd (vcI P (.idxG s x i) e h) K w = ((okIdxG s (ev e x) (ev e i) /\ K (aIdxG (ev e x) (ev e i)) h)) := rfl
theorem vcI_idxA (s : Nat) (x i : SX) : Hd (vcI P (.idxA s x i) e h) K w = ((okIdxA s (ev e x) (ev e i) /\ K (aIdxA (ev e x) (ev e i)) h)) := rfl
theorem vcI_idxS (x i : SX) : Hd (vcI P (.idxS x i) e h) K w = ((okIdxS (ev e x) (ev e i) /\ K (aIdxS (ev e x) (ev e i)) h)) := rfl
theorem vcI_ldm (t s : Nat) (b : Bool) (x : SX) : Hd (vcI P (.ldm t s b x) e h) K w = (((okLd h s b (ev e x) /\ aLd h s b (ev e x) = e t) /\ K (aLd h s b (ev e x)) h)) := rfl
theorem vcI_ld (s : Nat) (b : Bool) (x : SX) : Hd (vcI P (.ld s b x) e h) K w = ((okLd h s b (ev e x) /\ K (aLd h s b (ev e x)) h)) := rfl
theorem vcI_slS (x : SX) (lo hi : Option SX) : Hd (vcI P (.slS x lo hi) e h) K w = ((okSlS (ev e x) (evO e lo) (evO e hi) /\ K (aSlS (ev e x) (evO e lo) (evO e hi)) h)) := rfl
theorem vcI_slA (s : Nat) (x : SX) (lo hi : Option SX) : Hd (vcI P (.slA s x lo hi) e h) K w = ((okSlA s (ev e x) (evO e lo) (evO e hi) /\ K (aSlA (ev e x) (evO e lo) (evO e hi)) h)) := rfl
theorem vcI_slM (s : Nat) (x : SX) (lo hi mx : Option SX) : Hd (vcI P (.slM s x lo hi mx) e h) K w = ((okSlM (ev e x) (evO e lo) (evO e hi) (evO e mx) /\ K .dead h)) := rfl
theorem vcI_ext (x : SX) (i : Nat) : Hd (vcI P (.ext x i) e h) K w = ((okExt i (ev e x) /\ K (aExt i (ev e x)) h)) := rfl
theorem vcI_bld (z : List AVal) (ps : List (Nat × Nat × SX)) : Hd (vcI P (.bld z ps) e h) K w = ((X0 z.length (ps.map fun p => (p.1, p.2.1, ev e p.2.2)) /\ K (.agg (K7 z (ps.map fun p => (p.1, p.2.1, ev e p.2.2)))) h)) := rfl
theorem vcI_bldF (ty s : Nat) (ps : List SX) : Hd (vcI P (.bldF ty s ps) e h) K w = ((Z2 s e ps /\ K (if ps.isEmpty then .emp else .slc (ps.map fun x => cellsOf (ev e x))) h)) := rfl
theorem vcI_len (x : SX) : Hd (vcI P (.len x) e h) K w = ((okLen (ev e x) /\ K (aLen (ev e x)) h)) := rfl
theorem vcI_lenS (x : SX) : Hd (vcI P (.lenS x) e h) K w = ((okLenS (ev e x) /\ K (aLenS (ev e x)) h)) := rfl
theorem vcI_min2 (x y : SX) : Hd (vcI P (.min2 x y) e h) K w = ((ok2i (ev e x) (ev e y) /\ K (aMin (ev e x) (ev e y)) h)) := rfl
theorem vcI_max2 (x y : SX) : Hd (vcI P (.max2 x y) e h) K w = ((ok2i (ev e x) (ev e y) /\ K (aMax (ev e x) (ev e y)) h)) := rfl
theorem vcI_mkf (f : Nat) (a b : List SX) : Hd (vcI P (.mkf f a b) e h) K w = (K (.fn f (a.map (ev e)) (b.map (ev e))) h) := by simp [Hd, vcI, fok, fop]
theorem vcI_isnil (k : Nat) (n : Bool) (x : SX) : Hd (vcI P (.isnil k n x) e h) K w = (Hd (XY k n (ev e x)) (fun r => K r h) .mk) := rfl
theorem vcI_bldR (ty s : Nat) (ps : List SX) : Hd (vcI P (.bldR ty s ps) e h) K w = (Hd (litE ty s ps e h) K w) := rfl
theorem vcI_box (ty s : Nat) (x : SX) : Hd (vcI P (.box ty s x) e h) K w = ((isV (ev e x) = true /\ (cellsOf (ev e x)).length = s /\ ∀ r, h r = none -> K (.vp r 0) (upd h r (some ⟨ty, s, [cellsOf (ev e x)]⟩)))) := rfl
theorem vcI_boxF (ty s : Nat) (x : SX) : Hd (vcI P (.boxF ty s x) e h) K w = (isV (ev e x) = true /\ (cellsOf (ev e x)).length = s /\ K (.pin (cellsOf (ev e x))) h) := rfl
theorem vcI_new (ty s : Nat) (z : List AVal) : Hd (vcI P (.new ty s z) e h) K w = (∀ r, h r = none -> K (.vp r 0) (upd h r (some ⟨ty, s, [z]⟩))) := rfl
theorem vcI_newnil (ty s : Nat) : Hd (vcI P (.newnil ty s) e h) K w = (∀ r, h r = none -> K (.osl r s 0 0) (upd h r (some ⟨ty, s, []⟩))) := rfl
theorem vcI_st (s : Nat) (x v : SX) : Hd (vcI P (.st s x v) e h) K w = (Hd (stE s (ev e x) (ev e v) h) K w) := rfl
theorem vcI_app (ty s b : Nat) (x y : SX) : Hd (vcI P (.app ty s b x y) e h) K w = (∃ es2, Rd h s (ev e y) es2 /\ Hd (appE ty s b (ev e x) es2 h) K w) := rfl
theorem vcI_appS (ty b : Nat) (x y : SX) : Hd (vcI P (.appS ty b x y) e h) K w = (∃ l, ev e y = .str l /\ ((ev e x = .emp /\ l = [] /\ K .emp h) \/ Hd (appE ty 1 b (ev e x) (Y0 l) h) K w)) := rfl
theorem vcI_appF (ty s b : Nat) (x y : SX) : Hd (vcI P (.appF ty s b x y) e h) K w = (∃ es2, Rd h s (ev e y) es2 /\ Hd (appFE ty s b (ev e x) es2 h) K w) := rfl
theorem vcI_frz (x : SX) : Hd (vcI P (.frz x) e h) K w = Hd (frzE (ev e x) h) K w := rfl
theorem vcI_appIn (ty s : Nat) (x y : SX) : Hd (vcI P (.appIn ty s x y) e h) K w = (∃ es2, Rd h s (ev e y) es2 /\ Hd (appInE s (ev e x) es2 h) K w) := rfl
theorem vcI_slX (s : Nat) (x : SX) (lo hi : Option SX) : Hd (vcI P (.slX s x lo hi) e h) K w = (Hd (slXE s (ev e x) (evO e lo) (evO e hi) h) K w) := rfl
theorem vcI_mks (ty s b : Nat) (z : List AVal) (n c : SX) : Hd (vcI P (.mks ty s b z n c) e h) K w = (Hd (mksE ty s b z (ev e n) (ev e c) h) K w) := rfl
theorem vcI_copy (s : Nat) (x y : SX) : Hd (vcI P (.copy s x y) e h) K w = (∃ es2, Rd h s (ev e y) es2 /\ Hd (copyE s (ev e x) es2 h) K w) := rfl
theorem vcI_clear (s : Nat) (z : List AVal) (x : SX) : Hd (vcI P (.clear s z x) e h) K w = (Hd (clearE s z (ev e x) h) K w) := rfl
theorem vcI_call (f : SX) (args : List SX) : Hd (vcI P (.call f args) e h) K w = (Hd (callE P (ev e f) (args.map (ev e)) h) K w) := rfl
theorem vcI_b2s (x : SX) : Hd (vcI P (.b2s x) e h) K w = (∃ l, Rd h 1 (ev e x) (Y0 l) /\ K (.str l) h) := rfl
theorem vcI_usd (x : SX) : Hd (vcI P (.usd x) e h) K w = (Hd (usdE (ev e x) h) K w) := rfl
theorem vcI_ustr (ty : Nat) (x y : SX) : Hd (vcI P (.ustr ty x y) e h) K w = (Hd (ustrE ty (ev e x) (ev e y) h) K w) := rfl
theorem vcI_pcall (f : Nat) (args : List SX) : Hd (vcI P (.pcall f args) e h) K w = (Hd (pcallE P f (args.map (ev e))) (fun v => K v h) .mk) := rfl
theorem vcI_s2b (ty : Nat) (x : SX) : Hd (vcI P (.s2b ty x) e h) K w = Hd (s2bE ty (ev e x) h) K w := rfl
theorem s2bE_str (ty : Nat) (l : List UInt8) : Hd (s2bE ty (.str l) h) K w = (l.length <= 140737488355328 /\ ∀ r, h r = none -> K (.osl r 1 0 l.length) (upd h r (some ⟨.b ty, 1, Y0 l⟩))) := rfl
theorem vcI_rng (x : SX) : Hd (vcI P (.rng x) e h) K w = Hd (rngE (ev e x) h) K w := rfl
theorem rngE_str (l : List UInt8) : Hd (rngE (.str l) h) K w = (∀ r, h r = none -> K (.ptr r 0 0) (upd h r (some (itO l 0)))) := rfl
theorem vcI_nxt (x : SX) : Hd (vcI P (.nxt x) e h) K w = Hd (nxtE (ev e x) h) K w := rfl
theorem nxtE_ptr (r : Nat) : Hd (nxtE (.ptr r 0 0) h) K w = (∃ l p, h r = some (itO l p) /\ (p < l.length -> K (.tup [.bool true, Q4 p, .int .i32 (runeAt l p).1]) (upd h r (some (itO l (p + (runeAt l p).2))))) /\ (l.length <= p -> K (.tup [.bool false]) h)) := rfl
theorem vcI_mkm (ty : Nat) : Hd (vcI P (.mkm ty) e h) K w = (∀ r, h r = none -> K (.mpr r) (upd h r (some ⟨.m ty [], 1, []⟩))) := rfl
theorem vcI_mup (kt : Option IntKind) (m k v : SX) : Hd (vcI P (.mup kt m k v) e h) K w = Hd (mupE kt (ev e m) (ev e k) (ev e v) h) K w := rfl
theorem vcI_lkp (kt : Option IntKind) (ok : Bool) (z : AVal) (m k : SX) : Hd (vcI P (.lkp kt ok z m k) e h) K w = (okLkp h kt (ev e m) (ev e k) /\ K (aLkp h ok z (ev e m) (ev e k)) h) := rfl
theorem mupE_mpr (kt : Option IntKind) (r : Nat) (k v : AVal) : Hd (mupE kt (.mpr r) k v h) K w = (∃ ob, h r = some ob /\ ob.ty.isM = true /\ K2 kt k = true /\ ob.ty.ents.all (fun p => K2 kt p.1) = true /\
    K .dead (upd h r (some { ob with ty := ob.ty.setM (mPut k v ob.ty.ents) }))) := rfl
theorem vcV_none (d : Option Nat) (si : SI) : Hd (vcV P ⟨d, si, none⟩ e h) K w = Hd (vcI P si e h) K w := rfl
theorem gateP_X (v : AVal) (b : Bool) (ok : Prop) (f : AVal -> Prop) (r : AVal) (w : Wit2 (ok /\ f r) (f (.tup []))) : WU v b ok (f (gateV v b r)) = UJ v b (ok /\ f r) (f (.tup [])) w := by
  unfold WU gateV UJ
  cases UW v b with
  | none => rfl
  | some t => cases t <;> simp
theorem gateE_X (v : AVal) (b : Bool) (k1 k2 : Prop) (w : Wit2 k1 k2) : gateE v b k1 k2 = UJ v b k1 k2 w := by
  unfold gateE UJ
  cases UW v b with
  | none => rfl
  | some t => cases t <;> simp
theorem vcI_stable {si : SI} (hs : si.gated = true) : vcI P si e h K = (fok si e h /\ K (fop si e h) h) := by
  cases si <;> first | rfl | simp [SI.gated, SI.stable] at hs
theorem gateP_E (v : AVal) (b : Bool) (ok : AVal -> Prop) (f : AVal -> Prop) (w : Wit2 (∃ r, ok r /\ f r) (f (.tup []))) : (∃ r, WU v b (ok r) (f (gateV v b r))) = UJ v b (∃ r, ok r /\ f r) (f (.tup [])) w := by
  unfold WU gateV UJ
  cases UW v b with
  | none => simp
  | some t =>
    cases t
    · simp only [Bool.false_eq_true, false_implies, true_and, if_false, eq_iff_iff]
      exact ⟨fun ⟨_, h⟩ => h, fun h => ⟨.dead, h⟩⟩
    · simp
theorem vcG_X (s : Nat) (b : Bool) (si : SI) : vcG P s b si e h K = UJ (e s) b (vcI P si e h K) (K (.tup []) h) .mk := by
  by_cases hg : si.gated = true
  · have hv := vcI_stable (P := P) (e := e) (h := h) (K := K) hg
    have := gateP_X (e s) b (fok si e h) (fun r => K r h) (fop si e h) .mk
    have h2 : UJ (e s) b (vcI P si e h K) (K (.tup []) h) .mk = UJ (e s) b (fok si e h /\ K (fop si e h) h) (K (.tup []) h) .mk := by
      unfold UJ; rw [hv]
    rw [h2, <- this]
    cases si <;> first | (simp [SI.gated, SI.stable] at hg; done) | simp [vcG, SI.gated, SI.stable]
  · cases si with
    | pcall f args => exact gateP_E (e s) b (fun v => PCalls P f (args.map (ev e)) v) (fun v => K v h) .mk
    | _ => first | (exact absurd rfl hg) | (rw [<- gateE_X]; rfl)
theorem vcV_some (d : Option Nat) (si : SI) (s : Nat) (b : Bool) : Hd (vcV P ⟨d, si, some (s, b)⟩ e h) K w = UJ (e s) b (Hd (vcI P si e h) K w) (K (.tup []) h) .mk := vcG_X s b si
section
variable {L : Env -> Q2 -> Prop} {wl : Wit L}
theorem vcOps_nil : Hd (vcOps P [] e h) L wl = L e h := rfl
theorem vcOps_cons (op : SOp) (r : List SOp) : Hd (vcOps P (op :: r) e h) L wl = Hd (vcV P op e h) (fun v h' => Hd (vcOps P r (K9 e op.dst v) h') L wl) .mk := rfl
theorem vcD_nil (rs : List (Nat × Nat)) : Hd (vcD P [] rs e h) L wl = L e h := rfl
theorem vcD_false (op : SOp) (r : List (SOp × Option (List Nat))) (rs : List (Nat × Nat)) : Hd (vcD P ((op, none) :: r) rs e h) L wl = Hd (vcV P op e h) (fun v h' => Hd (vcD P r (Y6 op e ++ rs) (K9 e op.dst v) h') L wl) .mk := rfl
theorem vcD_true (op : SOp) (an : List Nat) (r : List (SOp × Option (List Nat))) (rs : List (Nat × Nat)) : Hd (vcD P ((op, some an) :: r) rs e h) L wl = Hd (vcV P op e h) (fun v h' => keepR (op.rd ++ an) rs h h' /\ Hd (vcD P r (dropR (op.rd ++ an) rs) (K9 e op.dst v) h') L wl) .mk := rfl
theorem keepR_nil (rd : List Nat) (h h' : Q2) : keepR rd [] h h' = True := by simp [keepR]
theorem keepR_cons (rd : List Nat) (d t : Nat) (rs : List (Nat × Nat)) (h h' : Q2) : keepR rd ((d, t) :: rs) h h' = ((rd.contains d = false -> h' t = h t) /\ keepR rd rs h h') := by
  simp [keepR]
theorem dropR_nil (rd : List Nat) : dropR rd [] = [] := rfl
theorem dropR_cons (rd : List Nat) (d t : Nat) (rs : List (Nat × Nat)) : dropR rd ((d, t) :: rs) = if rd.contains d = true then dropR rd rs else (d, t) :: dropR rd rs := by
  unfold dropR
  rw [List.filter_cons]
  cases rd.contains d <;> simp
def Sp (v : AVal) (K : AVal -> Prop) (_ : Wit K) : Prop := K v
theorem Q0 (d : Nat) (si : SI) (g : Option (Nat × Bool)) (r : List SOp) : Hd (vcOps P (⟨some d, si, g⟩ :: r) e h) L wl = Hd (vcV P ⟨some d, si, g⟩ e h) (fun v h' => Sp v (fun v' => Hd (vcOps P r (upd e d v') h') L wl) .mk) .mk := rfl
theorem Z0 (d : Nat) (si : SI) (g : Option (Nat × Bool)) (r : List (SOp × Option (List Nat))) (rs : List (Nat × Nat)) : Hd (vcD P ((⟨some d, si, g⟩, none) :: r) rs e h) L wl = Hd (vcV P ⟨some d, si, g⟩ e h) (fun v h' => Sp v (fun v' => Hd (vcD P r (Y6 ⟨some d, si, g⟩ e ++ rs) (upd e d v') h') L wl) .mk) .mk := rfl
end
variable {Q : SExit -> Env -> Q2 -> Prop}
theorem vc_skip : vc P .skip Q e h = Q .normal e h := rfl
theorem vc_reg (ops : List SOp) : vc P (.reg ops) Q e h = Hd (vcOps P ops e h) (Q .normal) .mk := rfl
theorem vc_dreg (ops : List (SOp × Option (List Nat))) : vc P (.dreg ops) Q e h = Hd (vcD P ops [] e h) (Q .normal) .mk := rfl
theorem vc_seq (a b : SCode) : vc P (.seq a b) Q e h = vc P a (UU (vc P b Q) Q) e h := rfl
theorem vc_cond (x : SX) (a b : SCode) : vc P (.cond x a b) Q e h = condW (ev e x) (vc P a Q e h) (vc P b Q e h) .mk := rfl
theorem vc_block (id : Nat) (c : SCode) : vc P (.block id c) Q e h = vc P c (blockK id Q) e h := rfl
theorem vc_loop (c : SCode) : vc P (.loop c) Q e h = LoopVC (vc P c) Q e h := rfl
theorem vc_range (f : SX) (ps : List Nat) (a b : SCode) : vc P (.range f ps a b) Q e h = RangeVC P f ps (vc P a) (vc P b) Q e h := rfl
theorem setPs_cons (p : Nat) (ps : List Nat) (v : AVal) (vs : List AVal) : setPs e (p :: ps) (v :: vs) = setPs (upd e p v) ps vs := rfl
theorem setPs_nil : setPs e [] [] = e := rfl
theorem roundK_normal {X : Type} (I : List X -> Q2 -> Prop) (Ix : SExit -> List X -> Q2 -> Prop) (pre : List X) : roundK I Ix pre .normal e h = I pre h := rfl
theorem roundK_exit {X : Type} (I : List X -> Q2 -> Prop) (Ix : SExit -> List X -> Q2 -> Prop) (pre : List X) (id : Nat) : roundK I Ix pre (.exit id) e h = Ix (.exit id) pre h := rfl
theorem roundK_ret {X : Type} (I : List X -> Q2 -> Prop) (Ix : SExit -> List X -> Q2 -> Prop) (pre : List X) : roundK I Ix pre .ret e h = Ix .ret pre h := rfl
theorem RangeVC.intro {f : SX} {ps : List Nat} {va vb : (SExit -> Env -> Q2 -> Prop) -> Env -> Q2 -> Prop} {X : Type} {enc : X -> List AVal} {xs : List X} {N k : Nat} {cap : List AVal}
    (hit : IterV P k cap enc xs N) (hf : ev e f = .fn k [] cap) (hl : ∀ x, (enc x).length = ps.length) (I : List X -> Q2 -> Prop) (Ix : SExit -> List X -> Q2 -> Prop) (h0 : I [] h)
    (hb : ∀ pre x h', I pre h' -> pre.length < N -> va (UU (vb (roundK I Ix (pre ++ [x]))) fun _ _ _ => False) (setPs e ps (enc x)) h') (hq : ∀ h', I xs h' -> Q .normal e h')
    (hx : ∀ ex pre h', ex ≠ .normal -> pre <+: xs -> Ix ex pre h' -> Q ex e h') (hs : (∀ pre, Strp h (I pre)) /\ ∀ ex pre, Strp h (Ix ex pre)) : RangeVC P f ps va vb Q e h := .inl ⟨X, enc, xs, N, k, cap, hf, hit, hl, I, Ix, ⟨fun pre => (hs.1 pre).toM, fun ex pre => (hs.2 ex pre).toM⟩, h0, hb, hq, hx⟩
theorem RangeVC.introM {f : SX} {ps : List Nat} {va vb : (SExit -> Env -> Q2 -> Prop) -> Env -> Q2 -> Prop} {X : Type} {enc : X -> List AVal} {xs : List X} {N k : Nat} {cap : List AVal}
    (hit : IterV P k cap enc xs N) (hf : ev e f = .fn k [] cap) (hl : ∀ x, (enc x).length = ps.length) (I : List X -> Q2 -> Prop) (Ix : SExit -> List X -> Q2 -> Prop) (h0 : I [] h)
    (hb : ∀ pre x h', I pre h' -> pre.length < N -> va (UU (vb (roundK I Ix (pre ++ [x]))) fun _ _ _ => False) (setPs e ps (enc x)) h') (hq : ∀ h', I xs h' -> Q .normal e h')
    (hx : ∀ ex pre h', ex ≠ .normal -> pre <+: xs -> Ix ex pre h' -> Q ex e h') (hs : (∀ pre, StrpM h (I pre)) /\ ∀ ex pre, StrpM h (Ix ex pre)) : RangeVC P f ps va vb Q e h := .inl ⟨X, enc, xs, N, k, cap, hf, hit, hl, I, Ix, hs, h0, hb, hq, hx⟩
theorem RangeVC.introI {f : SX} {ps : List Nat} {va vb : (SExit -> Env -> Q2 -> Prop) -> Env -> Q2 -> Prop} {k : Nat} {cap : List AVal} {IT : ITr} (hit : IterS P k cap IT) (hf : ev e f = .fn k [] cap) (hI : IT (bdy ps va vb e) h (doneK Q e)) : RangeVC P f ps va vb Q e h := .inr ⟨k, cap, IT, hf, hit, hI⟩
theorem vc_goto (l : Nat) : vc P (.goto l) Q e h = Q (.goto l) e h := rfl
theorem vc_label (l : Nat) : vc P (.label l) Q e h = Q .normal e h := rfl
theorem vc_scope (l : Nat) (c r : SCode) : vc P (.scope l c r) Q e h = vc P c (gotoK l (vc P r (noGoK Q)) Q) e h := rfl
theorem gotoK_goto (l j : Nat) (N : Env -> Q2 -> Prop) : gotoK l N Q (.goto j) e h = (j = l /\ N e h) := rfl
theorem gotoK_normal (l : Nat) (N : Env -> Q2 -> Prop) : gotoK l N Q .normal e h = Q .normal e h := rfl
theorem gotoK_exit (l id : Nat) (N : Env -> Q2 -> Prop) : gotoK l N Q (.exit id) e h = Q (.exit id) e h := rfl
theorem gotoK_ret (l : Nat) (N : Env -> Q2 -> Prop) : gotoK l N Q .ret e h = Q .ret e h := rfl
theorem noGoK_normal : noGoK Q .normal e h = Q .normal e h := rfl
theorem noGoK_exit (id : Nat) : noGoK Q (.exit id) e h = Q (.exit id) e h := rfl
theorem noGoK_ret : noGoK Q .ret e h = Q .ret e h := rfl
theorem thenK_goto (N : Env -> Q2 -> Prop) (l : Nat) : UU N Q (.goto l) e h = Q (.goto l) e h := rfl
theorem blockK_goto (id l : Nat) : blockK id Q (.goto l) e h = Q (.goto l) e h := rfl
theorem vc_exit (id : Nat) : vc P (.exit id) Q e h = Q (.exit id) e h := rfl
theorem vc_ret : vc P .ret Q e h = Q .ret e h := rfl
variable {N : Env -> Q2 -> Prop}
theorem thenK_normal : UU N Q .normal e h = N e h := rfl
theorem thenK_exit (id : Nat) : UU N Q (.exit id) e h = Q (.exit id) e h := rfl
theorem thenK_ret : UU N Q .ret e h = Q .ret e h := rfl
theorem blockK_normal (id : Nat) : blockK id Q .normal e h = Q .normal e h := rfl
theorem blockK_ret (id : Nat) : blockK id Q .ret e h = Q .ret e h := rfl
theorem blockK_exit (id j : Nat) : blockK id Q (.exit j) e h = if j = id then Q .normal e h else Q (.exit j) e h := rfl
variable {rs : List SRes} {R : AVal -> Q2 -> Prop}
theorem ev_t (n : Nat) : ev e (.t n) = e n := rfl
theorem ev_c (v : AVal) : ev e (.c v) = v := rfl
theorem evO_some (x : SX) : evO e (some x) = some (ev e x) := rfl
theorem evO_none : evO e none = none := rfl
theorem setD_some (d : Nat) (v : AVal) : K9 e (some d) v = upd e d v := rfl
theorem setD_none (v : AVal) : K9 e none v = e := rfl
theorem LoopVC.intro {b : (SExit -> Env -> Q2 -> Prop) -> Env -> Q2 -> Prop} (I : Nat -> Env -> Q2 -> Prop) (m : Nat) (h0 : I m e h) (hr : ∀ m e h, I m e h -> b (UU (fun e' h' => ∃ m', m' < m /\ I m' e' h') Q) e h) : LoopVC b Q e h :=
  ⟨I, ⟨m, h0⟩, hr⟩
end
class LenE {α : Type} (enc : α -> List AVal) (sz : outParam Nat) : Prop where
  len : ∀ x, (enc x).length = sz
def sl {α : Type} (enc : α -> List AVal) (l : List α) : AVal := .slc (l.map enc)
def nth {α : Type} [Inhabited α] (l : List α) (i : Nat) : α := l.getD i default
theorem T9 {α : Type} [Inhabited α] {l : List α} {i : Nat} (h : i < l.length) : l[i]? = some (nth l i) := K3 l i default h
section
set_option linter.unusedSectionVars false
variable {α : Type} [Inhabited α] {enc : α -> List AVal} {l : List α} {sz : Nat}
theorem aLen_sl : aLen (sl enc l) = Q4 l.length := by simp [aLen, sl]
theorem okLen_sl : okLen (sl enc l) = True := rfl
theorem okIdxA_sl [LenE enc sz] {s : Nat} {k : IntKind} {n : Int} : okIdxA s (sl enc l) (.int k n) = (0 <= n /\ n < l.length /\ sz = s) := by
  simp only [okIdxA, sl, List.length_map, eq_iff_iff]
  refine and_congr_right fun h0 => and_congr_right fun h1 => ?_
  have : ((l.map enc).getD n.toNat []) = enc (nth l n.toNat) := by
    rw [List.getD_eq_getElem?_getD, List.getElem?_map, T9 (by omega)]
    rfl
  rw [this, LenE.len (enc := enc)]
theorem aIdxA_sl {k : IntKind} {n : Int} (h0 : 0 <= n) (h1 : n < l.length) : aIdxA (sl enc l) (.int k n) = .pin (enc (nth l n.toNat)) := by
  simp only [aIdxA, sl]
  rw [List.getD_eq_getElem?_getD, List.getElem?_map, T9 (by omega)]
  rfl
end
def Z3 (n : Int) : List AVal := [.int .i64 n]
instance : LenE Z3 1 := ⟨fun _ => rfl⟩
theorem wrap_i64 {n : Int} (h0 : -9223372036854775808 <= n) (h1 : n <= 9223372036854775807) : IntKind.i64.wrap n = n := by
  rw [IntKind.wrap_i64]; omega
theorem aBin_add (k k' : IntKind) (a b : Int) : YJ .add (.int k a) (.int k' b) = .int k (k.wrap (a + b)) := rfl
theorem okBin_add (k k' : IntKind) (a b : Int) : V8 .add (.int k a) (.int k' b) = (k = k') := rfl
theorem aBin_sub (k k' : IntKind) (a b : Int) : YJ .sub (.int k a) (.int k' b) = .int k (k.wrap (a - b)) := rfl
theorem okBin_sub (k k' : IntKind) (a b : Int) : V8 .sub (.int k a) (.int k' b) = (k = k') := rfl
theorem aBin_mul (k k' : IntKind) (a b : Int) : YJ .mul (.int k a) (.int k' b) = .int k (k.wrap (a * b)) := rfl
theorem okBin_mul (k k' : IntKind) (a b : Int) : V8 .mul (.int k a) (.int k' b) = (k = k') := rfl
theorem aBin_quo (k k' : IntKind) (a b : Int) : YJ .quo (.int k a) (.int k' b) = .int k (k.wrap (a.tdiv b)) := rfl
theorem okBin_quo (k k' : IntKind) (a b : Int) : V8 .quo (.int k a) (.int k' b) = (k = k' /\ b ≠ 0) := rfl
theorem aBin_rem (k k' : IntKind) (a b : Int) : YJ .rem (.int k a) (.int k' b) = .int k (a.tmod b) := rfl
theorem okBin_rem (k k' : IntKind) (a b : Int) : V8 .rem (.int k a) (.int k' b) = (k = k' /\ b ≠ 0) := rfl
theorem aBin_shl (k k' : IntKind) (a b : Int) : YJ .shl (.int k a) (.int k' b) = .int k (k.wrap (a * 2 ^ (min b.toNat k.bits))) := rfl
theorem okBin_shl (k k' : IntKind) (a b : Int) : V8 .shl (.int k a) (.int k' b) = (0 <= b) := rfl
theorem aBin_shr (k k' : IntKind) (a b : Int) : YJ .shr (.int k a) (.int k' b) = .int k (a.fdiv (2 ^ (min b.toNat k.bits))) := rfl
theorem okBin_shr (k k' : IntKind) (a b : Int) : V8 .shr (.int k a) (.int k' b) = (0 <= b) := rfl
theorem aBin_eql (k k' : IntKind) (a b : Int) : YJ .eql (.int k a) (.int k' b) = .bool (a == b) := rfl
theorem okBin_eql (k k' : IntKind) (a b : Int) : V8 .eql (.int k a) (.int k' b) = (k = k') := rfl
theorem aBin_neq (k k' : IntKind) (a b : Int) : YJ .neq (.int k a) (.int k' b) = .bool (a != b) := rfl
theorem okBin_neq (k k' : IntKind) (a b : Int) : V8 .neq (.int k a) (.int k' b) = (k = k') := rfl
theorem aBin_lss (k k' : IntKind) (a b : Int) : YJ .lss (.int k a) (.int k' b) = .bool (decide (a < b)) := rfl
theorem okBin_lss (k k' : IntKind) (a b : Int) : V8 .lss (.int k a) (.int k' b) = (k = k') := rfl
theorem aBin_leq (k k' : IntKind) (a b : Int) : YJ .leq (.int k a) (.int k' b) = .bool (decide (a <= b)) := rfl
theorem okBin_leq (k k' : IntKind) (a b : Int) : V8 .leq (.int k a) (.int k' b) = (k = k') := rfl
theorem aBin_gtr (k k' : IntKind) (a b : Int) : YJ .gtr (.int k a) (.int k' b) = .bool (decide (b < a)) := rfl
theorem okBin_gtr (k k' : IntKind) (a b : Int) : V8 .gtr (.int k a) (.int k' b) = (k = k') := rfl
theorem aBin_geq (k k' : IntKind) (a b : Int) : YJ .geq (.int k a) (.int k' b) = .bool (decide (b <= a)) := rfl
theorem okBin_geq (k k' : IntKind) (a b : Int) : V8 .geq (.int k a) (.int k' b) = (k = k') := rfl
theorem aBin_and (k k' : IntKind) (a b : Int) : YJ .and (.int k a) (.int k' b) = .int k (QZ .and k a b) := rfl
theorem okBin_and (k k' : IntKind) (a b : Int) : V8 .and (.int k a) (.int k' b) = (k = k') := rfl
theorem aBin_or (k k' : IntKind) (a b : Int) : YJ .or (.int k a) (.int k' b) = .int k (QZ .or k a b) := rfl
theorem okBin_or (k k' : IntKind) (a b : Int) : V8 .or (.int k a) (.int k' b) = (k = k') := rfl
theorem aBin_xor (k k' : IntKind) (a b : Int) : YJ .xor (.int k a) (.int k' b) = .int k (QZ .xor k a b) := rfl
theorem okBin_xor (k k' : IntKind) (a b : Int) : V8 .xor (.int k a) (.int k' b) = (k = k') := rfl
theorem aBin_andNot (k k' : IntKind) (a b : Int) : YJ .andNot (.int k a) (.int k' b) = .int k (QZ .andNot k a b) := rfl
theorem okBin_andNot (k k' : IntKind) (a b : Int) : V8 .andNot (.int k a) (.int k' b) = (k = k') := rfl
theorem aBinS_add (a b : List UInt8) : YJ .add (.str a) (.str b) = .str (a ++ b) := rfl
theorem okBinS_add (a b : List UInt8) : V8 .add (.str a) (.str b) = (a.length + b.length <= 9223372036854775807) := rfl
theorem aBinS_eql (a b : List UInt8) : YJ .eql (.str a) (.str b) = .bool (a == b) := rfl
theorem okBinS_eql (a b : List UInt8) : V8 .eql (.str a) (.str b) = True := rfl
theorem aBinS_neq (a b : List UInt8) : YJ .neq (.str a) (.str b) = .bool (a != b) := rfl
theorem okBinS_neq (a b : List UInt8) : V8 .neq (.str a) (.str b) = True := rfl
theorem aBinS_lss (a b : List UInt8) : YJ .lss (.str a) (.str b) = .bool (Op.bytesLess a b) := rfl
theorem okBinS_lss (a b : List UInt8) : V8 .lss (.str a) (.str b) = True := rfl
theorem aBinS_geq (a b : List UInt8) : YJ .geq (.str a) (.str b) = .bool (!Op.bytesLess a b) := rfl
theorem okBinS_geq (a b : List UInt8) : V8 .geq (.str a) (.str b) = True := rfl
theorem aBinS_gtr (a b : List UInt8) : YJ .gtr (.str a) (.str b) = .bool (!(Op.bytesLess a b || a == b)) := rfl
theorem okBinS_gtr (a b : List UInt8) : V8 .gtr (.str a) (.str b) = True := rfl
theorem aBinS_leq (a b : List UInt8) : YJ .leq (.str a) (.str b) = .bool (Op.bytesLess a b || a == b) := rfl
theorem okBinS_leq (a b : List UInt8) : V8 .leq (.str a) (.str b) = True := rfl
theorem aUn_not (b : Bool) : aUn .not (.bool b) = .bool (!b) := rfl
theorem okUn_not (b : Bool) : okUn .not (.bool b) = (UnOp.not = UnOp.not) := rfl
theorem aUn_neg (k : IntKind) (n : Int) : aUn .neg (.int k n) = .int k (k.wrap (0 - n)) := rfl
theorem okUn_neg (k : IntKind) (n : Int) : okUn .neg (.int k n) = True := by simp [okUn]
theorem okUn_xor (k : IntKind) (n : Int) : okUn .xor (.int k n) = True := by simp [okUn]
theorem bitF_not (n : Int) (h1 : -9223372036854775808 <= n) (h2 : n <= 9223372036854775807) : QZ .xor .i64 (-1) n = -1 - n := by
  unfold QZ
  have e : (BitVec.ofInt IntKind.i64.bits (-1) ^^^ BitVec.ofInt IntKind.i64.bits n) = ~~~ (BitVec.ofInt 64 n) := by
    rw [BitVec.not_def]; rfl
  have e2 : (BitVec.ofInt 64 n).toNat = (n % 18446744073709551616).toNat := BitVec.toNat_ofInt ..
  have e3 : (~~~ (BitVec.ofInt 64 n)).toNat = 18446744073709551615 - (n % 18446744073709551616).toNat := by rw [BitVec.toNat_not, e2]
  simp only [e]
  have e4 : ∀ y : BitVec 64, IntKind.i64.wrap ((y.toNat : Nat) : Int) = (y.toNat + 9223372036854775808) % 18446744073709551616 - 9223372036854775808 := fun y => IntKind.wrap_i64 _
  refine (e4 _).trans ?_
  rw [e3]
  omega
theorem aUn_xor (n : Int) (h1 : -9223372036854775808 <= n) (h2 : n <= 9223372036854775807) : aUn .xor (.int .i64 n) = .int .i64 (-1 - n) := by
  show AVal.int .i64 (QZ .xor .i64 (-1) n) = _
  rw [bitF_not n h1 h2]
theorem aEqb_bool (n a b : Bool) : aEqb n (.bool a) (.bool b) = .bool (xor n (a == b)) := rfl
theorem okEqb_bool (a b : Bool) : okEqb (.bool a) (.bool b) = True := rfl
theorem aEqs_agg (n : Bool) (as bs : List AVal) : aEqs n (.agg as) (.agg bs) = .bool (xor n (Y3 as bs)) := rfl
theorem okEqs_agg (ks : List Nat) (as bs : List AVal) : okEqs ks (.agg as) (.agg bs) = J6 ks as bs := rfl
theorem aCvi_int (k k' : IntKind) (n : Int) : aCvi k (.int k' n) = .int k (k.wrap n) := rfl
theorem okCvi_int (k' : IntKind) (n : Int) : okCvi (.int k' n) = True := rfl
theorem aPick_bool (c : Bool) (a b : AVal) : aPick (.bool c) a b = if c then a else b := rfl
theorem okPick_bool (c : Bool) : okPick (.bool c) = True := rfl
theorem aFld_agg (o s : Nat) (b : Bool) (cs : List AVal) : aFld o s b (.agg cs) = cutV s b (cs.drop o) := rfl
theorem okFld_agg (o s : Nat) (b : Bool) (cs : List AVal) : okFld o s b (.agg cs) = (o + s <= cs.length /\ (b = false -> s = 1)) := rfl
theorem cutV_true (s : Nat) (cs : List AVal) : cutV s true cs = .agg (cs.take s) := rfl
theorem cutV_false (s : Nat) (cs : List AVal) : cutV s false cs = cs.headD .dead := rfl
theorem aFldA_pin (o : Nat) (cs : List AVal) : aFldA o (.pin cs) = .pin (cs.drop o) := rfl
theorem okFldA_pin (cs : List AVal) : okFldA (.pin cs) = True := rfl
theorem deVp_vp (r j : Nat) : deVp (.vp r j) = .ptr r 0 j := rfl
theorem deVp_ptr (r i j : Nat) : deVp (.ptr r i j) = .ptr r i j := rfl
theorem deVp_pin (cs : List AVal) : deVp (.pin cs) = .pin cs := rfl
theorem aFldA_vp (o r j : Nat) : aFldA o (.vp r j) = .vp r (j + o) := rfl
theorem okFldA_vp (r j : Nat) : okFldA (.vp r j) = True := rfl
theorem aFldA_ptr (o r i j : Nat) : aFldA o (.ptr r i j) = .ptr r i (j + o) := rfl
theorem okFldA_ptr (r i j : Nat) : okFldA (.ptr r i j) = True := rfl
theorem aIdxA_osl (r sz i n : Nat) (k : IntKind) (m : Int) : aIdxA (.osl r sz i n) (.int k m) = .ptr r (i + m.toNat) 0 := rfl
theorem okIdxA_osl (s r sz i n : Nat) (k : IntKind) (m : Int) : okIdxA s (.osl r sz i n) (.int k m) = (sz = s /\ 0 <= m /\ m < n) := rfl
theorem aIdxG_pin (cs : List AVal) (k : IntKind) (m : Int) : aIdxG (.pin cs) (.int k m) = .pin (cs.drop m.toNat) := rfl
theorem okIdxG_pin (s : Nat) (cs : List AVal) (k : IntKind) (m : Int) : okIdxG s (.pin cs) (.int k m) = (0 <= m /\ m < s) := rfl
theorem aIdxA_slc (es : List (List AVal)) (k : IntKind) (m : Int) : aIdxA (.slc es) (.int k m) = .pin (es.getD m.toNat []) := rfl
theorem okIdxA_slc (s : Nat) (es : List (List AVal)) (k : IntKind) (m : Int) : okIdxA s (.slc es) (.int k m) = (0 <= m /\ m < es.length /\ (es.getD m.toNat []).length = s) := rfl
theorem aIdxS_str (l : List UInt8) (k : IntKind) (m : Int) : aIdxS (.str l) (.int k m) = .int .u8 (l.getD m.toNat 0).toNat := rfl
theorem okIdxS_str (l : List UInt8) (k : IntKind) (m : Int) : okIdxS (.str l) (.int k m) = (0 <= m /\ m < l.length) := rfl
theorem aLd_pin (h : Q2) (s : Nat) (b : Bool) (cs : List AVal) : aLd h s b (.pin cs) = cutV s b cs := rfl
theorem okLd_pin (h : Q2) (s : Nat) (b : Bool) (cs : List AVal) : okLd h s b (.pin cs) = (s <= cs.length /\ (b = false -> s = 1)) := rfl
theorem okLd_ptr (h : Q2) (s : Nat) (b : Bool) (r i j : Nat) : okLd h s b (.ptr r i j) = ∃ o, h r = some o /\ i < o.es.length /\ j + s <= (o.es.getD i []).length /\ (b = false -> s = 1) := rfl
def ldO (o : Option AObj) (i j s : Nat) (b : Bool) : AVal := match o with | some o => cutV s b ((o.es.getD i []).drop j) | none => .dead
theorem aLd_ptr (h : Q2) (s : Nat) (b : Bool) (r i j : Nat) : aLd h s b (.ptr r i j) = ldO (h r) i j s b := rfl
theorem okLd_vp (h : Q2) (s : Nat) (b : Bool) (r j : Nat) : okLd h s b (.vp r j) = ∃ o, h r = some o /\ 0 < o.es.length /\ j + s <= (o.es.getD 0 []).length /\ (b = false -> s = 1) := rfl
theorem aLd_vp (h : Q2) (s : Nat) (b : Bool) (r j : Nat) : aLd h s b (.vp r j) = ldO (h r) 0 j s b := rfl
theorem ldO_some (o : AObj) (i j s : Nat) (b : Bool) : ldO (some o) i j s b = cutV s b ((o.es.getD i []).drop j) := rfl
theorem aExt_tup (i : Nat) (vs : List AVal) : aExt i (.tup vs) = vs.getD i .dead := rfl
theorem okExt_tup (i : Nat) (vs : List AVal) : okExt i (.tup vs) = (i < vs.length) := rfl
theorem aLen_osl (r sz i n : Nat) : aLen (.osl r sz i n) = Q4 n := rfl
theorem okLen_osl (r sz i n : Nat) : okLen (.osl r sz i n) = True := rfl
theorem aLen_slc (es : List (List AVal)) : aLen (.slc es) = Q4 es.length := rfl
theorem okLen_slc (es : List (List AVal)) : okLen (.slc es) = True := rfl
theorem aLen_emp  : aLen .emp = Q4 0 := rfl
theorem okLen_emp  : okLen .emp = True := rfl
theorem aLenS_str (l : List UInt8) : aLenS (.str l) = Q4 l.length := rfl
theorem okLenS_str (l : List UInt8) : okLenS (.str l) = True := rfl
theorem aMin_int (k k' : IntKind) (a b : Int) : aMin (.int k a) (.int k' b) = .int k (min a b) := rfl
theorem aMax_int (k k' : IntKind) (a b : Int) : aMax (.int k a) (.int k' b) = .int k (max a b) := rfl
theorem ok2i_int (k k' : IntKind) (a b : Int) : ok2i (.int k a) (.int k' b) = (k = k') := rfl
theorem aSlS_str (l : List UInt8) (lo hi : Option AVal) : aSlS (.str l) lo hi = .str ((l.take (Y9 l.length hi).toNat).drop (Y5 lo).toNat) := rfl
theorem okSlS_str (l : List UInt8) (lo hi : Option AVal) : okSlS (.str l) lo hi = (okB lo /\ okB hi /\ 0 <= Y5 lo /\ Y5 lo <= Y9 l.length hi /\ Y9 l.length hi <= l.length) := rfl
theorem loOf_int (k : IntKind) (n : Int) : Y5 (some (.int k n)) = n := rfl
theorem loOf_none  : Y5 none = 0 := rfl
theorem hiOf_int (m : Nat) (k : IntKind) (n : Int) : Y9 m (some (.int k n)) = n := rfl
theorem hiOf_none (m : Nat) : Y9 m none = m := rfl
theorem okB_int (k : IntKind) (n : Int) : okB (some (.int k n)) = True := rfl
theorem okB_none  : okB none = True := rfl
theorem aSlA_osl (r sz i n : Nat) (lo hi : Option AVal) : aSlA (.osl r sz i n) lo hi = .osl r sz (i + (Y5 lo).toNat) ((Y9 n hi).toNat - (Y5 lo).toNat) := rfl
theorem okSlA_osl (s r sz i n : Nat) (lo hi : Option AVal) : okSlA s (.osl r sz i n) lo hi = (sz = s /\ okB lo /\ okB hi /\ 0 <= Y5 lo /\ Y5 lo <= Y9 n hi /\ Y9 n hi <= n) := rfl
theorem aSlA_emp (lo hi : Option AVal) : aSlA .emp lo hi = .emp := rfl
theorem okSlA_emp (s : Nat) (lo hi : Option AVal) : okSlA s .emp lo hi = (okB lo /\ okB hi /\ Y5 lo = 0 /\ Y9 0 hi = 0) := rfl
theorem okSlM_osl (r sz i n : Nat) (lo hi mx : Option AVal) : okSlM (.osl r sz i n) lo hi mx = (True /\ okB lo /\ okB hi /\ okB mx /\ 0 <= Y5 lo /\ Y5 lo <= Y9 n hi /\ Y9 n hi <= Y9 n mx /\ Y9 n mx <= n) := rfl
theorem nil_slc (n : Bool) (es : List (List AVal)) (K : AVal -> Prop) (w : Wit K) : Hd (XY 0 n (.slc es)) K w = (∀ b : Bool, (b = true -> es = []) -> K (.bool (xor n b))) := rfl
theorem nil_emp (n : Bool) (K : AVal -> Prop) (w : Wit K) : Hd (XY 0 n .emp) K w = (∀ b : Bool, K (.bool (xor n b))) := rfl
theorem nil_osl (n : Bool) (r sz i m : Nat) (K : AVal -> Prop) (w : Wit K) : Hd (XY 0 n (.osl r sz i m)) K w = (∀ b : Bool, (b = true -> m = 0) -> K (.bool (xor n b))) := rfl
theorem nil_snil (n : Bool) (K : AVal -> Prop) (w : Wit K) : Hd (XY 0 n (.prim (.slice none 0 0))) K w = (K (.bool (!n))) := rfl
theorem nil_vp (n : Bool) (r j : Nat) (K : AVal -> Prop) (w : Wit K) : Hd (XY 1 n (.vp r j)) K w = (K (.bool n)) := rfl
theorem cells_vp (r j : Nat) : cellsOf (.vp r j) = [.vp r j] := rfl
theorem isV_vp (r j : Nat) : isV (.vp r j) = true := rfl
theorem stE_vp (s r j : Nat) (v : AVal) (h : Q2) (K : AVal -> Q2 -> Prop) (w : Wit K) : Hd (stE s (.vp r j) v h) K w = Hd (stE s (.ptr r 0 j) v h) K w := rfl
theorem nil_ptr (n : Bool) (r i j : Nat) (K : AVal -> Prop) (w : Wit K) : Hd (XY 1 n (.ptr r i j)) K w = (K (.bool n)) := rfl
theorem nil_pin (n : Bool) (cs : List AVal) (K : AVal -> Prop) (w : Wit K) : Hd (XY 1 n (.pin cs)) K w = (K (.bool n)) := rfl
theorem nil_pnil (n : Bool) (K : AVal -> Prop) (w : Wit K) : Hd (XY 1 n (.prim (.pointer none))) K w = (K (.bool (!n))) := rfl
theorem nil_fn (n : Bool) (f : Nat) (a b : List AVal) (K : AVal -> Prop) (w : Wit K) : Hd (XY 2 n (.fn f a b)) K w = (K (.bool n)) := rfl
theorem nil_fnil (n : Bool) (K : AVal -> Prop) (w : Wit K) : Hd (XY 2 n (.prim .nilFunc)) K w = (K (.bool (!n))) := rfl
theorem stE_pin (s : Nat) (cs : List AVal) (v : AVal) (h : Q2) (K : AVal -> Q2 -> Prop) (w : Wit K) : Hd (stE s (.pin cs) v h) K w = (s = 0 /\ isV v = true /\ cellsOf v = [] /\ K .dead h) := rfl
theorem stE_ptr (s r i j : Nat) (v : AVal) (h : Q2) (K : AVal -> Q2 -> Prop) (w : Wit K) : Hd (stE s (.ptr r i j) v h) K w = (∃ ob, h r = some ob /\ i < ob.es.length /\ j + s <= (ob.es.getD i []).length /\ isV v = true /\ (cellsOf v).length = s /\ K .dead (upd h r (some { ob with es := ob.es.set i (Y7 (ob.es.getD i []) j (cellsOf v)) }))) := rfl
theorem appE_emp (ty sz b : Nat) (es2 : List (List AVal)) (h : Q2) (K : AVal -> Q2 -> Prop) (w : Wit K) : Hd (appE ty sz b .emp es2 h) K w = ((es2.length * b <= 140737488355328 /\ es2.length <= 140737488355328 /\ ∀ r, h r = none -> K (.osl r sz 0 es2.length) (upd h r (some ⟨ty, sz, es2⟩)))) := rfl
theorem appE_osl (ty sz b r sz' i m : Nat) (es2 : List (List AVal)) (h : Q2) (K : AVal -> Q2 -> Prop) (w : Wit K) : Hd (appE ty sz b (.osl r sz' i m) es2 h) K w = ((sz' = sz /\ ∃ ob, h r = some ob /\ ob.ty = ty /\ i + m <= ob.es.length /\ (m + es2.length) * b <= 140737488355328 /\ m + es2.length <= 140737488355328 /\ ∀ r', del h r r' = none -> K (.osl r' sz 0 (m + es2.length)) (upd (del h r) r' (some ⟨ty, sz, (ob.es.drop i).take m ++ es2⟩)))) := rfl
theorem appFE_emp (ty sz b : Nat) (es2 : List (List AVal)) (h : Q2) (K : AVal -> Q2 -> Prop) (w : Wit K) : Hd (appFE ty sz b .emp es2 h) K w = (es2.length * b <= 140737488355328 /\ es2.length <= 140737488355328 /\ K (.slc es2) h) := rfl
theorem appFE_osl (ty sz b r sz' i m : Nat) (es2 : List (List AVal)) (h : Q2) (K : AVal -> Q2 -> Prop) (w : Wit K) : Hd (appFE ty sz b (.osl r sz' i m) es2 h) K w = (sz' = sz /\ ∃ ob, h r = some ob /\ ob.ty = ty /\ i + m <= ob.es.length /\ (m + es2.length) * b <= 140737488355328 /\ m + es2.length <= 140737488355328 /\ K (.slc ((ob.es.drop i).take m ++ es2)) (del h r)) := rfl
theorem frzE_emp (h : Q2) (K : AVal -> Q2 -> Prop) (w : Wit K) : Hd (frzE .emp h) K w = K (.slc []) h := rfl
theorem frzE_slc (es : List (List AVal)) (h : Q2) (K : AVal -> Q2 -> Prop) (w : Wit K) : Hd (frzE (.slc es) h) K w = K (.slc es) h := rfl
theorem frzE_sl {α : Type} (enc : α -> List AVal) (l : List α) (h : Q2) (K : AVal -> Q2 -> Prop) (w : Wit K) : Hd (frzE (sl enc l) h) K w = K (sl enc l) h := rfl
theorem frzE_osl (r sz i m : Nat) (h : Q2) (K : AVal -> Q2 -> Prop) (w : Wit K) : Hd (frzE (.osl r sz i m) h) K w = (∃ ob, h r = some ob /\ i + m <= ob.es.length /\ K (.slc ((ob.es.drop i).take m)) (del h r)) := rfl
theorem Rd_slc (h : Q2) (s : Nat) (es l : List (List AVal)) : Rd h s (.slc es) l = (l = es /\ ∀ e ∈ es, e.length = s) := rfl
theorem Rd_emp (h : Q2) (s : Nat) (l : List (List AVal)) : Rd h s .emp l = (l = []) := rfl
theorem cells_agg (cs : List AVal) : cellsOf (.agg cs) = cs := rfl
theorem cells_int (k : IntKind) (n : Int) : cellsOf (.int k n) = [.int k n] := rfl
theorem isV_int (k : IntKind) (n : Int) : isV (.int k n) = true := rfl
theorem cells_bool (b : Bool) : cellsOf (.bool b) = [.bool b] := rfl
theorem isV_bool (b : Bool) : isV (.bool b) = true := rfl
theorem cells_str (l : List UInt8) : cellsOf (.str l) = [.str l] := rfl
theorem isV_str (l : List UInt8) : isV (.str l) = true := rfl
theorem cells_slc (es : List (List AVal)) : cellsOf (.slc es) = [.slc es] := rfl
theorem isV_slc (es : List (List AVal)) : isV (.slc es) = true := rfl
theorem cells_emp  : cellsOf (.emp ) = [.emp ] := rfl
theorem isV_emp  : isV (.emp ) = true := rfl
theorem cells_osl (r sz i n : Nat) : cellsOf (.osl r sz i n) = [.osl r sz i n] := rfl
theorem isV_osl (r sz i n : Nat) : isV (.osl r sz i n) = true := rfl
theorem cells_ptr (r i j : Nat) : cellsOf (.ptr r i j) = [.ptr r i j] := rfl
theorem isV_ptr (r i j : Nat) : isV (.ptr r i j) = true := rfl
theorem cells_pin (cs : List AVal) : cellsOf (.pin cs) = [.pin cs] := rfl
theorem isV_pin (cs : List AVal) : isV (.pin cs) = true := rfl
theorem cells_fn (f : Nat) (a b : List AVal) : cellsOf (.fn f a b) = [.fn f a b] := rfl
theorem isV_fn (f : Nat) (a b : List AVal) : isV (.fn f a b) = true := rfl
theorem isV_agg (cs : List AVal) : isV (.agg cs) = true := rfl
theorem cells_sl {α : Type} (enc : α -> List AVal) (l : List α) : cellsOf (sl enc l) = [sl enc l] := rfl
theorem isV_sl {α : Type} (enc : α -> List AVal) (l : List α) : isV (sl enc l) = true := rfl
theorem callE_fn {P : PG} (f : Nat) (a b args : List AVal) (h : Q2) (K : AVal -> Q2 -> Prop) (w : Wit K) : Hd (callE P (.fn f a b) args h) K w = (Hd (DCalls P f (a ++ (args ++ b)) h) K w) := rfl
theorem allOK_nil (e : Env) (h : Q2) : allOK e h [] = True := rfl
theorem allOK_cons (e : Env) (h : Q2) (r : SRes) (l : List SRes) : allOK e h (r :: l) = (resOK e h r /\ allOK e h l) := rfl
theorem resOK_tmp (e : Env) (h : Q2) (t : Nat) : resOK e h (.tmp t) = True := rfl
theorem resOK_cell (e : Env) (h : Q2) (t s : Nat) (b : Bool) : resOK e h (.cell t s b) = okLd h s b (e t) := rfl
theorem resV_tmp (e : Env) (h : Q2) (t : Nat) : resV e h (.tmp t) = e t := rfl
theorem resV_cell (e : Env) (h : Q2) (t s : Nat) (b : Bool) : resV e h (.cell t s b) = aLd h s b (e t) := rfl
theorem retV_one (e : Env) (h : Q2) (r : SRes) : retV e h [r] = resV e h r := rfl
theorem retV_two (e : Env) (h : Q2) (r s : SRes) (l : List SRes) : retV e h (r :: s :: l) = .tup ((r :: s :: l).map (resV e h)) := rfl
theorem retV_nil (e : Env) (h : Q2) : retV e h [] = .tup [] := rfl
theorem initE_at (G : T0) (args : List AVal) (t : Nat) (h : t < 1000000) : QK G args t = args.getD t .dead := if_pos h
theorem initE_gl (G : T0) (args : List AVal) (t : Nat) (h : 1000000 <= t) : QK G args t = G (t - 1000000) := if_neg (by omega)
def Br (t : Bool) (A B : Prop) (_ : Wit2 A B) : Prop := (t = true -> A) /\ (t = false -> B)
section
variable {A B : Prop} {w : Wit2 A B}
theorem Br_true : Br true A B w = A := by simp [Br]
theorem Br_false : Br false A B w = B := by simp [Br]
theorem condOn_br (t : Bool) : condW (.bool t) A B w = Br t A B .mk := rfl
theorem Br.intro {t : Bool} (h1 : t = true -> A) (h2 : t = false -> B) : Br t A B .mk := ⟨h1, h2⟩
theorem Br.dec {p : Prop} [Decidable p] (h1 : p -> A) (h2 : ¬ p -> B) : Br (decide p) A B .mk := ⟨fun h => h1 (by simpa using h), fun h => h2 (by simpa using h)⟩
theorem Br.eq {α : Type} [BEq α] [LawfulBEq α] {a b : α} (h1 : a = b -> A) (h2 : a ≠ b -> B) : Br (a == b) A B .mk := ⟨fun h => h1 (by simpa using h), fun h => h2 (by simpa using h)⟩
theorem Br.ne {α : Type} [BEq α] [LawfulBEq α] {a b : α} (h1 : a ≠ b -> A) (h2 : a = b -> B) : Br (a != b) A B .mk := ⟨fun h => h1 (by simpa using h), fun h => h2 (by simpa using h)⟩
end
theorem Sp_tup (l : List AVal) (K : AVal -> Prop) (w : Wit K) : Sp (.tup l) K w = K (.tup l) := rfl
theorem Sp_bool (t : Bool) (K : AVal -> Prop) (w : Wit K) : Sp (.bool t) K w = Br t (K (.bool true)) (K (.bool false)) .mk := by
  cases t <;> simp [Sp, Br]
theorem okLkp_mpr (h : Q2) (kt : Option IntKind) (r : Nat) (k : AVal) : okLkp h kt (.mpr r) k = ∃ o, h r = some o /\ o.ty.isM = true /\ K2 kt k = true /\ o.ty.ents.all (fun p => K2 kt p.1) = true := rfl
theorem aLkp_mpr (h : Q2) (ok : Bool) (z : AVal) (r : Nat) (k : AVal) : aLkp h ok z (.mpr r) k = KY ok z (UY k (JU (h r))) := rfl
theorem entsOf_some (o : AObj) : JU (some o) = o.ty.ents := rfl
theorem isM_m (n : Nat) (es : List (AVal × AVal)) : (OTy.m n es).isM = true := rfl
theorem ents_m (n : Nat) (es : List (AVal × AVal)) : (OTy.m n es).ents = es := rfl
theorem setM_m (n : Nat) (es es' : List (AVal × AVal)) : (OTy.m n es).setM es' = .m n es' := rfl
theorem isKeyA_int (k : IntKind) (n : Int) : K2 (some k) (.int k n) = true := by simp [K2]
theorem isKeyA_str (l : List UInt8) : K2 none (.str l) = true := rfl
theorem isV_mpr (r : Nat) : isV (.mpr r) = true := rfl
theorem cells_mpr (r : Nat) : cellsOf (.mpr r) = [.mpr r] := rfl
def eM (l : List (Int × Int)) : List (AVal × AVal) := l.map fun p => (Q4 p.1, Q4 p.2)
def findI (l : List (Int × Int)) (k : Int) : Option Int := (l.find? fun p => p.1 == k).map (·.2)
def putI (k v : Int) : List (Int × Int) -> List (Int × Int)
  | [] => [(k, v)]
  | p :: r => if p.1 = k then (p.1, v) :: r else p :: putI k v r
theorem all_eM (l : List (Int × Int)) : ((eM l).all fun p => K2 (some .i64) p.1) = true := by
  simp [eM, K2]
theorem keyEq_aInt (a b : Int) : XQ (Q4 a) (Q4 b) = (a == b) := by simp [XQ]
theorem mFind_eM (l : List (Int × Int)) (k : Int) : UY (Q4 k) (eM l) = (findI l k).map Q4 := by
  induction l with
  | nil => rfl
  | cons p r ih =>
    simp only [eM, List.map_cons, UY, keyEq_aInt, findI, List.find?_cons]
    by_cases h : p.1 = k
    · simp [h]
    · have : (p.1 == k) = false := by simpa using h
      rw [this]
      simpa [eM, findI] using ih
theorem mPut_eM (l : List (Int × Int)) (k v : Int) : mPut (Q4 k) (Q4 v) (eM l) = eM (putI k v l) := by
  induction l with
  | nil => rfl
  | cons p r ih =>
    simp only [eM, List.map_cons, mPut, keyEq_aInt, putI]
    by_cases h : p.1 = k
    · simp [h]
    · have : (p.1 == k) = false := by simpa using h
      rw [this, if_neg h]
      simpa [eM] using ih
theorem aFound_int (z : Int) (o : Option Int) : KY false (Q4 z) (o.map Q4) = Q4 (o.getD z) := by cases o <;> rfl
theorem aFound_int2 (z : Int) (o : Option Int) : KY true (Q4 z) (o.map Q4) = .tup [Q4 (o.getD z), .bool o.isSome] := by cases o <;> rfl
def eMs (l : List (List UInt8)) : List (AVal × AVal) := l.map fun s => (.str s, .agg [])
def putS (s : List UInt8) (l : List (List UInt8)) : List (List UInt8) := if s ∈ l then l else l ++ [s]
theorem all_eMs (l : List (List UInt8)) : ((eMs l).all fun p => K2 none p.1) = true := by simp [eMs, K2]
theorem eMs_cons (p : List UInt8) (r : List (List UInt8)) : eMs (p :: r) = (.str p, .agg []) :: eMs r := rfl
theorem mFind_cons (k x v : AVal) (r : List (AVal × AVal)) : UY k ((x, v) :: r) = if XQ x k = true then some v else UY k r := rfl
theorem mPut_cons (k v x y : AVal) (r : List (AVal × AVal)) : mPut k v ((x, y) :: r) = if XQ x k = true then (x, v) :: r else (x, y) :: mPut k v r := rfl
theorem mFind_eMs (l : List (List UInt8)) (s : List UInt8) : UY (.str s) (eMs l) = if s ∈ l then some (.agg []) else none := by
  induction l with
  | nil => rfl
  | cons p r ih =>
    rw [eMs_cons, mFind_cons]
    by_cases h : p = s
    · subst h; rw [if_pos (by simp [XQ]), if_pos (by simp)]
    · rw [if_neg (by simpa [XQ] using h), ih]
      have h2 : ¬ s = p := fun q => h q.symm
      simp [h2]
theorem mPut_eMs (l : List (List UInt8)) (s : List UInt8) : mPut (.str s) (.agg []) (eMs l) = eMs (putS s l) := by
  unfold putS
  induction l with
  | nil => rfl
  | cons p r ih =>
    rw [eMs_cons, mPut_cons]
    by_cases h : p = s
    · subst h; rw [if_pos (by simp [XQ]), if_pos (by simp)]; rfl
    · have h2 : ¬ s = p := fun q => h q.symm
      rw [if_neg (by simpa [XQ] using h), ih]
      by_cases h3 : s ∈ r
      · rw [if_pos h3, if_pos (by simp [h3])]; rfl
      · rw [if_neg h3, if_neg (by simp [h2, h3])]; rfl
theorem aFound_set (c : Prop) [Decidable c] (z v : AVal) : KY true z (if c then some v else none) = if c then .tup [v, .bool true] else .tup [z, .bool false] := by split <;> rfl
end Go.Sim
end
section
namespace Go.Sim
open Go
inductive Vw (h : Q2) : AVal -> AVal -> Prop
  | refl (a : AVal) : Vw h a a
  | emp : Vw h .emp (.slc [])
  | agg (as bs : List AVal) (hl : as.length = bs.length) (hh : ∀ (j : Nat) (a b : AVal), as[j]? = some a -> bs[j]? = some b -> Vw h a b) : Vw h (.agg as) (.agg bs)
  | slc (es fs : List (List AVal)) (hl : es.length = fs.length) (hle : ∀ (i : Nat) (e f : List AVal), es[i]? = some e -> fs[i]? = some f -> e.length = f.length)
      (hh : ∀ (i j : Nat) (e f : List AVal) (a b : AVal), es[i]? = some e -> fs[i]? = some f -> e[j]? = some a -> f[j]? = some b -> Vw h a b) : Vw h (.slc es) (.slc fs)
  | osl (r sz i n : Nat) (o : AObj) (fs : List (List AVal)) (hr : h r = some o) (hle : i + n <= o.es.length) (hl : fs.length = n) (hll : ∀ f ∈ fs, f.length = sz)
      (hh : ∀ (k j : Nat) (e f : List AVal) (a b : AVal), o.es[i + k]? = some e -> fs[k]? = some f -> e[j]? = some a -> f[j]? = some b -> Vw h a b) : Vw h (.osl r sz i n) (.slc fs)
  | ptr (r i j : Nat) (o : AObj) (fs : List AVal) (hr : h r = some o) (hi : i < o.es.length) (hl : fs.length <= (o.es.getD i []).length - j)
      (hh : ∀ (k : Nat) (a b : AVal), ((o.es.getD i []).drop j)[k]? = some a -> fs[k]? = some b -> Vw h a b) : Vw h (.ptr r i j) (.pin fs)
  | vp (r j : Nat) (b : AVal) (hh : Vw h (.ptr r 0 j) b) : Vw h (.vp r j) b
inductive Scal : AVal -> Prop
  | int (k : IntKind) (n : Int) : Scal (.int k n)
  | bool (b : Bool) : Scal (.bool b)
  | str (l : List UInt8) : Scal (.str l)
  | tup (as : List AVal) (hh : ∀ (j : Nat) (a : AVal), as[j]? = some a -> Scal a) : Scal (.tup as)
  | agg (as : List AVal) (hh : ∀ (j : Nat) (a : AVal), as[j]? = some a -> Scal a) : Scal (.agg as)
section
variable {P : PG} {g : Ghost} {w : World} {h : Q2}
theorem Scal.any {v : Value} {a : AVal} (hs : Scal a) : VRel g w v a -> ∀ (g' : Ghost) (w' : World), VRel g' w' v a := by
  induction hs generalizing v with
  | int k n => intro hv g' w'; rw [hv.int_inv]; exact .int k n
  | bool b => intro hv g' w'; rw [hv.bool_inv]; exact .bool b
  | str l => intro hv g' w'; rw [hv.str_inv']; exact VRel.str_mk g' w' l
  | tup as hh ih =>
    intro hv g' w'
    obtain ⟨vs, rfl, hl, hh'⟩ := hv.tup_inv
    exact .tup vs as hl fun j u x hu hx => ih j x hx (hh' j u x hu hx) g' w'
  | agg as hh ih =>
    intro hv g' w'
    obtain ⟨vs, rfl, hl, h1, hh'⟩ := hv.agg_inv
    exact .agg vs as hl h1 fun j u x hu hx => ih j x hx (hh' j u x hu hx) g' w'
inductive Fz (r : Nat) (es : List (List AVal)) : AVal -> AVal -> Prop
  | refl (a : AVal) : Fz r es a a
  | osl (sz i n : Nat) (hle : i + n <= es.length) : Fz r es (.osl r sz i n) (.slc ((es.drop i).take n))
  | agg (as bs : List AVal) (hl : as.length = bs.length) (hh : ∀ (j : Nat) (a b : AVal), as[j]? = some a -> bs[j]? = some b -> Fz r es a b) : Fz r es (.agg as) (.agg bs)
  | tup (as bs : List AVal) (hl : as.length = bs.length) (hh : ∀ (j : Nat) (a b : AVal), as[j]? = some a -> bs[j]? = some b -> Fz r es a b) : Fz r es (.tup as) (.tup bs)
theorem Fz.rel {r : Nat} {o : AObj} (H : HRel h g w) (hr : h r = some o) {g' : Ghost} (S : GS g w g' w) (hf : g.cap r ≠ 0 -> g'.fz (g.eta r)) {a b : AVal} (hz : Fz r o.es a b) : ∀ {v : Value}, VRel g w v a -> VRel g' w v b := by
  induction hz with
  | refl a => intro v V; exact V.step S
  | osl sz i n hle =>
    intro v V
    obtain ⟨hrl, hsz, hc⟩ := V.osl_inv
    have O := H.obj r o hr
    have hl : ((o.es.drop i).take n).length = n := by simp; omega
    by_cases hn : n = 0
    · subst hn
      rcases hc with ⟨rfl, _⟩ | ⟨cap, off, rfl, _⟩
      · simpa using VRel.slc0 (g := g') (w := w) none 0
      · simpa using VRel.slc0 (g := g') (w := w) (some ⟨g.eta r, off, none⟩) cap
    · rcases hc with ⟨_, _, h0, _⟩ | ⟨cap, off, rfl, hnc, hm, hi, hoff⟩
      · exact absurd h0 hn
      · have hof := hoff (by omega)
        rcases O.block with h0 | ⟨hlt, _, cur, hcur, _, hcell⟩
        · have := O.le; omega
        · have key := VRel.slc_mk (g := g') (w := w) (ad := ⟨g.eta r, off, none⟩) (c := cap) (sz := sz) (es := (o.es.drop i).take n) (by rw [hl]; exact hnc)
            (fun f hf' => by rw [O.len f (List.mem_of_mem_drop (List.mem_of_mem_take hf')), <- O.sz, hsz]) rfl (hf (by omega)) (fun k j f x hk hx => by
            obtain ⟨hkn, hk'⟩ := ZZ _ _ _ _ _ hk
            obtain ⟨u, hu, h1, h2⟩ := hcell _ j _ _ hk' hx
            refine ⟨u, ?_, h1, h2.step S⟩
            rw [Addr.add_lit, hcur.cell, <- hu, hof, <- O.sz, hsz, Nat.add_mul]
            congr 1; omega)
          rw [hl] at key
          exact key
  | agg as bs hl hh ih =>
    intro v V
    obtain ⟨vs, rfl, hvl, h1, h2⟩ := V.agg_inv
    refine .agg vs bs (hvl.trans hl) h1 fun j u b hu hb => ?_
    have hj : j < as.length := by rw [hl]; exact (List.getElem?_eq_some_iff.1 hb).1
    exact ih j _ b (List.getElem?_eq_getElem hj) hb (h2 j u _ hu (List.getElem?_eq_getElem hj))
  | tup as bs hl hh ih =>
    intro v V
    obtain ⟨vs, rfl, hvl, h2⟩ := V.tup_inv
    refine .tup vs bs (hvl.trans hl) fun j u b hu hb => ?_
    have hj : j < as.length := by rw [hl]; exact (List.getElem?_eq_some_iff.1 hb).1
    exact ih j _ b (List.getElem?_eq_getElem hj) hb (h2 j u _ hu (List.getElem?_eq_getElem hj))
inductive Wk : AVal -> AVal -> Prop
  | refl (a : AVal) : Wk a a
  | emp : Wk .emp (.slc [])
  | agg (as bs : List AVal) (hl : as.length = bs.length) (hh : ∀ (j : Nat) (a b : AVal), as[j]? = some a -> bs[j]? = some b -> Wk a b) : Wk (.agg as) (.agg bs)
  | tup (as bs : List AVal) (hl : as.length = bs.length) (hh : ∀ (j : Nat) (a b : AVal), as[j]? = some a -> bs[j]? = some b -> Wk a b) : Wk (.tup as) (.tup bs)
  | slc (es fs : List (List AVal)) (hl : es.length = fs.length) (hle : ∀ (i : Nat) (e f : List AVal), es[i]? = some e -> fs[i]? = some f -> e.length = f.length)
      (hh : ∀ (i j : Nat) (e f : List AVal) (a b : AVal), es[i]? = some e -> fs[i]? = some f -> e[j]? = some a -> f[j]? = some b -> Wk a b) : Wk (.slc es) (.slc fs)
theorem Wk.rel {a b : AVal} (hv : Wk a b) : ∀ {v : Value}, VRel g w v a -> VRel g w v b := by
  induction hv with
  | refl a => intro v V; exact V
  | emp =>
    intro v V
    obtain ⟨A, rfl, _⟩ := V.emp_inv
    exact .slc0 A 0
  | agg as bs hl hh ih =>
    intro v V
    obtain ⟨vs, rfl, hvl, h1, h2⟩ := V.agg_inv
    refine .agg vs bs (hvl.trans hl) h1 fun j u b hu hb => ?_
    have hj : j < as.length := by rw [hl]; exact (List.getElem?_eq_some_iff.1 hb).1
    exact ih j _ b (List.getElem?_eq_getElem hj) hb (h2 j u _ hu (List.getElem?_eq_getElem hj))
  | tup as bs hl hh ih =>
    intro v V
    obtain ⟨vs, rfl, hvl, h2⟩ := V.tup_inv
    refine .tup vs bs (hvl.trans hl) fun j u b hu hb => ?_
    have hj : j < as.length := by rw [hl]; exact (List.getElem?_eq_some_iff.1 hb).1
    exact ih j _ b (List.getElem?_eq_getElem hj) hb (h2 j u _ hu (List.getElem?_eq_getElem hj))
  | slc es fs hl hle hh ih =>
    intro v V
    obtain ⟨A, c, rfl, hin⟩ := V.slc_inv
    by_cases hp : 0 < es.length
    · obtain ⟨hc, ad, sz, rfl, hsp, hf, hsz, hcell⟩ := hin hp
      rw [hl]
      refine .slc_mk (sz := sz) (by omega) (fun f hf' => ?_) hsp hf fun i j f x hi hx => ?_
      · obtain ⟨i, hi⟩ := List.mem_iff_getElem?.1 hf'
        have hil : i < es.length := by rw [hl]; exact (List.getElem?_eq_some_iff.1 hi).1
        rw [<- hle i _ f (List.getElem?_eq_getElem hil) hi]
        exact hsz _ (List.getElem_mem hil)
      · have hil : i < es.length := by rw [hl]; exact (List.getElem?_eq_some_iff.1 hi).1
        have he := List.getElem?_eq_getElem hil
        have hjl : j < es[i].length := by rw [hle i _ f he hi]; exact (List.getElem?_eq_some_iff.1 hx).1
        obtain ⟨u, hu, h1, h2⟩ := hcell i j _ _ he (List.getElem?_eq_getElem hjl)
        exact ⟨u, hu, h1, ih i j _ f _ x he hi (List.getElem?_eq_getElem hjl) hx h2⟩
    · have h0 : es.length = 0 := by omega
      have hfs : fs = [] := List.eq_nil_of_length_eq_zero (by omega)
      subst hfs
      rw [h0]
      exact .slc0 A c
end
end Go.Sim
end
section
set_option linter.unusedSectionVars false
set_option linter.unusedSimpArgs false
namespace Go.Sim
open Go
section
variable {P : PG} {e : Env} {h : Q2} {K : AVal -> Q2 -> Prop}
theorem natCast_succ_sub (n : Nat) : ((n + 1 : Nat) : Int) - 1 = n := by omega
theorem upd_id {h : Q2} {r : Nat} {o : AObj} (hr : h r = some o) : upd h r (some o) = h := by
  funext t; unfold upd; by_cases ht : t = r
  · subst ht; rw [if_pos rfl, hr]
  · rw [if_neg ht]
theorem Rd_oslE (s r sz i n : Nat) (F : List (List AVal) -> Prop) : (∃ l, Rd h s (.osl r sz i n) l /\ F l) = (∃ o, h r = some o /\ sz = s /\ i + n <= o.es.length /\ F ((o.es.drop i).take n)) := by
  rw [eq_iff_iff]
  constructor
  · rintro ⟨l, ⟨h1, o, h2, h3, rfl⟩, hF⟩
    exact ⟨o, h2, h1, h3, hF⟩
  · rintro ⟨o, h2, h1, h3, hF⟩
    exact ⟨_, ⟨h1, o, h2, h3, rfl⟩, hF⟩
theorem appInE_osl (s r sz' i m : Nat) (es2 : List (List AVal)) (w : Wit K) : Hd (appInE s (.osl r sz' i m) es2 h) K w = (sz' = s /\ ∃ ob, h r = some ob /\ i + m + es2.length <= ob.es.length /\
    K (.osl r s i (m + es2.length)) (upd h r (some { ob with es := ob.es.take (i + m) ++ es2 ++ ob.es.drop (i + m + es2.length) }))) := rfl
theorem slXE_osl (s r sz' i m : Nat) (lo hi : Option AVal) (w : Wit K) : Hd (slXE s (.osl r sz' i m) lo hi h) K w = (sz' = s /\ ∃ ob, h r = some ob /\ okB lo /\ okB hi /\ 0 <= Y5 lo /\ Y5 lo <= Y9 m hi /\ i + (Y9 m hi).toNat <= ob.es.length /\
    K (.osl r s (i + (Y5 lo).toNat) ((Y9 m hi).toNat - (Y5 lo).toNat)) h) := rfl
theorem mksE_int (ty s b : Nat) (z : List AVal) (k k' : IntKind) (l c : Int) (w : Wit K) : Hd (mksE ty s b z (.int k l) (.int k' c) h) K w = (0 <= l /\ l <= c /\ c * b <= 140737488355328 /\ c <= 140737488355328 /\ ∀ r, h r = none -> K (.osl r s 0 l.toNat) (upd h r (some ⟨ty, s, List.replicate c.toNat z⟩))) := rfl
theorem copyE_osl (s r sz' i m : Nat) (es2 : List (List AVal)) (w : Wit K) : Hd (copyE s (.osl r sz' i m) es2 h) K w = (sz' = s /\ ∃ ob, h r = some ob /\ i + m <= ob.es.length /\
    K (Q4 (min es2.length m : Nat)) (upd h r (some { ob with es := ob.es.take i ++ es2.take (min es2.length m) ++ ob.es.drop (i + min es2.length m) }))) := rfl
theorem usdE_emp (w : Wit K) : Hd (usdE .emp h) K w = K .anyp h := rfl
theorem usdE_osl (r s i m : Nat) (w : Wit K) : Hd (usdE (.osl r s i m) h) K w = (0 < m /\ K (.ptr r i 0) h) := rfl
theorem ustrE_anyp (ty : Nat) (m : Int) (w : Wit K) : Hd (ustrE ty .anyp (.int .i64 m) h) K w = (m = 0 /\ K (.str []) h) := rfl
theorem ustrE_ptr (ty r i j : Nat) (m : Int) (w : Wit K) : Hd (ustrE ty (.ptr r i j) (.int .i64 m) h) K w = (j = 0 /\ ∃ (l : List UInt8) (ob : AObj), h r = some ob /\ ob.ty = ty /\ ob.sz = 1 /\ i + l.length <= ob.es.length /\ (ob.es.drop i).take l.length = Y0 l /\ m = l.length /\ l ≠ [] /\ l.length <= 9223372036854775807 /\ K (.str l) (del h r)) := rfl
theorem clearE_osl (s r sz' i m : Nat) (z : List AVal) (w : Wit K) : Hd (clearE s z (.osl r sz' i m) h) K w = (sz' = s /\ ∃ ob, h r = some ob /\ i + m <= ob.es.length /\ K .dead (upd h r (some { ob with es := ob.es.take i ++ List.replicate m z ++ ob.es.drop (i + m) }))) := rfl
theorem upd_upd {β : Type} (f : Nat -> β) (r : Nat) (x y : β) : upd (upd f r x) r y = upd f r y := by
  funext t; unfold upd; by_cases ht : t = r <;> simp [ht]
inductive F2 {α : Type} (R : α -> α -> Prop) : List α -> List α -> Prop
  | nil : F2 R [] []
  | cons {a b : α} {as bs : List α} (h : R a b) (t : F2 R as bs) : F2 R (a :: as) (b :: bs)
theorem F2.len {α : Type} {R : α -> α -> Prop} {as bs : List α} (h : F2 R as bs) : as.length = bs.length := by
  induction h with
  | nil => rfl
  | cons _ _ ih => simp [ih]
theorem F2.get {α : Type} {R : α -> α -> Prop} {as bs : List α} (h : F2 R as bs) : ∀ (j : Nat) (a b : α), as[j]? = some a -> bs[j]? = some b -> R a b := by
  induction h with
  | nil => intro j a b ha; simp at ha
  | cons h _ ih =>
    intro j a b ha hb
    cases j with
    | zero => simp only [List.getElem?_cons_zero, Option.some.injEq] at ha hb; subst ha hb; exact h
    | succ j => simp only [List.getElem?_cons_succ] at ha hb; exact ih j a b ha hb
theorem Wk.agg' {as bs : List AVal} (h : F2 Wk as bs) : Wk (.agg as) (.agg bs) := .agg as bs h.len h.get
theorem Wk.tup' {as bs : List AVal} (h : F2 Wk as bs) : Wk (.tup as) (.tup bs) := .tup as bs h.len h.get
theorem Wk.slc' {as bs : List (List AVal)} (h : F2 (F2 Wk) as bs) : Wk (.slc as) (.slc bs) :=
  .slc as bs h.len (fun i e f he hf => (h.get i e f he hf).len) fun i j e f a b he hf ha hb => (h.get i e f he hf).get j a b ha hb
theorem pcallE.of {f : Nat} {args : List AVal} {v : AVal} {K : AVal -> Prop} (hp : PCalls P f args v) (hk : K v) : Hd (pcallE P f args) K .mk := ⟨v, hp, hk⟩
theorem DCalls.of {f : Nat} {args : List AVal} {K0 : AVal -> Q2 -> Prop} (hd : DCalls P f args h K0) (hk : ∀ r h', K0 r h' -> K r h') : Hd (DCalls P f args h) K .mk := hd.mono hk
theorem PCalls.of {f : Nat} {args : List AVal} {v : AVal} (hp : PCalls P f args v) (hk : K v h) : Hd (DCalls P f args h) K .mk := hp.d hk
theorem U5 {r t : Nat} {o : AObj} : (upd h r (some o) t = none) = (t ≠ r /\ h t = none) := by
  unfold upd; by_cases ht : t = r <;> simp [ht]
theorem DCalls.froze {f : Nat} {args : List AVal} {K0 : AVal -> Q2 -> Prop} (hd : DCalls P f args h K0)
    (hk : ∀ a h', K0 a h' -> (∃ b, Wk a b /\ K b h') \/ ∃ r o b, h' r = some o /\ Fz r o.es a b /\ K b (del h' r)) : DCalls P f args h K := by
  refine ⟨hd.1, fun g w vs H GR V => (hd.2 g w vs H GR V).mono fun e w' ⟨v', a, h', g', he, k0, H', Va, S⟩ => ?_⟩
  rcases hk a h' k0 with ⟨b, hz, hkb⟩ | ⟨r, o, b, hr, hz, hkb⟩
  · exact ⟨v', b, h', g', he, hkb, H', hz.rel Va, S⟩
  · by_cases hc : g'.cap r = 0
    · exact ⟨v', b, del h' r, g', he, hkb, H'.del r, hz.rel H' hr (GS.refl g' w') (fun h => absurd hc h) Va, S⟩
    · obtain ⟨S2, H2⟩ := H'.freeze hr hc
      exact ⟨v', b, del h' r, _, he, hkb, H2, hz.rel H' hr S2 (fun _ => .inr rfl) Va, S.trans S2⟩
def Sub (h h' : Q2) : Prop := ∀ t o, h t = some o -> h' t = some o
theorem Sub.refl (h : Q2) : Sub h h := fun _ _ h => h
theorem Sub.upd {h h' : Q2} {r : Nat} {x : Option AObj} (hs : Sub h h') (hr : h r = none) : Sub h (upd h' r x) := fun t o ht => by
  rw [J9 _ _ (fun e => by rw [e, hr] at ht; cases ht)]; exact hs t o ht
theorem Sub.del {h h' : Q2} {r : Nat} (hs : Sub h h') (hr : h r = none) : Sub h (del h' r) := fun t o ht => by
  unfold Sim.del; rw [if_neg (fun e => by rw [e, hr] at ht; cases ht)]; exact hs t o ht
theorem Sub.none {h h' : Q2} {r : Nat} (hs : Sub h h') (hr : h' r = none) : h r = none := by
  cases hh : h r with
  | none => rfl
  | some o => rw [hs r o hh] at hr; cases hr
theorem Sub.put {h h' : Q2} {r : Nat} {o : AObj} (hs : Sub h h') (hr : h' r = some o) : Sub (Sim.upd h r (some o)) h' := fun t ob ht => by
  by_cases e : t = r
  · subst e; rw [J7] at ht; cases ht; exact hr
  · rw [J9 _ _ e] at ht; exact hs t ob ht
theorem retK_normalS {rs : List SRes} {R : AVal -> Q2 -> Prop} : retK rs R .normal e h = (allOK e h rs /\ ∃ h', Sub h' h /\ R (retV e h rs) h') := rfl
theorem retK_retS {rs : List SRes} {R : AVal -> Q2 -> Prop} : retK rs R .ret e h = (allOK e h rs /\ ∃ h', Sub h' h /\ R (retV e h rs) h') := rfl
def Out (sz : Nat) (cells : List (List AVal)) (h : Q2) (a : AVal) (h' : Q2) : Prop :=
  (cells = [] /\ a = .emp /\ h' = h) \/ ∃ r o i n, h r = none /\ a = .osl r sz i n /\ h' = upd h r (some o) /\ i + n <= o.es.length /\ (o.es.drop i).take n = cells
theorem del_upd {h : Q2} {r : Nat} {o : Option AObj} (hr : h r = none) : del (upd h r o) r = h := by
  funext t; unfold del upd; by_cases ht : t = r
  · subst ht; simp [hr]
  · simp [ht]
theorem PCalls.out {f sz : Nat} {args : List AVal} {cells : List (List AVal)} (hd : ∀ h, DCalls P f args h (Out sz cells h)) : PCalls P f args (.slc cells) := fun h =>
  (hd h).froze fun a h' hk => by
    rcases hk with ⟨rfl, rfl, rfl⟩ | ⟨r, o, i, n, hr, rfl, rfl, hle, rfl⟩
    · exact .inl ⟨_, .emp, rfl, rfl⟩
    · exact .inr ⟨r, o, _, J7 _ _ _, .osl sz i n hle, rfl, del_upd hr⟩
def Acc (h : Q2) (ty : TypeId) (sz : Nat) (cells : List (List AVal)) (a : AVal) (h' : Q2) : Prop :=
  (cells = [] /\ a = .emp) \/ ∃ r, h r = none /\ h' r = some ⟨ty, sz, cells⟩ /\ a = .osl r sz 0 cells.length
theorem Acc.nil {h h' : Q2} {ty : TypeId} {sz : Nat} : Acc h ty sz [] .emp h' := .inl ⟨rfl, rfl⟩
theorem Acc.root {h h' : Q2} {ty : TypeId} {sz r : Nat} {cells : List (List AVal)} (h0 : h r = none) (h1 : h' r = some ⟨ty, sz, cells⟩) : Acc h ty sz cells (.osl r sz 0 cells.length) h' := .inr ⟨r, h0, h1, rfl⟩
theorem Acc.app {h h' : Q2} {ty : TypeId} {sz b : Nat} {cells es2 : List (List AVal)} {a : AVal} (A : Acc h ty sz cells a h') (S : Sub h h')
    (h1 : (cells.length + es2.length) * b <= 140737488355328) (h2 : cells.length + es2.length <= 140737488355328)
    (hk : ∀ a' h'', Acc h ty sz (cells ++ es2) a' h'' -> Sub h h'' -> K a' h'') : Hd (appE ty sz b a es2 h') K .mk := by
  rcases A with ⟨rfl, rfl⟩ | ⟨r, h0, hr, rfl⟩
  · refine ⟨by simpa using h1, by simpa using h2, fun r hr => hk _ _ ?_ (S.upd (S.none hr))⟩
    exact .inr ⟨r, S.none hr, by simp, rfl⟩
  · refine ⟨rfl, _, hr, rfl, by simp, h1, h2, fun r' hr' => hk _ _ ?_ ?_⟩
    · have hn : h r' = none := (S.del h0).none hr'
      refine .inr ⟨r', hn, by simp, by simp⟩
    · exact (S.del h0).upd ((S.del h0).none hr')
theorem Acc.out {h h' : Q2} {ty : TypeId} {sz : Nat} {cells : List (List AVal)} {a : AVal} (A : Acc h ty sz cells a h') (S : Sub h h') : ∃ h'', (∀ t o, h'' t = some o -> h' t = some o) /\ Out sz cells h a h'' := by
  rcases A with ⟨rfl, rfl⟩ | ⟨r, h0, hr, rfl⟩
  · exact ⟨h, S, .inl ⟨rfl, rfl, rfl⟩⟩
  · exact ⟨upd h r _, S.put hr, .inr ⟨r, _, 0, _, h0, rfl, rfl, by simp, by simp⟩⟩
theorem DCalls.sub {f : Nat} {args : List AVal} {K0 : AVal -> Q2 -> Prop} (hd : DCalls P f args h K0) (hk : ∀ a h', K0 a h' -> ∃ h'', Sub h'' h' /\ K a h'') : DCalls P f args h K :=
  ⟨hd.1, fun g w vs H GR V => (hd.2 g w vs H GR V).mono fun e w' ⟨v', a, h', g', he, k0, H', Va, S⟩ => by
    obtain ⟨h'', hs, k⟩ := hk a h' k0
    exact ⟨v', a, h'', g', he, k, H'.le hs, Va, S⟩⟩
def AccK (h : Q2) (ty : TypeId) (sz : Nat) (cells : List (List AVal)) (a : AVal) (h' : Q2) : Prop := Acc h ty sz cells a h' /\ Sub h h'
theorem PCalls.acc {f sz : Nat} {ty : TypeId} {args : List AVal} {cells : List (List AVal)} (hd : ∀ h, DCalls P f args h (AccK h ty sz cells)) : PCalls P f args (.slc cells) :=
  PCalls.out (sz := sz) fun h => (hd h).sub fun _ _ ⟨A, S⟩ => A.out S
theorem Acc.mono {h0 h h' : Q2} {ty : TypeId} {sz : Nat} {cells : List (List AVal)} {a : AVal} (A : Acc h ty sz cells a h') (S : Sub h0 h) : Acc h0 ty sz cells a h' := by
  rcases A with h | ⟨r, h0, h1, h2⟩
  · exact .inl h
  · exact .inr ⟨r, S.none h0, h1, h2⟩
end
section
variable {α : Type} [Inhabited α] {enc : α -> List AVal} {l : List α} {sz : Nat} {P : PG} {e : Env} {h : Q2}
theorem getD_map_enc {k : Nat} (hk : k < l.length) : (l.map enc).getD k [] = enc (nth l k) := by
  rw [List.getD_eq_getElem?_getD, List.getElem?_map, T9 hk]; rfl
theorem Acc.len {h h' : Q2} {ty : TypeId} {sz : Nat} {cells : List (List AVal)} {a : AVal} (A : Acc h ty sz cells a h') : aLen a = Q4 cells.length /\ okLen a = True := by
  rcases A with ⟨rfl, rfl⟩ | ⟨r, _, _, rfl⟩
  · exact ⟨rfl, rfl⟩
  · exact ⟨rfl, rfl⟩
theorem Acc.pos {h h' : Q2} {ty : TypeId} {sz : Nat} {cells : List (List AVal)} {a : AVal} (A : Acc h ty sz cells a h') (hp : 0 < cells.length) : ∃ r, h r = none /\ h' r = some ⟨ty, sz, cells⟩ /\ a = .osl r sz 0 cells.length := by
  rcases A with ⟨rfl, rfl⟩ | h
  · simp at hp
  · exact h
theorem aSlA_sl (lo hi : Option AVal) : aSlA (sl enc l) lo hi = sl enc ((l.take (Y9 l.length hi).toNat).drop (Y5 lo).toNat) := by
  simp [aSlA, sl]
theorem okSlA_sl [LenE enc sz] {s : Nat} (lo hi : Option AVal) : okSlA s (sl enc l) lo hi = (okB lo /\ okB hi /\ 0 <= Y5 lo /\ Y5 lo <= Y9 l.length hi /\ Y9 l.length hi <= l.length /\ (l = [] \/ sz = s)) := by
  simp only [okSlA, sl, List.length_map, eq_iff_iff]
  refine and_congr_right fun _ => and_congr_right fun _ => and_congr_right fun _ => and_congr_right fun _ => and_congr_right fun _ => ?_
  constructor
  · intro hh
    cases l with
    | nil => exact .inl rfl
    | cons x r => exact .inr ((LenE.len (enc := enc) x).symm.trans (hh _ (by simp)))
  · intro hh e he
    obtain ⟨x, hx, rfl⟩ := List.mem_map.1 he
    rcases hh with rfl | rfl
    · cases hx
    · exact LenE.len x
theorem Rd_sl [LenE enc sz] (x : List (List AVal)) : Rd h sz (sl enc l) x = (x = l.map enc) := by
  simp only [Rd, sl, eq_iff_iff, and_iff_left_iff_imp]
  intro _ e he
  obtain ⟨x, hx, rfl⟩ := List.mem_map.1 he
  exact LenE.len x
theorem nil_sl (n : Bool) (K : AVal -> Prop) (w : Wit K) : Hd (XY 0 n (sl enc l)) K w = ∀ b : Bool, (b = true -> l = []) -> K (.bool (xor n b)) := by
  simp [Hd, XY, sl]
variable {K : AVal -> Q2 -> Prop}
end
end Go.Sim
end
section
namespace Go.Sim
open Go
def CellsR (w : World) (cs : List Value) (as : List AVal) : Prop :=
  cs.length = as.length /\ ∀ g : Ghost, (∀ b, b < w.heap.size -> g.fz b) -> ∀ (j : Nat) (u : Value) (c : AVal), cs[j]? = some u -> as[j]? = some c -> u.oneCell' = true /\ VRel g w u c
theorem CellsR.append {w : World} {cs cs' : List Value} {as as' : List AVal} (h : CellsR w cs as) (h' : CellsR w cs' as') : CellsR w (cs ++ cs') (as ++ as') := by
  refine ⟨by simp [h.1, h'.1], fun g hg j u c hu hc => ?_⟩
  by_cases hj : j < cs.length
  · rw [List.getElem?_append_left hj] at hu
    rw [List.getElem?_append_left (by rw [<- h.1]; exact hj)] at hc
    exact h.2 g hg j u c hu hc
  · rw [List.getElem?_append_right (by omega)] at hu
    rw [List.getElem?_append_right (by rw [<- h.1]; omega), <- h.1] at hc
    exact h'.2 g hg _ u c hu hc
theorem CellsR.one {w : World} {v : Value} {a : AVal} (h1 : v.oneCell' = true) (h : ∀ g : Ghost, (∀ b, b < w.heap.size -> g.fz b) -> VRel g w v a) : CellsR w [v] [a] := by
  refine ⟨rfl, fun g hg j u c hu hc => ?_⟩
  cases j with
  | zero => simp at hu hc; subst hu hc; exact ⟨h1, h g hg⟩
  | succ j => simp at hu
structure Bulk {H : Type} (B : DataW H -> Nat) : Prop where
  str : ∀ l, l.length <= B (.lit (.string l))
  len : ∀ es sp, es.length <= B (.slice es sp)
  elem : ∀ es sp d, d ∈ es -> B d <= B (.slice es sp)
  part : ∀ ps d, d ∈ ps -> B d <= B (.agg ps)
def Rdr {H : Type} (eh : TypeId × Value -> H) (P : Program) (w : World) (B : DataW H -> Nat) (t : TypeId) {α : Type} (enc : α -> List AVal) (good : Nat -> α -> Prop) : Prop :=
  ∀ (base : Nat) (spare : Nat -> Bool) (held : Bool) (n : Nat) (cs : List Value) (x : DataW H × List MemPlace), DataW.trod eh P w base spare held n t cs = some x -> ∃ a : α, CellsR w cs (enc a) /\ good (B x.1) a
def Mono {α : Type} (good : Nat -> α -> Prop) : Prop := ∀ k k' a, k <= k' -> good k a -> good k' a
section
variable {H : Type} {eh : TypeId × Value -> H} {P : Program} {w : World} {B : DataW H -> Nat} {t : TypeId}
theorem Rdr.map {α β : Type} {enc : α -> List AVal} {enc' : β -> List AVal} {good : Nat -> α -> Prop} {good' : Nat -> β -> Prop} (r : Rdr eh P w B t enc good) (f : α -> β) (he : ∀ a, enc' (f a) = enc a) (hg : ∀ k a, good k a -> good' k (f a)) : Rdr eh P w B t enc' good' := by
  intro base spare held n cs x h
  obtain ⟨a, h1, h2⟩ := r base spare held n cs x h
  exact ⟨f a, by rw [he]; exact h1, hg _ _ h2⟩
theorem Rdr.bool (ht : P.underlying t = some .bool) : Rdr eh P w B t (fun b : Bool => [.bool b]) (fun _ _ => True) := by
  intro base spare held n cs x h
  obtain ⟨b, rfl, rfl⟩ := DataW.trod_bool ht h
  exact ⟨b, .one rfl fun g _ => .bool b, trivial⟩
theorem Rdr.int {k : IntKind} (ht : P.underlying t = some (.int k)) : Rdr eh P w B t (fun n : Int => [.int k n]) (fun _ n => (Lit.int k n).wf = true) := by
  intro base spare held n cs x h
  obtain ⟨m, rfl, rfl, hw⟩ := DataW.trod_int ht h
  exact ⟨m, .one rfl fun g _ => .int k m, hw⟩
theorem Rdr.str (hB : Bulk B) (ht : P.underlying t = some .string) : Rdr eh P w B t (fun l : List UInt8 => [.str l]) (fun k l => l.length <= k) := by
  intro base spare held n cs x h
  obtain ⟨s, rfl, rfl, _⟩ := DataW.trod_string ht h
  exact ⟨s.data.toList, .one rfl fun g _ => .str s, hB.str _⟩
theorem list_choose {α : Type} {n : Nat} {p : Nat -> α -> Prop} (h : ∀ i, i < n -> ∃ x, p i x) : ∃ l : List α, l.length = n /\ ∀ i a, l[i]? = some a -> p i a := by
  induction n with
  | zero => exact ⟨[], rfl, fun i a h => by simp at h⟩
  | succ n ih =>
    obtain ⟨l, hl, hp⟩ := ih fun i hi => h i (by omega)
    obtain ⟨x, hx⟩ := h n (by omega)
    refine ⟨l ++ [x], by simp [hl], fun i a ha => ?_⟩
    by_cases hi : i < n
    · rw [List.getElem?_append_left (by omega)] at ha; exact hp i a ha
    · have hlt := (List.getElem?_eq_some_iff.1 ha).1
      have hin : i = n := by simp at hlt; omega
      subst hin
      rw [List.getElem?_append_right (by omega)] at ha
      simp [hl] at ha; subst ha; exact hx
theorem Rdr.slice {e : TypeId} {sz : Nat} {α : Type} {enc : α -> List AVal} {good : Nat -> α -> Prop} (hB : Bulk B) (hm : Mono good) (ht : P.underlying t = some (.slice e)) (hsz : P.cellsOf e = sz) (h0 : 0 < sz)
    (henc : ∀ a, (enc a).length = sz) (r : Rdr eh P w B e enc good) : Rdr eh P w B t (fun l : List α => [.slc (l.map enc)]) (fun k l => l.length <= k /\ ∀ a ∈ l, good k a) := by
  intro base spare held n cs x h
  rcases DataW.trod_slice ht h with ⟨rfl, rfl⟩ | ⟨ad, len, cap, elems, rest, n, rfl, rfl, rfl, hb, hl, _, hlen, hel, _, _⟩
  · exact ⟨[], .one rfl fun g _ => .slc0 none 0, by simp, fun a ha => by cases ha⟩
  · have each : ∀ i, i < len -> ∃ a : α, ∃ cs', w.cells? base (ad.add (i * sz)) sz = some cs' /\ CellsR w cs' (enc a) /\ good (B (.slice (elems.map (·.1)) (rest.map (·.1)))) a := by
      intro i hi
      have hi' : i < elems.length := by omega
      have h1 := hel i hi
      rw [List.getElem?_eq_getElem hi', hsz, Option.bind_eq_some_iff] at h1
      obtain ⟨cs', h2, h3⟩ := h1
      obtain ⟨a, h4, h5⟩ := r base spare held n cs' _ h3
      exact ⟨a, cs', h2, h4, hm _ _ a (hB.elem _ _ _ (List.mem_map.2 ⟨_, List.getElem_mem hi', rfl⟩)) h5⟩
    obtain ⟨l, hll, hp⟩ := list_choose each
    refine ⟨l, .one rfl fun g hg => ?_, by rw [hll, <- hlen]; simpa using hB.len (elems.map (·.1)) (rest.map (·.1)), fun a ha => ?_⟩
    · by_cases hz : len = 0
      · subst hz
        have : l = [] := List.eq_nil_of_length_eq_zero hll
        subst this
        exact .slc0 _ _
      · have cell : ∀ (i j : Nat) (f : List AVal) (y : AVal), (l.map enc)[i]? = some f -> f[j]? = some y -> ∃ u, w.cell? (ad.add (i * sz + j)) = some u /\ u.oneCell' = true /\ VRel g w u y := by
          intro i j f y hf hy
          rw [List.getElem?_map, Option.map_eq_some_iff] at hf
          obtain ⟨a, ha, rfl⟩ := hf
          obtain ⟨cs', h1, h2, _⟩ := hp i a ha
          obtain ⟨_, h3, h4⟩ := World.cells?_some h1
          have hj : j < sz := by rw [<- henc a]; exact (List.getElem?_eq_some_iff.1 hy).1
          have h5 := h4 j hj
          rw [Addr.add_add'] at h5
          have h6 : cs'[j]? = some cs'[j] := List.getElem?_eq_getElem (by omega)
          rw [h6] at h5
          have := h2.2 g hg j _ y h6 hy
          exact ⟨_, h5, this.1, this.2⟩
        have hpos : 0 < l.length := by omega
        obtain ⟨a0, ha0⟩ : ∃ a, l[0]? = some a := ⟨_, List.getElem?_eq_getElem hpos⟩
        have hf0 : (l.map enc)[0]? = some (enc a0) := by rw [List.getElem?_map, ha0]; rfl
        have he0 : (enc a0)[0]? = some ((enc a0)[0]'(by rw [henc]; exact h0)) := List.getElem?_eq_getElem _
        obtain ⟨u, hu, _, _⟩ := cell 0 0 _ _ hf0 he0
        have hspot : ad.spot = none := by
          have := World.cell?_spot hu
          simpa [Addr.add] using this
        have hblk : ad.block < w.heap.size := by
          have hh : w.cell? ad = some u := by simpa [Addr.add] using hu
          unfold World.cell? at hh
          split at hh
          · rename_i c _ _ hc
            exact (Array.getElem?_eq_some_iff.1 hc).1
          · cases hh
        have key := VRel.slc_mk (g := g) (w := w) (ad := ad) (c := cap) (sz := sz) (es := l.map enc) (by simp [hll]; exact hl) (fun f hf => by obtain ⟨a, _, rfl⟩ := List.mem_map.1 hf; exact henc a) hspot (hg _ hblk) cell
        rw [List.length_map, hll] at key
        exact key
    · obtain ⟨i, hi⟩ := List.mem_iff_getElem?.1 ha
      exact (hp i a hi).choose_spec.2.2
inductive RdrFs {H : Type} (eh : TypeId × Value -> H) (P : Program) (w : World) (B : DataW H -> Nat) : List Field -> Nat -> (α : Type) -> (α -> List AVal) -> (Nat -> α -> Prop) -> Prop
  | nil (off : Nat) : RdrFs eh P w B [] off Unit (fun _ => []) (fun _ _ => True)
  | cons {f : Field} {fs : List Field} {off sz : Nat} {α β : Type} {enc : α -> List AVal} {encs : β -> List AVal} {good : Nat -> α -> Prop} {goods : Nat -> β -> Prop} (hf : f.offset = off) (hs : P.cellsOf f.type = sz) (hm : Mono good)
      (r : Rdr eh P w B f.type enc good) (t : RdrFs eh P w B fs (off + sz) β encs goods) : RdrFs eh P w B (f :: fs) off (α × β) (fun p => enc p.1 ++ encs p.2) (fun k p => good k p.1 /\ goods k p.2)
theorem RdrFs.read {fs : List Field} {off : Nat} {α : Type} {enc : α -> List AVal} {good : Nat -> α -> Prop} (R : RdrFs eh P w B fs off α enc good) :
    ∀ {base : Nat} {spare : Nat -> Bool} {held : Bool} {n k : Nat} {cs : List Value} {xs : List (DataW H × List MemPlace)}, (∀ (i : Nat) (f : Field), fs[i]? = some f -> DataW.trod eh P w base spare held n f.type ((cs.drop f.offset).take (P.cellsOf f.type)) = xs[i]?) ->
      xs.length = fs.length -> (∀ x ∈ xs, B x.1 <= k) -> ∃ (a : α) (m : Nat), CellsR w ((cs.drop off).take m) (enc a) /\ m = (fs.map fun f => P.cellsOf f.type).sum /\ good k a := by
  induction R with
  | nil off => intro base spare held n k cs xs _ _ _; exact ⟨(), 0, ⟨by simp, fun g _ j u c hu => by simp at hu⟩, rfl, trivial⟩
  | cons hf hs hm r t ih =>
    intro base spare held n k cs xs h hl hb
    cases xs with
    | nil => simp at hl
    | cons x xs =>
      have h0 := h 0 _ rfl
      rw [hf, hs] at h0
      obtain ⟨a, ha, hga⟩ := r _ _ _ _ _ _ h0
      obtain ⟨b, m, hbm, hms, hgb⟩ := ih (fun i f hi => h (i + 1) f (by simpa using hi)) (by simpa using hl) (fun y hy => hb y (List.mem_cons_of_mem _ hy))
      subst hs
      refine ⟨(a, b), _ + m, ?_, by rw [List.map_cons, List.sum_cons, hms], hm _ _ _ (hb x List.mem_cons_self) hga, hgb⟩
      rw [List.take_add, List.drop_drop]
      exact ha.append hbm
theorem Rdr.struct {fs : Array Field} {α : Type} {enc : α -> List AVal} {good : Nat -> α -> Prop} (hB : Bulk B) (ht : P.underlying t = some (.struct fs)) (hc : P.cellsOf t = (fs.toList.map fun f => P.cellsOf f.type).sum) (R : RdrFs eh P w B fs.toList 0 α enc good) : Rdr eh P w B t enc good := by
  intro base spare held n cs x h
  obtain ⟨xs, n, rfl, rfl, hl, hxl, hx⟩ := DataW.trod_struct ht h
  obtain ⟨a, m, h1, h2, h3⟩ := R.read (k := B (.agg (xs.map (·.1)))) (cs := cs) (xs := xs) (fun i f hi => hx i f (by simpa using hi)) (by simpa using hxl) (fun y hy => hB.part _ _ (List.mem_map.2 ⟨y, hy, rfl⟩))
  refine ⟨a, ?_, h3⟩
  rw [List.drop_zero, h2, <- hc, <- hl, List.take_length] at h1
  exact h1
end
end Go.Sim
end
section
namespace Go.Sim
open Go
def g0 (w : World) : Ghost := { eta := fun _ => 0, bo := fun _ => 0, cap := fun _ => 0, sz := fun _ => 0, nxt := 0, fz := fun b => b < w.heap.size }
theorem HRel.g0 (w : World) : HRel (fun _ => none) (g0 w) w := ⟨(fun r o hr => by cases hr), (fun r r' o o' hr => by cases hr), (fun b hb => hb), (fun b ⟨r, hr, _⟩ => by cases hr), .none⟩
structure Old (w w' : World) : Prop where
  keep : ∀ b, b < w.heap.size -> w'.heap[b]? = w.heap[b]?
  os : w'.os = w.os
  output : w'.output = w.output
theorem PCalls.law {P : PG} {f : Nat} {as : List AVal} (hp : PCalls P f as (.bool true)) {w : World} {vs : Array Value} (GR : GRel P.gl (g0 w) w) (V : VRelL (g0 w) w vs as) :
    Calls P f vs w fun e w' => e = .returned (.bool true) /\ Old w w' := by
  refine ((hp _).2 (Sim.g0 w) w vs (HRel.g0 w) GR V).mono fun e w' ⟨v, r, h', g', he, ⟨hr, _⟩, _, Vr, S⟩ => ?_
  subst hr he
  rw [Vr.bool_inv]
  exact ⟨rfl, S.keep, S.os, S.output⟩
theorem PCalls.ofRun {P : PG} {f : Nat} {as : List AVal} {r : AVal} (hc : Callable P.p f)
    (h : ∀ (g : Ghost) (w : World) (vs : Array Value), GRel P.gl g w -> VRelL g w vs as -> Calls P.p f vs w fun e w' => ∃ v, e = .returned v /\ w' = w /\ VRel g w v r) : PCalls P f as r :=
  fun h0 => ⟨hc, fun g w vs H GR V => (h g w vs GR V).mono fun e w' ⟨v, he, hw, hv⟩ => by
    subst hw; exact ⟨v, r, h0, g, he, ⟨rfl, rfl⟩, H, hv, GS.refl g _⟩⟩
theorem VRelL.one_inv {g : Ghost} {w : World} {vs : Array Value} {a : AVal} (V : VRelL g w vs [a]) : ∃ v, vs = #[v] /\ VRel g w v a := by
  obtain ⟨hs, hv⟩ := V
  obtain ⟨v, rfl⟩ := Array.size_eq_one_iff.1 hs
  exact ⟨v, rfl, hv 0 v a rfl rfl⟩
theorem VRelL.two_inv {g : Ghost} {w : World} {vs : Array Value} {a b : AVal} (V : VRelL g w vs [a, b]) : ∃ u v, vs = #[u, v] /\ VRel g w u a /\ VRel g w v b := by
  obtain ⟨hs, hv⟩ := V
  obtain ⟨l⟩ := vs
  match l, hs with
  | [u, v], _ => exact ⟨u, v, rfl, hv 0 u a rfl rfl, hv 1 v b rfl rfl⟩
theorem GRel.int {G : T0} {g : Ghost} {w : World} {b : Nat} {k : IntKind} {m : Int} (GR : GRel G g w) (hG : G b = .pin [.int k m]) : w.cell? ⟨b, 0, none⟩ = some (.int k m) := by
  have h := (GR b).2
  rw [hG] at h
  obtain ⟨ad, he, _, _, hc⟩ := h.pin_inv
  cases he
  obtain ⟨u, h1, _, h3⟩ := hc 0 _ rfl
  rw [h3.int_inv'] at h1
  simpa [Addr.add] using h1
theorem VRel.pinInt {w : World} {b : Nat} {k : IntKind} {m : Int} (h : w.cell? ⟨b, 0, none⟩ = some (.int k m)) : VRel (g0 w) w (.pointer (some ⟨b, 0, none⟩)) (.pin [.int k m]) := by
  refine .pin ⟨b, 0, none⟩ _ (fun _ => .int k m) rfl ?_ (fun j a hj => ?_) (fun j a hj => rfl) (fun j a hj => ?_)
  · show b < w.heap.size
    unfold World.cell? at h
    split at h
    · rename_i c _ _ hc
      exact (Array.getElem?_eq_some_iff.1 hc).1
    · cases h
  · cases j with
    | zero => simpa [Addr.add] using h
    | succ j => simp at hj
  · cases j with
    | zero => simp at hj; subst hj; exact .int k m
    | succ j => simp at hj
section
variable {H : Type} {enc : TypeId × Value -> H}
end
section
variable {H : Type} {enc : TypeId × Value -> H} {P : Program} {w w' : World}
theorem Old.sameAt (O : Old w w') {p : MemPlace} (hp : p.block < w.heap.size) : w.sameAt w' p := by
  cases p with
  | cell b off => exact World.cell?_of_block (O.keep b hp)
  | map b => exact O.keep b hp
theorem trodAll_old (O : Old w w') {base : Nat} {spare : Nat -> Bool} {held : Bool} : ∀ {ts : List TypeId} {vs : List Value} {ds : List (DataW H)} {ps : List MemPlace}, DataW.TrodAll enc P w base spare held ts vs ds ps -> DataW.TrodAll enc P w' base spare held ts vs ds ps
  | [], [], [], _, h => h
  | _ :: _, _ :: _, _ :: _, _, ⟨p, q, ⟨n, h1⟩, h2, e⟩ => ⟨p, q, ⟨n, DataW.trod_carry n _ _ _ h1 fun x hx => O.sameAt (DataW.trod_lt n _ _ _ h1 x hx)⟩, trodAll_old O h2, e⟩
theorem law_post {f : Func} {s : ChangeSpec} {args : Array Value} {ds : List (DataW H)} {before : List MemPlace} {tb : TypeId} (O : Old w w')
    (hW : DataW.Whole enc P f.params.toList s.vars false w args.toList ds [] before) (hv : s.vars = [])
    (h1 : (s.fn H (ds ++ [])).results = [.lit (.bool true)]) (h2 : (s.fn H (ds ++ [])).args = ds) (h3 : (s.fn H (ds ++ [])).vars = [])
    (hr : f.resultTypes = #[tb]) (htb : P.underlying tb = some .bool) (hl : laidOutB P = true) (hm : mapsRowed P = true) (hs : ((List.range P.types.size).all fun t => match P.underlying t with | some (.slice e) => decide (0 < P.cellsOf e) | _ => true) = true)
    (hT : ∀ t ∈ f.params.toList, t < P.types.size) : s.post enc P f false true false false w args (.bool true) w' := by
  obtain ⟨p, q, hA, hV, rfl, _, _⟩ := id hW
  rw [hv] at hV
  have hq : q = [] := by cases q with | nil => rfl | cons _ _ => simp [DataW.TrodVars] at hV
  subst hq
  refine ⟨ds, [], _, [], p, [], hW, ?_, ?_, ?_, ?_, fun h => by cases h⟩
  · rw [h1, hr]
    exact ⟨[], [], ⟨1, by simp [DataW.trod, Value.cells, htb]⟩, rfl, rfl⟩
  · rw [h2]
    refine trodAll_old O (DataW.TrodAll.respare (kids_rows hl hm) (fun t e ht => slices_full_of P hs t e ht) hT hA fun x hx => ?_)
    simpa using hA.lt x hx
  · rw [h3, hv]; rfl
  · exact World.keptBut_mono (fun _ h => h.elim) (World.keptBut_none_iff.2 ⟨O.os, O.output, O.keep⟩)
theorem arg_one {r : Reach} {base : Nat} {t : TypeId} {v : Value} {a : AVal} {d : TypeDesc} (hu : P.underlying t = some d) (hd : match d with | .slice _ | .int _ | .bool | .string => True | _ => False) (hv : Value.okWide P w r base t v) (h : CellsR w v.cells.toList [a]) : VRel (g0 w) w v a := by
  have hc : v.cells = #[v] := by
    unfold Value.okWide at hv
    cases d <;> simp at hd <;> simp only [hu, Cell.okWide, Cell.ok] at hv <;> cases v <;> first | rfl | (simp at hv)
  rw [hc] at h
  exact (h.2 (g0 w) (fun _ h => h) 0 v a rfl rfl).2
theorem arg_agg {r : Reach} {base : Nat} {t : TypeId} {v : Value} {as : List AVal} {fs : Array Field} (hu : P.underlying t = some (.struct fs)) (hv : Value.okWide P w r base t v) (h : CellsR w v.cells.toList as) : VRel (g0 w) w v (.agg as) := by
  unfold Value.okWide at hv
  simp only [hu] at hv
  obtain ⟨cs, rfl, _⟩ := hv
  have hc : (Value.agg cs).cells = cs := rfl
  rw [hc] at h
  refine .agg cs as (by simpa using h.1) (fun j u hj => ?_) fun j u c hj hc => (h.2 (g0 w) (fun _ h => h) j u c (by simpa using hj) hc).2
  have hjl : j < as.length := by rw [<- h.1]; simpa using (Array.getElem?_eq_some_iff.1 hj).1
  exact (h.2 (g0 w) (fun _ h => h) j u _ (by simpa using hj) (List.getElem?_eq_getElem hjl)).1
inductive VAll (g : Ghost) (w : World) : List Value -> List AVal -> Prop
  | nil : VAll g w [] []
  | cons {v : Value} {a : AVal} {vs : List Value} {as : List AVal} (h : VRel g w v a) (t : VAll g w vs as) : VAll g w (v :: vs) (a :: as)
theorem VAll.rel {g : Ghost} {w : World} {vs : List Value} {as : List AVal} (h : VAll g w vs as) : VRelL g w vs.toArray as := by
  induction h with
  | nil => exact ⟨rfl, fun j u a hu => by simp at hu⟩
  | cons h t ih =>
    refine ⟨by simpa using ih.1, fun j u a hu ha => ?_⟩
    cases j with
    | zero => simp at hu ha; subst hu ha; exact h
    | succ j => exact ih.2 j u a (by simpa using hu) (by simpa using ha)
end
end Go.Sim
end
section
set_option linter.defProp false
namespace Go.Sim
open Go
abbrev o (d : Nat) (i : SI) : SOp := ⟨some d, i, none⟩
theorem o_eq (d : Nat) (i : SI) : o d i = ⟨some d, i, none⟩ := rfl
def VC1 := (And.intro (And.intro (And.intro (And.intro (And.intro @vc_skip @vc_reg) (And.intro @vc_dreg @vc_seq)) (And.intro (And.intro @vc_cond @vc_block) (And.intro @vc_loop @vc_exit))) (And.intro (And.intro (And.intro @vc_range @setPs_cons) (And.intro @setPs_nil @roundK_normal)) (And.intro (And.intro @roundK_exit @roundK_ret) (And.intro @vc_ret @thenK_normal)))) @o_eq)
def VC2 := (And.intro (And.intro (And.intro (And.intro @thenK_exit @thenK_ret) (And.intro @blockK_normal @blockK_ret)) (And.intro (And.intro @blockK_exit @vcOps_nil) (And.intro @vcOps_cons @vcD_nil))) (And.intro (And.intro (And.intro @vcD_false @vcD_true) (And.intro @vcV_none @vcV_some)) (And.intro (And.intro @gateX_bool @gateX_tup) (And.intro @Sp_bool @Sp_tup))))
def VC3 := (And.intro (And.intro (And.intro (And.intro @retK_normalS @retK_retS) (And.intro @vcI_mv @vcI_pick)) (And.intro (And.intro @vcI_bin @vcI_eqs) (And.intro @vcI_eqb @vcI_un))) (And.intro (And.intro (And.intro @vcI_cvi @vcI_idc) (And.intro @vcI_fld @vcI_fldA)) (And.intro (And.intro @vcI_idxA @vcI_idxS) (And.intro @vcI_ld @vcI_ldm))))
def VC4 := (And.intro (And.intro (And.intro (And.intro @vcI_slS @vcI_slA) (And.intro @vcI_slM @vcI_ext)) (And.intro (And.intro @vcI_bld @vcI_bldF) (And.intro @vcI_len @vcI_lenS))) (And.intro (And.intro (And.intro @vcI_min2 @vcI_max2) (And.intro @vcI_mkf @vcI_isnil)) (And.intro (And.intro @vcI_bldR @vcI_box) (And.intro @vcI_boxF @vcI_new))))
def VC5 := (And.intro (And.intro (And.intro (And.intro @vcI_newnil @vcI_st) (And.intro @vcI_app @vcI_appS)) (And.intro (And.intro @vcI_appIn @vcI_appF) (And.intro @vcI_frz @vcI_slX))) (And.intro (And.intro (And.intro @vcI_mks @vcI_copy) (And.intro @vcI_clear @vcI_b2s)) (And.intro (And.intro @vcI_usd @vcI_ustr) (And.intro @vcI_call @vcI_pcall))))
def VC6 := (And.intro (And.intro (And.intro (And.intro @ev_t @ev_c) (And.intro @evO_some @evO_none)) (And.intro (And.intro @setD_some @setD_none) (And.intro @upd_apply @keepR_nil))) (And.intro (And.intro (And.intro @keepR_cons @dropR_nil) (And.intro @dropR_cons @List.contains_cons.{0})) (And.intro (And.intro @List.contains_nil.{0} @Bool.or_false) (And.intro @Bool.false_or @Bool.or_true))))
def VC7 := (And.intro (And.intro (And.intro (And.intro @Bool.true_or @Option.getD_some.{0}) (And.intro @upd_upd @getD_map_enc)) (And.intro (And.intro @Bool.and_true @Bool.false_xor) (And.intro @Bool.true_xor @Bool.xor_false))) (And.intro (And.intro (And.intro @natCast_succ_sub @Int.toNat_natCast_add_one) (And.intro @List.map_cons.{0, 0} @List.map_nil.{0, 0})) (And.intro (And.intro @aLen_sl @okLen_sl) (And.intro @okIdxA_sl @aIdxA_sl))))
def VC8 := (And.intro (And.intro (And.intro (And.intro @aSlA_sl @okSlA_sl) (And.intro @Rd_sl @nil_sl)) (And.intro (And.intro @wrap_i64 @aBin_add) (And.intro @okBin_add @aBin_sub))) (And.intro (And.intro (And.intro @okBin_sub @aBin_mul) (And.intro @okBin_mul @aBin_quo)) (And.intro (And.intro @okBin_quo @aBin_rem) (And.intro @okBin_rem @aBin_shl))))
def VC9 := (And.intro (And.intro (And.intro (And.intro @okBin_shl @aBin_shr) (And.intro @okBin_shr @aBin_eql)) (And.intro (And.intro @okBin_eql @aBin_neq) (And.intro @okBin_neq @aBin_lss))) (And.intro (And.intro (And.intro @okBin_lss @aBin_leq) (And.intro @okBin_leq @aBin_gtr)) (And.intro (And.intro @okBin_gtr @aBin_geq) (And.intro @okBin_geq @aBin_and))))
def VC10 := (And.intro (And.intro (And.intro (And.intro @okBin_and @aBin_or) (And.intro @okBin_or @aBin_xor)) (And.intro (And.intro @okBin_xor @aBin_andNot) (And.intro @okBin_andNot @aBinS_add))) (And.intro (And.intro (And.intro @okBinS_add @aBinS_eql) (And.intro @okBinS_eql @aBinS_neq)) (And.intro (And.intro @okBinS_neq @aBinS_lss) (And.intro @okBinS_lss @aBinS_geq))))
def VC11 := (And.intro (And.intro (And.intro (And.intro @okBinS_geq @aBinS_gtr) (And.intro @okBinS_gtr @aBinS_leq)) (And.intro (And.intro @okBinS_leq @aUn_not) (And.intro @okUn_not @aUn_neg))) (And.intro (And.intro (And.intro @okUn_neg @aUn_xor) (And.intro @okUn_xor @aEqb_bool)) (And.intro (And.intro @okEqb_bool @aEqs_agg) (And.intro @okEqs_agg @aCvi_int))))
def VC12 := (And.intro (And.intro (And.intro (And.intro @okCvi_int @aPick_bool) (And.intro @okPick_bool @aFld_agg)) (And.intro (And.intro @okFld_agg @cutV_true) (And.intro @cutV_false @aFldA_pin))) (And.intro (And.intro (And.intro @okFldA_pin @aFldA_ptr) (And.intro @okFldA_ptr @deVp_vp)) (And.intro (And.intro @deVp_ptr @deVp_pin) (And.intro @aFldA_vp @okFldA_vp))))
def VC13 := (And.intro (And.intro (And.intro (And.intro @okLd_vp @aLd_vp) (And.intro @nil_vp @cells_vp)) (And.intro (And.intro @isV_vp @stE_vp) (And.intro @aIdxA_osl @okIdxA_osl))) (And.intro (And.intro (And.intro @aIdxA_slc @okIdxA_slc) (And.intro @aIdxS_str @okIdxS_str)) (And.intro (And.intro @aLd_pin @okLd_pin) (And.intro @okLd_ptr @aLd_ptr))))
def VC14 := (And.intro (And.intro (And.intro (And.intro @ldO_some @aExt_tup) (And.intro @okExt_tup @aLen_osl)) (And.intro (And.intro @okLen_osl @aLen_slc) (And.intro @okLen_slc @aLen_emp))) (And.intro (And.intro (And.intro @okLen_emp @aLenS_str) (And.intro @okLenS_str @aMin_int)) (And.intro (And.intro @aMax_int @ok2i_int) (And.intro @aSlS_str @okSlS_str))))
def VC15 := (And.intro (And.intro (And.intro (And.intro @loOf_int @loOf_none) (And.intro @hiOf_int @hiOf_none)) (And.intro (And.intro @okB_int @okB_none) (And.intro @aSlA_osl @okSlA_osl))) (And.intro (And.intro (And.intro @aSlA_emp @okSlA_emp) (And.intro @okSlM_osl @nil_slc)) (And.intro (And.intro @nil_emp @nil_osl) (And.intro @nil_snil @nil_ptr))))
def VC16 := (And.intro (And.intro (And.intro (And.intro @nil_pin @nil_pnil) (And.intro @nil_fn @nil_fnil)) (And.intro (And.intro @stE_ptr @stE_pin) (And.intro @aIdxG_pin @aR2s_int))) (And.intro (And.intro (And.intro @blockK_goto @gotoK_exit) (And.intro @gotoK_goto @gotoK_normal)) (And.intro (And.intro @gotoK_ret @noGoK_exit) (And.intro @noGoK_normal @noGoK_ret))))
def VC17 := (And.intro (And.intro (And.intro (And.intro @okIdxG_pin @thenK_goto) (And.intro @vcI_idxG @vcI_r2s)) (And.intro (And.intro @vc_goto @vc_label) (And.intro @vc_scope @appE_emp))) (And.intro (And.intro (And.intro @appE_osl @appFE_emp) (And.intro @appFE_osl @frzE_emp)) (And.intro (And.intro @frzE_slc @frzE_sl) (And.intro @frzE_osl @Rd_slc))))
def VC18 := (And.intro (And.intro (And.intro (And.intro @Rd_emp @cells_agg) (And.intro @cells_int @isV_int)) (And.intro (And.intro @cells_bool @isV_bool) (And.intro @cells_str @isV_str))) (And.intro (And.intro (And.intro @cells_slc @isV_slc) (And.intro @cells_emp @isV_emp)) (And.intro (And.intro @cells_osl @isV_osl) (And.intro @cells_ptr @isV_ptr))))
def VC19 := (And.intro (And.intro (And.intro (And.intro @cells_pin @isV_pin) (And.intro @cells_fn @isV_fn)) (And.intro (And.intro @isV_agg @cells_sl) (And.intro @isV_sl @callE_fn))) (And.intro (And.intro (And.intro @allOK_nil @allOK_cons) (And.intro @resOK_tmp @resOK_cell)) (And.intro (And.intro @resV_tmp @resV_cell) (And.intro @retV_one @retV_two))))
def VC20 := (And.intro (And.intro (And.intro (And.intro @retV_nil @initE_at) (And.intro @initE_gl @Br_true)) (And.intro (And.intro @Br_false @condOn_br) (And.intro @Rd_oslE @appInE_osl))) (And.intro (And.intro (And.intro @slXE_osl @mksE_int) (And.intro @copyE_osl @clearE_osl)) (And.intro (And.intro @usdE_emp @usdE_osl) (And.intro @ustrE_anyp @ustrE_ptr))))
def VC21 := (And.intro (And.intro (And.intro (And.intro @List.set_cons_zero.{0} @List.set_cons_succ.{0}) (And.intro @List.set_nil.{0} @List.getD_cons_zero.{0})) (And.intro (And.intro @List.getD_cons_succ.{0} @List.headD_cons.{0}) (And.intro @List.drop_zero.{0} @List.drop_succ_cons.{0}))) (And.intro (And.intro (And.intro @List.take_succ_cons.{0} @List.take_zero.{0}) (And.intro @List.length_cons.{0} @List.length_nil.{0})) (And.intro (And.intro @List.length_map.{0, 0} @List.nil_append.{0}) (And.intro @List.cons_append.{0} @List.append_nil.{0}))))
def VC22 := (And.intro (And.intro (And.intro (And.intro @List.mem_cons.{0} @List.not_mem_nil.{0}) (And.intro @or_false @or_true)) (And.intro (And.intro @Int.toNat_zero @List.take_length.{0}) (And.intro @List.isEmpty_cons.{0} @List.isEmpty_nil.{0}))) (And.intro (And.intro (And.intro @Nat.le_refl @Int.toNat_natCast) (And.intro @true_and @and_true)) (And.intro (And.intro @Bool.true_eq_false @Bool.false_eq_true) (And.intro @Bool.not_true @Bool.not_false))))
def VC23 := (And.intro (And.intro (And.intro (And.intro @false_implies @true_implies) (And.intro @not_true_eq_false @not_false_eq_true)) (And.intro (And.intro @AVal.int.injEq @AVal.bool.injEq) (And.intro @AVal.str.injEq @Option.some.injEq.{0}))) (And.intro (And.intro (And.intro @imp_self @and_self) (And.intro @Nat.zero_add @Nat.add_zero)) (And.intro (And.intro @Nat.sub_zero @vcI_mkm) (And.intro @vcI_mup @vcI_lkp))))
def VC24 := (And.intro (And.intro (And.intro (And.intro @mupE_mpr @okLkp_mpr) (And.intro @aLkp_mpr @entsOf_some)) (And.intro (And.intro @isM_m @ents_m) (And.intro @setM_m @isKeyA_int))) (And.intro (And.intro (And.intro @isKeyA_str @isV_mpr) (And.intro @cells_mpr @aFound_int)) (And.intro (And.intro @aFound_int2 @aFound_set) (And.intro @all_eM @mFind_eM))))
def VC25 := (And.intro (And.intro (And.intro @mPut_eM @all_eMs) (And.intro @mFind_eMs (And.intro @mPut_eMs @OTy.lit))) (And.intro (And.intro @vcI_s2b (And.intro @s2bE_str @vcI_rng)) (And.intro @rngE_str (And.intro @vcI_nxt @nxtE_ptr))))
def VCA := (And.intro (And.intro (And.intro (And.intro VC1 (And.intro VC2 VC3)) (And.intro VC4 (And.intro VC5 VC6))) (And.intro (And.intro VC7 (And.intro VC8 VC9)) (And.intro VC10 (And.intro VC11 VC12)))) (And.intro (And.intro (And.intro VC13 (And.intro VC14 VC15)) (And.intro VC16 (And.intro VC17 VC18))) (And.intro (And.intro VC19 (And.intro VC20 VC21)) (And.intro (And.intro VC22 VC23) (And.intro VC24 VC25)))))
theorem Dat.rel {g g' : Ghost} {w : World} (hf : ∀ b, g.fz b -> g'.fz b) {a : AVal} (hd : Dat a) : ∀ {v : Value}, VRel g w v a -> VRel g' w v a := by
  induction hd with
  | prim u => intro v hv; cases hv; exact .prim _
  | int k n => intro v hv; cases hv; exact .int _ _
  | bool b => intro v hv; cases hv; exact .bool _
  | str l => intro v hv; rw [hv.str_inv']; exact VRel.str' l
  | agg cs h ih =>
    intro v hv
    obtain ⟨vs, rfl, hl, h1, h2⟩ := hv.agg_inv
    exact .agg vs cs hl h1 fun j u c hu hc => ih c (List.mem_of_getElem? hc) (h2 j u c hu hc)
  | slc es h ih =>
    intro v hv
    cases hv with
    | slc0 A c => exact .slc0 A c
    | slc ad n c sz _ us hn hc hsz hs hfz h1 h2 h3 => exact .slc ad n c sz es us hn hc hsz hs (hf _ hfz) h1 h2 fun i j e x he hx => ih e (List.mem_of_getElem? he) x (List.mem_of_getElem? hx) (h3 i j e x he hx)
  | emp => intro v hv; cases hv with
    | emp0 => exact .emp0
    | empS ad hs hfz hc => exact .empS ad hs (hf _ hfz) hc
  | pin cs h ih =>
    intro v hv
    obtain ⟨ad, rfl, hs, hfz, hc⟩ := hv.pin_inv
    exact VRel.pin_mk hs (hf _ hfz) fun j b hb => by
      obtain ⟨u, h1, h2, h3⟩ := hc j b hb
      exact ⟨u, h1, h2, ih b (List.mem_of_getElem? hb) h3⟩
  | tup cs h ih =>
    intro v hv
    obtain ⟨vs, rfl, hl, h2⟩ := hv.tup_inv
    exact .tup vs cs hl fun j u c hu hc => ih c (List.mem_of_getElem? hc) (h2 j u c hu hc)
  | dead => intro v hv; exact .dead v
def Ghost.bare (g : Ghost) : Ghost := { g with nxt := 0, tn := fun _ => False }
section
variable {P : PG} {n : Nat} {ann : Ann} {W : World} {g : Ghost} {a : Act} {e : Env}
theorem yield_op {o : Oper} {c : Call} {f : Operand} {l m : Nat} {next : Act -> World -> Prop} {Q : Exit -> Act -> World -> Prop} {A B : World -> Prop} (ho : o.op = .call c) (hc : c.callee = .value f) (hf : a.eval f = .func (.yield l) #[] #[])
    (hy : YieldAt (FR none) m P l (c.args.map a.eval) W fun e W' => (e = .returned (.bool true) /\ A W') \/ (e = .returned (.bool false) /\ B W')) (hA : ∀ W', A W' -> next (a.put o.dst (.bool true)) W') (hB : ∀ W', B W' -> next (a.put o.dst (.bool false)) W') :
    o.wpIn (FR none) (m + 1) P a W next Q := by
  obtain ⟨fn, tmps, assign, body, hrun, hR⟩ := hy
  refine ⟨fun _ _ => trivial, ?_⟩
  have e : o.semAt (FR none).round a.eval = execOp a.eval o := rfl
  have hex : (execOp a.eval o).run P W = .ok (.round l fn tmps assign body) W := by
    simp only [execOp, ho, resolve, hc, hf, Deferred.ofValue, Sem.run_bind, Sem.run_pure, Result.andThen_ok, invoke]
    simpa using hrun
  rw [e, hex]
  refine ⟨(fun h => by cases h), hR.mono fun e' W' hh => ?_⟩
  rcases hh with ⟨rfl, h⟩ | ⟨rfl, h⟩
  · exact hA W' h
  · exact hB W' h
end
end Go.Sim
end
section
set_option linter.defProp false
namespace Go.Sim
open Go
theorem VRel.heap {g : Ghost} {w w' : World} (hk : ∀ b, g.fz b -> w'.heap[b]? = w.heap[b]?) {v : Value} {a : AVal} (h : VRel g w v a) : VRel g w' v a := by
  have hcell : ∀ ad : Addr, g.fz ad.block -> w'.cell? ad = w.cell? ad := fun ad hb => World.cell?_of_block (hk _ hb)
  induction h with
  | prim v => exact .prim v
  | int k n => exact .int k n
  | bool b => exact .bool b
  | str s => exact .str s
  | agg vs cs hl h1 _ ih => exact .agg vs cs hl h1 ih
  | slc0 A c => exact .slc0 A c
  | slc ad n c sz es us hn hc hsz hsp hf h1 h2 _ ih =>
    exact .slc ad n c sz es us hn hc hsz hsp hf (fun i j e a he ha => (hcell _ (by rw [Addr.block_add]; exact hf)).trans (h1 i j e a he ha)) h2 ih
  | emp0 => exact .emp0
  | empS ad hsp hf hc => exact .empS ad hsp hf (by rw [hk _ hf]; exact hc)
  | osl0 r sz hr hc hz => exact .osl0 r sz hr hc hz
  | osl r sz i n cap off hr hz hc hm hi ho => exact .osl r sz i n cap off hr hz hc hm hi ho
  | ptr r i j hr => exact .ptr r i j hr
  | vp r j hr hb hc => exact .vp r j hr hb hc
  | mpr r hr => exact .mpr r hr
  | anyp q => exact .anyp q
  | pin ad cs us hsp hf h1 h2 _ ih => exact .pin ad cs us hsp hf (fun j a ha => (hcell _ (by rw [Addr.block_add]; exact hf)).trans (h1 j a ha)) h2 ih
  | fn f fs cs as bs hf hc _ _ ih1 ih2 => exact .fn f fs cs as bs hf hc ih1 ih2
  | tup vs as hl _ ih => exact .tup vs as hl ih
  | dead v => exact .dead v
inductive IOp | op (s : SOp) | yld (dst : Option Nat) (f : SX) (args : List SX)
inductive ICode : Type
  | skip
  | reg (ops : List IOp)
  | seq (a b : ICode)
  | cond (x : SX) (a b : ICode)
  | block (id : Nat) (c : ICode)
  | loop (c : ICode)
  | exit (id : Nat)
  | ret
def yieldOf (o : Oper) : Option (Nat × List Operand) :=
  match o.op, o.guard with
  | .call c, none => match c.callee with
    | .value (.tmp t) => if t < 1000000 then some (t, c.args.toList) else none
    | _ => none
  | _, _ => none
def dstI (np n : Nat) : Option Nat -> Bool
  | some d => decide (np <= d) && decide (d < n)
  | none => true
def toIOp (P : Program) (ann : Ann) (np n : Nat) (ops : Array Oper) (o : Oper) : Option IOp :=
  if dstI np n o.dst = true then
    match yieldOf o with
    | some (t, as) => (TW as).map fun l => .yld o.dst (.t t) l
    | none => (YY P ann n ops o).bind fun s => if s.si.isMup = true then none else some (.op s)
  else none
def toIOps (P : Program) (ann : Ann) (np n : Nat) (ops : Array Oper) : List Oper -> Option (List IOp)
  | [] => some []
  | o :: r => (toIOp P ann np n ops o).bind fun s => (toIOps P ann np n ops r).map (s :: ·)
def toI (P : Program) (ann : Ann) (np n : Nat) : Code -> Option ICode
  | .skip => some .skip
  | .region _ ops false => (toIOps P ann np n ops ops.toList).map .reg
  | .seq a b => (toI P ann np n a).bind fun x => (toI P ann np n b).map (.seq x)
  | .cond c a b => (Z1 c).bind fun c => (toI P ann np n a).bind fun x => (toI P ann np n b).map (.cond c x)
  | .block id c => (toI P ann np n c).map (.block id)
  | .loop c => (toI P ann np n c).map .loop
  | .exit id => some (.exit id)
  | .ret => some .ret
  | _ => none
def toIF (P : Program) (ann : Ann) (np : Nat) (fn : Func) : Option ICode := if fn.results = #[] then fn.body.bind (toI P ann np fn.ntmps) else none
def keepS : AVal -> AVal
  | .int k n => .int k n
  | .bool b => .bool b
  | .str l => .str l
  | _ => .dead
def aft (np : Nat) (e : Env) : Env := fun t => if t < np \/ 1000000 <= t then e t else keepS (e t)
def aftX (e : Env) : Env := fun t => keepS (e t)
def PG.dark (P : PG) : PG := ⟨P.p, fun _ => .dead⟩
def PS (P : PG) (s : Bool) : PG := if s = true then P.dark else P
section
variable {X : Type}
def TQ (P : PG) (np : Nat) (yv : AVal) (enc : X -> List AVal) (N : Nat) : List IOp -> Bool -> List X -> Env -> (Bool -> List X -> Env -> Prop) -> Prop
  | [], s, p, e, K => K s p e
  | .op o :: r, s, p, e, K => Hd (vcV (PS P s) o e (fun _ => none)) (fun v _ => TQ P np yv enc N r s p (K9 e o.dst v) K) .mk
  | .yld d f as :: r, s, p, e, K => s = false /\ p.length < N /\ ev e f = yv /\ ∃ x, as.map (ev e) = enc x /\
      TQ P np yv enc N r false (p ++ [x]) (K9 (aft np e) d (.bool true)) K /\ TQ P np yv enc N r true (p ++ [x]) (K9 (aftX e) d (.bool false)) K
def seqK (N : Bool -> List X -> Env -> Prop) (Q : SExit -> Bool -> List X -> Env -> Prop) : SExit -> Bool -> List X -> Env -> Prop
  | .normal, s, p, e => N s p e
  | x, s, p, e => Q x s p e
def blkK (id : Nat) (Q : SExit -> Bool -> List X -> Env -> Prop) : SExit -> Bool -> List X -> Env -> Prop
  | .exit j, s, p, e => if j = id then Q .normal s p e else Q (.exit j) s p e
  | x, s, p, e => Q x s p e
def itLoop (body : (SExit -> Bool -> List X -> Env -> Prop) -> Bool -> List X -> Env -> Prop) (Q : SExit -> Bool -> List X -> Env -> Prop) (s : Bool) (p : List X) (e : Env) : Prop :=
  ∃ I : Nat -> Bool -> List X -> Env -> Prop, (∃ m, I m s p e) /\ ∀ m s p e, I m s p e -> body (seqK (fun s p e => ∃ m', m' < m /\ I m' s p e) Q) s p e
def itv (P : PG) (np : Nat) (yv : AVal) (enc : X -> List AVal) (N : Nat) : ICode -> (SExit -> Bool -> List X -> Env -> Prop) -> Bool -> List X -> Env -> Prop
  | .skip, Q, s, p, e => Q .normal s p e
  | .reg ops, Q, s, p, e => TQ P np yv enc N ops s p e (Q .normal)
  | .seq a b, Q, s, p, e => itv P np yv enc N a (seqK (itv P np yv enc N b Q) Q) s p e
  | .cond x a b, Q, s, p, e => condOn (ev e x) (itv P np yv enc N a Q s p e) (itv P np yv enc N b Q s p e)
  | .block id c, Q, s, p, e => itv P np yv enc N c (blkK id Q) s p e
  | .loop c, Q, s, p, e => itLoop (itv P np yv enc N c) Q s p e
  | .exit id, Q, s, p, e => Q (.exit id) s p e
  | .ret, Q, s, p, e => Q .ret s p e
def endK (xs : List X) : SExit -> Bool -> List X -> Env -> Prop
  | .exit _, _, _, _ => False
  | .goto _, _, _, _ => False
  | _, s, p, _ => if s = true then p <+: xs else p = xs
end
def IOp.gd : IOp -> Bool
  | .op s => s.si.gated
  | .yld .. => true
def ICode.gd : ICode -> Bool
  | .reg ops => ops.all IOp.gd
  | .seq a b => a.gd && b.gd
  | .cond _ a b => a.gd && b.gd
  | .block _ c => c.gd
  | .loop c => c.gd
  | _ => true
theorem vcOp_put {ann : Ann} {ops : Array Oper} {o : Oper} {op : SOp} {P : PG} {n : Nat} {e : Env} {h : Q2} {g : Ghost} {a : Act} {w : World} (ht : YY P ann n ops o = some op) (hnm : op.si.isMup = false) {K : Env -> Q2 -> Prop} (hk : vcOp P op e h K) {g0 : Ghost} {w0 : World} (GR : GRel P.gl g0 w0) (T : St [] n g0 w0 e h g a w)
    {next : Act -> World -> Prop} {Q : Exit -> Act -> World -> Prop} (hn : ∀ v r w' e' h' g', (op.si.gated = true -> g' = g) -> (e' = K9 e o.dst r /\ K e' h') -> St [] n g0 w0 e' h' g' (a.put o.dst v) w' -> next (a.put o.dst v) w') :
    if Region.wanted o (yielded ops a.tmps) then o.wp P a w next Q \/ (o.asks P a w /\ LetsOut Q) else next (a.put o.dst undef) w := by
  unfold YY at ht
  simp only [Option.bind_eq_some_iff] at ht
  obtain ⟨si, hsi, ht⟩ := ht
  split at ht
  · rename_i hd
    have hd := dstOK_out hd.1
    have run : op.si = si -> ∀ {K' : AVal -> Q2 -> Prop}, si.isMup = false -> vcI P si e h K' -> (∀ r h', K' r h' -> K (K9 e o.dst r) h') -> o.wp P a w next Q := by
      intro hop K' hm hv hK'
      refine vcI_sound hsi hm hv T.E T.H (GR.step T.S) fun v w' g' r h' S' H' V' k' hg => hn _ r _ _ h' g' (fun q => (hg (by rw [<- hop]; exact q)).1) ⟨rfl, hK' r h' k'⟩ ⟨(T.E.step S').put hd V', H', T.S.trans S', T.M.put _ _, MO.nil⟩
    split at ht
    · rename_i hg
      cases ht
      have hw : Region.wanted o (yielded ops a.tmps) = true := by simp [Region.wanted, hg]
      rw [if_pos hw]
      exact .inl (run rfl hnm hk fun _ _ k => k)
    · rename_i j b hg
      rw [Option.bind_eq_some_iff] at ht
      obtain ⟨s, hs, ht⟩ := ht
      split at ht
      case isFalse => cases ht
      rename_i h6
      cases ht
      have skip : UW (e s) b = some false -> K (K9 e o.dst (.tup [])) h -> (if Region.wanted o (yielded ops a.tmps) then o.wp P a w next Q \/ (o.asks P a w /\ LetsOut Q) else next (a.put o.dst undef) w) := by
        intro het hK
        have hy := want_off hs (T.E.slot s h6) het
        rw [if_neg (by simp [Region.wanted, hg, hy])]
        exact hn _ _ _ _ h g (fun _ => rfl) ⟨rfl, hK⟩ ⟨T.E.put hd (.tup #[] [] rfl (by simp)), T.H, T.S, T.M.put _ _, MO.nil⟩
      have go : UW (e s) b = some true -> o.wp P a w next Q -> (if Region.wanted o (yielded ops a.tmps) then o.wp P a w next Q \/ (o.asks P a w /\ LetsOut Q) else next (a.put o.dst undef) w) := by
        intro het hwp
        have hy := want_on hs (T.E.slot s h6) het
        rw [if_pos (by simp [Region.wanted, hg, hy])]
        exact .inl hwp
      have hk : vcG P s b si e h (fun r h' => K (K9 e o.dst r) h') := hk
      unfold vcG at hk
      split at hk
      · rename_i f args
        obtain ⟨v, hk⟩ := hk
        obtain ⟨t, het, h1, h2⟩ := QX hk
        rw [gateV_w het] at h2
        cases t with
        | true => exact go het (run rfl hnm (K' := fun r h' => r = v /\ h' = h) ⟨v, h1 rfl, rfl, rfl⟩ (by rintro r h' ⟨rfl, rfl⟩; exact h2))
        | false => exact skip het h2
      · split at hk
        · rename_i hst
          obtain ⟨t, het, h1, h2⟩ := QX hk
          rw [gateV_w het] at h2
          cases t with
          | true => exact go het (run rfl hnm (K' := fun r h' => r = fop si e h /\ h' = h) (stable_vcI hst (h1 rfl) ⟨rfl, rfl⟩) (by rintro r h' ⟨rfl, rfl⟩; exact h2))
          | false => exact skip het h2
        · obtain ⟨t, het, h1, h2⟩ := WK hk
          cases t with
          | true => exact go het (run rfl hnm (h1 rfl) fun _ _ k => k)
          | false => exact skip het (h2 rfl)
  · cases ht
structure IR (pu : Bool) {X : Type} (P : PG) (n np : Nat) (enc : X -> List AVal) (g0 : Ghost) (w0 : World) (e0 : Env) (J Jx : List { p : X × Array Value // VRelL g0 w0 p.2 (enc p.1) } -> World -> Prop) (s : Bool) (p : List X) (e : Env) (a : Act) (W : World) : Prop where
  D : a.defers = []
  B : ∃ gs Ws g p', (gs.nxt = 0 /\ ∀ b, ¬ gs.tn b) /\ St [] n gs Ws e (fun _ => none) g a W /\ GRel (PS P s).gl gs Ws /\ p'.map (fun q => q.1.1) = p /\ (s = true -> Jx p' Ws) /\
    (s = false -> J p' Ws /\ (∀ b, g0.fz b -> gs.fz b /\ Ws.heap[b]? = w0.heap[b]?) /\ (∀ b, e (1000000 + b) = P.gl b) /\ (∀ t, t < np -> e t = e0 t /\ VRel g0 w0 (a.tmps.getD t undef) (e0 t)) /\ (pu = true -> ∀ b, g.fz b -> g0.fz b))
theorem VRel.prim_inv' {g : Ghost} {w : World} {u v : Value} (h : VRel g w u (.prim v)) : u = v := by cases h; rfl
theorem setD_hi {np n : Nat} (_ : np <= n) (hn : n <= 1000000) {e : Env} {dst : Option Nat} (h : ∀ d, dst = some d -> d < n) {v : AVal} (b : Nat) : K9 e dst v (1000000 + b) = e (1000000 + b) := by
  cases dst with
  | none => rfl
  | some d => exact J9 _ _ (by have := h d rfl; omega)
theorem grown_of {gs g : Ghost} {Ws W : World} (S : GSh gs Ws g W) (hn : gs.nxt = 0 /\ ∀ b, ¬ gs.tn b) : Ws.grownBy W none :=
  ⟨S.os, S.tape, S.output, S.size, fun k hk _ => S.own k hk (fun q => hn.2 k q.1) (.inl fun ⟨r, hr, _⟩ => by rw [hn.1] at hr; omega)⟩
theorem GRel.dark (P : PG) (g : Ghost) (w : World) : GRel (PG.dark P).gl g w := fun _ => ⟨.dead, .dead _⟩
theorem keepS_rel {g g' : Ghost} {w w' : World} {v : Value} {a : AVal} (h : VRel g w v a) : VRel g' w' v (keepS a) := by
  cases h <;> first | exact .dead _ | exact .int _ _ | exact .bool _ | exact .str _
theorem put_at {a : Act} {dst : Option Nat} {v : Value} {t : Nat} (h : ∀ d, dst = some d -> d ≠ t) : (a.put dst v).tmps.getD t undef = a.tmps.getD t undef := by
  cases dst with
  | none => rfl
  | some d =>
    simp only [Act.put, Array.getD_eq_getD_getElem?, Array.getElem?_setIfInBounds]
    rw [if_neg (h d rfl)]
theorem dstI_out {np n : Nat} {d : Option Nat} (h : dstI np n d = true) : ∀ x, d = some x -> np <= x /\ x < n := by
  intro x hx; subst hx; simpa [dstI] using h
section
variable {pu : Bool} {X : Type} {P : PG} {ann : Ann} {n np N : Nat} {enc : X -> List AVal} {g0 : Ghost} {w0 : World} {e0 : Env} {l B : Nat} {J Jx : List { p : X × Array Value // VRelL g0 w0 p.2 (enc p.1) } -> World -> Prop}
abbrev Kp0 (g0 : Ghost) (W W' : World) : Prop := ∀ b, g0.fz b -> W'.heap[b]? = W.heap[b]?
theorem VZ (hnp : np <= n) (G0 : GRel P.gl g0 w0) (F0 : ∀ b, g0.fz b -> b < w0.heap.size) (D0 : ∀ t, t < np -> Dat (e0 t)) (henc : ∀ x, ∀ y ∈ enc x, Scal y \/ (pu = true /\ Dat y))
    (hJ : ∀ p W W', J p W -> W.grownBy W' none -> J p W') (hJx : ∀ p W W', Jx p W -> W.grownBy W' none -> Jx p W')
    (hY : ∀ pre x W1, J pre W1 -> pre.length < N -> YieldAt (FR none) 0 P.p l x.1.2 W1 fun e W' => (e = .returned (.bool true) /\ J (pre ++ [x]) W' /\ Kp0 g0 W1 W') \/ (e = .returned (.bool false) /\ Jx (pre ++ [x]) W'))
    {ops : Array Oper} {K : Bool -> List X -> Env -> Prop} {Q : Exit -> Act -> World -> Prop} (hL : ¬ LetsOut Q) (hQ : ∀ s p e a W, K s p e -> IR pu P n np enc g0 w0 e0 J Jx s p e a W -> Q .normal a W) :
    ∀ (os : List Oper) (il : List IOp) (s : Bool) (p : List X) (e : Env) (a : Act) (W : World), toIOps P ann np n ops os = some il -> (pu = true -> il.all IOp.gd = true) -> TQ P np (.prim (.func (.yield l) #[] #[])) enc N il s p e K -> IR pu P n np enc g0 w0 e0 J Jx s p e a W -> wpListIn (FR none) 1 P ops Q os a W
  | [], il, s, p, e, a, W, ht, hpu, hk, R => by
    simp [toIOps] at ht; subst ht
    exact hQ s p e a W hk R
  | o :: r, il, s, p, e, a, W, ht, hpu, hk, R => by
    simp only [toIOps, Option.bind_eq_some_iff, Option.map_eq_some_iff] at ht
    obtain ⟨io, hio, ir, hir, rfl⟩ := ht
    have hpr : pu = true -> ir.all IOp.gd = true := fun q => by have := hpu q; simp only [List.all_cons, Bool.and_eq_true] at this; exact this.2
    have hpo : pu = true -> io.gd = true := fun q => by have := hpu q; simp only [List.all_cons, Bool.and_eq_true] at this; exact this.1
    obtain ⟨hD, gs, Ws, g, p', hnx, S, GR, hp, hX, hF⟩ := R
    unfold toIOp at hio
    split at hio
    case isFalse => cases hio
    rename_i hdst
    have hdst := dstI_out hdst
    split at hio
    · rename_i t as hyo
      rw [Option.map_eq_some_iff] at hio
      obtain ⟨sl, hsl, rfl⟩ := hio
      obtain ⟨rfl, hlen, hf, x, hx, hgo, hst⟩ := hk
      obtain ⟨hJp, hfz, hgl, hpar, hgf⟩ := hF rfl
      unfold yieldOf at hyo
      split at hyo
      case h_2 => cases hyo
      rename_i c ho hg
      split at hyo
      case h_2 => cases hyo
      rename_i t' hc
      split at hyo
      case isFalse => cases hyo
      rename_i h6
      cases hyo
      have hw : Region.wanted o (yielded ops a.tmps) = true := by simp [Region.wanted, hg]
      unfold wpListIn
      rw [if_pos hw]
      have hfv : a.eval (.tmp t) = .func (.yield l) #[] #[] := by
        have h1 := Q6 S.E (x := .tmp t) (sx := .t t) (by simp [Z1, h6])
        rw [show ev e (.t t) = _ from hf] at h1
        exact h1.prim_inv'
      have hargs := evs_rel S.E hsl
      rw [hx] at hargs
      have hWk : ∀ b, g0.fz b -> W.heap[b]? = w0.heap[b]? := fun b hb => (S.S.keep b (hfz b hb).1).trans (hfz b hb).2
      have hargs0 : VRelL g0 w0 (c.args.map a.eval) (enc x) := ⟨hargs.1, fun j u y hu hy => by
        rcases henc x y (List.mem_of_getElem? hy) with hs | ⟨hp1, hd⟩
        · exact hs.any (hargs.2 j u y hu hy) g0 w0
        · exact (hd.rel (hgf hp1) (hargs.2 j u y hu hy)).heap fun b hb => (hWk b hb).symm⟩
      have hgr := grown_of S.S hnx
      have hyy := hY p' ⟨(x, c.args.map a.eval), hargs0⟩ W (hJ _ _ _ hJp hgr) (by rw [<- hp] at hlen; simpa using hlen)
      refine yield_op (l := l) (m := 0) (A := fun W' => J (p' ++ [⟨(x, c.args.map a.eval), hargs0⟩]) W' /\ Kp0 g0 W W') (B := fun W' => Jx (p' ++ [⟨(x, c.args.map a.eval), hargs0⟩]) W') ho hc hfv ?_ ?_ ?_
      · obtain ⟨fn, tm, asg, body, h1, h2⟩ := hyy
        exact ⟨fn, tm, asg, body, h1, h2.mono fun e W' hh => hh.imp (fun ⟨a, b, c⟩ => ⟨a, b, c⟩) fun h => h⟩
      · rintro W' ⟨hJ', hK'⟩
        have hk0 : ∀ b, g0.fz b -> W'.heap[b]? = w0.heap[b]? := fun b hb => (hK' b hb).trans (hWk b hb)
        have hb : ∀ b, g0.fz b -> g0.bare.fz b := fun b h => h
        have hsz : ∀ b, g0.fz b -> b < W'.heap.size := fun b hb => by
          have h1 := F0 b hb
          have h2 := hk0 b hb
          rw [Array.getElem?_eq_getElem h1] at h2
          exact (Array.getElem?_eq_some_iff.1 h2).1
        have GR' : GRel P.gl g0.bare W' := fun b => ⟨(G0 b).1, (G0 b).1.rel hb ((G0 b).2.heap hk0)⟩
        have E1 : ERel n (aft np e) g0.bare W' a := by
          refine ⟨by rw [hD]; exact DOK.nil _ _, S.E.size, S.E.bnd, fun t ht => ?_, fun b => ?_⟩
          · unfold aft
            split
            · rename_i hh
              have ht' : t < np := by omega
              rw [(hpar t ht').1]
              exact (D0 t ht').rel hb ((hpar t ht').2.heap hk0)
            · exact keepS_rel (S.E.slot t ht)
          · unfold aft
            rw [if_pos (by omega)]
            rw [hgl b]
            exact (GR' b).2
        refine VZ hnp G0 F0 D0 henc hJ hJx hY hL hQ r ir false _ _ _ W' hir hpr hgo ⟨by rw [UK]; exact hD, g0.bare, W', g0.bare, _, ⟨rfl, fun _ h => h⟩, ⟨E1.put (fun d hd => (hdst d hd).2) (.bool true), ⟨(fun r o hr => by cases hr), (fun r r' o o' hr => by cases hr), hsz, (fun b ⟨r, hr, _⟩ => by cases hr), .none⟩, GSh.refl _ _, (MK.put (fun _ d hd => by rw [hD] at hd; cases hd) _ _), MO.nil⟩, GR', by simp [hp], (fun h => by cases h), fun _ => ⟨hJ', fun b hb => ⟨hb, hk0 b hb⟩, fun b => (setD_hi hnp S.E.bnd (fun d hd => (hdst d hd).2) b).trans ((if_pos (by omega)).trans (hgl b)), fun t ht => ?_, fun _ b hb => hb⟩⟩
        have hne : ∀ d, o.dst = some d -> d ≠ t := fun d hd => Nat.ne_of_gt (Nat.lt_of_lt_of_le ht (hdst d hd).1)
        refine ⟨?_, by rw [put_at hne]; exact (hpar t ht).2⟩
        have h1 : K9 (aft np e) o.dst (.bool true) t = aft np e t := by
          cases hd : o.dst with
          | none => rfl
          | some d => exact J9 _ _ (fun h => hne d hd h.symm)
        rw [h1, aft, if_pos (.inl ht)]
        exact (hpar t ht).1
      · intro W' hJ'
        let g1 : Ghost := { g0 with nxt := 0, fz := fun _ => False, tn := fun _ => False }
        have E1 : ERel n (aftX e) g1 W' a := ⟨by rw [hD]; exact DOK.nil _ _, S.E.size, S.E.bnd, fun t ht => keepS_rel (S.E.slot t ht), fun b => keepS_rel (S.E.glo b)⟩
        exact VZ hnp G0 F0 D0 henc hJ hJx hY hL hQ r ir true _ _ _ W' hir hpr hst ⟨by rw [UK]; exact hD, g1, W', g1, _, ⟨rfl, fun _ h => h⟩, ⟨E1.put (fun d hd => (hdst d hd).2) (.bool false), ⟨(fun r o hr => by cases hr), (fun r r' o o' hr => by cases hr), (fun b hb => by cases hb), (fun b ⟨r, hr, _⟩ => by cases hr), .none⟩, GSh.refl _ _, (MK.put (fun _ d hd => by rw [hD] at hd; cases hd) _ _), MO.nil⟩, GRel.dark P _ _, by simp [hp], fun _ => hJ', (fun h => by cases h)⟩
    · rw [Option.bind_eq_some_iff] at hio
      obtain ⟨so, hso, hio⟩ := hio
      split at hio
      · cases hio
      rename_i hnm
      have hnm : so.si.isMup = false := by simpa using hnm
      cases hio
      have hndef : ∀ c, o.op ≠ .defer c := by
        unfold YY at hso
        rw [Option.bind_eq_some_iff] at hso
        obtain ⟨si, hsi, _⟩ := hso
        exact toSI_defer hsi
      have hk : vcOp (PS P s) so e (fun _ => none) fun e' _ => TQ P np (.prim (.func (.yield l) #[] #[])) enc N ir s p e' K := hk
      have hPp : (PS P s).p = P.p := by unfold PS; split <;> rfl
      have key := vcOp_put (P := PS P s) (Q := Q) (o := o) (ops := ops) (ann := ann) (n := n) (by rw [hPp]; exact hso) hnm hk GR S (next := fun a' w' => wpListIn (FR none) 1 P ops Q r a' w') fun v rv w' e' h' g' hgg ⟨he', k'⟩ T' => by
        refine VZ hnp G0 F0 D0 henc hJ hJx hY hL hQ r ir s p e' _ w' hir hpr k' ⟨by rw [UK]; exact hD, gs, Ws, g', p', hnx, ⟨T'.E, T'.H.le (fun t o h => by cases h), T'.S, T'.M, MO.nil⟩, GR, hp, hX, fun hs => ?_⟩
        obtain ⟨h1, h2, h3, h4, h5⟩ := hF hs
        refine ⟨h1, h2, fun b => by rw [he', setD_hi hnp S.E.bnd (fun d hd => (hdst d hd).2)]; exact h3 b, fun t ht => ?_, fun q b hb => h5 q b (by rw [hgg (hpo q)] at hb; exact hb)⟩
        have hne : ∀ d, o.dst = some d -> d ≠ t := fun d hd => Nat.ne_of_gt (Nat.lt_of_lt_of_le ht (hdst d hd).1)
        refine ⟨?_, by rw [put_at hne]; exact (h4 t ht).2⟩
        rw [he']
        refine Eq.trans ?_ (h4 t ht).1
        cases hd : o.dst with
        | none => rfl
        | some d => exact J9 _ _ (fun h => hne d hd h.symm)
      rw [hPp] at key
      unfold wpListIn
      split at key
      · rename_i hw
        rw [if_pos hw]
        exact op_in hndef (key.resolve_right fun h => hL h.2)
      · rename_i hw
        rw [if_neg hw]
        exact ⟨fun _ _ => trivial, key⟩
def IQ (pu : Bool) {X : Type} (P : PG) (n np : Nat) (enc : X -> List AVal) (g0 : Ghost) (w0 : World) (e0 : Env) (J Jx : List { p : X × Array Value // VRelL g0 w0 p.2 (enc p.1) } -> World -> Prop) (Q : SExit -> Bool -> List X -> Env -> Prop) (x : Exit) (a : Act) (W : World) : Prop :=
  ∃ x' s p e, x = exitOf x' /\ Q x' s p e /\ IR pu P n np enc g0 w0 e0 J Jx s p e a W
theorem IQ.in {Q : SExit -> Bool -> List X -> Env -> Prop} : ¬ LetsOut (IQ pu P n np enc g0 w0 e0 J Jx Q) := by
  rintro ⟨a, w, x', s, p, e, hx, _⟩
  cases x' <;> cases hx
theorem itv_sound (hnp : np <= n) (G0 : GRel P.gl g0 w0) (F0 : ∀ b, g0.fz b -> b < w0.heap.size) (D0 : ∀ t, t < np -> Dat (e0 t)) (henc : ∀ x, ∀ y ∈ enc x, Scal y \/ (pu = true /\ Dat y))
    (hJ : ∀ p W W', J p W -> W.grownBy W' none -> J p W') (hJx : ∀ p W W', Jx p W -> W.grownBy W' none -> Jx p W')
    (hY : ∀ pre x W1, J pre W1 -> pre.length < N -> YieldAt (FR none) 0 P.p l x.1.2 W1 fun e W' => (e = .returned (.bool true) /\ J (pre ++ [x]) W' /\ Kp0 g0 W1 W') \/ (e = .returned (.bool false) /\ Jx (pre ++ [x]) W')) :
    ∀ (c : Code) (ic : ICode), toI P ann np n c = some ic -> (pu = true -> ic.gd = true) -> ∀ (Q : SExit -> Bool -> List X -> Env -> Prop) (s : Bool) (p : List X) (e : Env) (a : Act) (W : World), itv P np (.prim (.func (.yield l) #[] #[])) enc N ic Q s p e -> IR pu P n np enc g0 w0 e0 J Jx s p e a W -> c.wpIn (FR none) 1 P (IQ pu P n np enc g0 w0 e0 J Jx Q) a W := by
  intro c
  induction c with
  | skip =>
    intro ic ht hpu Q s p e a W hk R
    simp [toI] at ht; subst ht
    exact wpIn_skip ⟨.normal, s, p, e, rfl, hk, R⟩
  | region id ops draws =>
    intro ic ht hpu Q s p e a W hk R
    cases draws with
    | true => simp [toI] at ht
    | false =>
      simp only [toI, Option.map_eq_some_iff] at ht
      obtain ⟨il, hil, rfl⟩ := ht
      exact wpIn_region_list (VZ hnp G0 F0 D0 henc hJ hJx hY IQ.in (K := Q .normal) (fun s p e a W hk R => ⟨.normal, s, p, e, rfl, hk, R⟩) _ _ s p e a W hil hpu hk R)
  | seq x y ihx ihy =>
    intro ic ht hpu Q s p e a W hk R
    simp only [toI, Option.bind_eq_some_iff, Option.map_eq_some_iff] at ht
    obtain ⟨ix, hix, iy, hiy, rfl⟩ := ht
    refine wpIn_seq (wpIn_mono (ihx ix hix (fun q => (Bool.and_eq_true_iff.1 (hpu q)).1) _ s p e a W hk R) ?_)
    rintro _ a' W' ⟨x', s', p', e', rfl, hq, R'⟩
    cases x' with
    | normal => exact ihy iy hiy (fun q => (Bool.and_eq_true_iff.1 (hpu q)).2) Q s' p' e' a' W' hq R'
    | exit id => exact ⟨.exit id, s', p', e', rfl, hq, R'⟩
    | ret => exact ⟨.ret, s', p', e', rfl, hq, R'⟩
    | goto l => exact ⟨.goto l, s', p', e', rfl, hq, R'⟩
  | cond c x y ihx ihy =>
    intro ic ht hpu Q s p e a W hk R
    simp only [toI, Option.bind_eq_some_iff, Option.map_eq_some_iff] at ht
    obtain ⟨sc, hsc, ix, hix, iy, hiy, rfl⟩ := ht
    obtain ⟨gs, Ws, g, p', _, S, _⟩ := R.B
    have hv := Q6 S.E hsc
    have hk : condOn (ev e sc) (itv P np _ enc N ix Q s p e) (itv P np _ enc N iy Q s p e) := hk
    revert hk hv
    cases ev e sc <;> intro hv hk <;> try exact hk.elim
    rename_i t
    exact wpIn_cond_split hv.bool_inv (fun ht => ihx ix hix (fun q => (Bool.and_eq_true_iff.1 (hpu q)).1) Q s p e a W (hk.1 ht) R) (fun ht => ihy iy hiy (fun q => (Bool.and_eq_true_iff.1 (hpu q)).2) Q s p e a W (hk.2 ht) R)
  | block id c ih =>
    intro ic ht hpu Q s p e a W hk R
    simp only [toI, Option.map_eq_some_iff] at ht
    obtain ⟨i, hi, rfl⟩ := ht
    refine wpIn_block (wpIn_mono (ih i hi (fun q => hpu q) (blkK id Q) s p e a W hk R) ?_)
    rintro _ a' W' ⟨x', s', p', e', rfl, hq, R'⟩
    cases x' with
    | normal => exact ⟨.normal, s', p', e', rfl, hq, R'⟩
    | ret => exact ⟨.ret, s', p', e', rfl, hq, R'⟩
    | goto l => exact ⟨.goto l, s', p', e', rfl, hq, R'⟩
    | exit j =>
      simp only [blkK] at hq
      simp only [exitOf, Exit.inBlock]
      split at hq
      · rename_i hj; rw [if_pos hj]; exact ⟨.normal, s', p', e', rfl, hq, R'⟩
      · rename_i hj; rw [if_neg hj]; exact ⟨.exit j, s', p', e', rfl, hq, R'⟩
  | loop c ih =>
    intro ic ht hpu Q s p e a W hk R
    simp only [toI, Option.map_eq_some_iff] at ht
    obtain ⟨i, hi, rfl⟩ := ht
    obtain ⟨I, ⟨m0, h0⟩, hround⟩ := hk
    intro b k cs hro' hb hr
    have key : ∀ m s p e a W, I m s p e -> IR pu P n np enc g0 w0 e0 J Jx s p e a W -> ∃ x a' W', IQ pu P n np enc g0 w0 e0 J Jx Q x a' W' /\ ArrivesIn (Machine.fenced P (FR none)) P (lone (b.atR a (.code c :: .inLoop c :: k)) cs W) b k cs x a' W' := by
      intro m
      induction m using Nat.strongRecOn with
      | _ m ihm =>
        intro s p e a W hI R
        obtain ⟨x, a₁, w₁, hq, harr⟩   := ih i hi (fun q => hpu q) _ s p e a W (hround m s p e hI) R b (.inLoop c :: k) cs hro' hb hr
        obtain ⟨x', s', p', e', rfl, hq, R'⟩ := hq
        cases x' with
        | normal =>
          obtain ⟨m', hlt, hI'⟩ := hq
          obtain ⟨x2, a₂, w₂, hq₂, harr₂⟩ := ihm m' hlt s' p' e' a₁ w₁ hI' R'
          exact ⟨x2, a₂, w₂, hq₂, .of_steps (StepsIn.trans harr (.one (fenced_calm hb hr rfl) stepR_inLoop)) harr₂⟩
        | exit id => exact ⟨.exit id, a₁, w₁, ⟨.exit id, s', p', e', rfl, hq, R'⟩, .pass (x := .inLoop c) rfl (fun _ _ => .inl (by simp)) harr⟩
        | ret => exact ⟨.ret, a₁, w₁, ⟨.ret, s', p', e', rfl, hq, R'⟩, .pass (x := .inLoop c) rfl (fun _ _ => .inl (by simp)) harr⟩
        | goto l => exact ⟨.goto l, a₁, w₁, ⟨.goto l, s', p', e', rfl, hq, R'⟩, .pass (x := .inLoop c) rfl (fun _ _ => .inl (by simp)) harr⟩
    obtain ⟨x, a', W', hq, harr⟩ := key m0 s p e a W h0 R
    exact ⟨x, a', W', hq, .of_steps (.one (fenced_calm hb hr rfl) stepR_loop) harr⟩
  | exit id =>
    intro ic ht hpu Q s p e a W hk R
    simp [toI] at ht; subst ht
    exact wpIn_exit ⟨.exit id, s, p, e, rfl, hk, R⟩
  | ret =>
    intro ic ht hpu Q s p e a W hk R
    simp [toI] at ht; subst ht
    exact wpIn_ret ⟨.ret, s, p, e, rfl, hk, R⟩
  | rangeFunc f ps asg body _ ihb => intro ic ht; simp [toI] at ht
  | scope => intro ic ht; simp [toI] at ht
  | label => intro ic ht; simp [toI] at ht
  | goto => intro ic ht; simp [toI] at ht
  | refuse => intro ic ht; simp [toI] at ht
end
theorem iterV_of_itv {X : Type} {P : PG} {ann : Ann} {k : Nat} {fn : Func} {ic : ICode} {cap : List AVal} {enc : X -> List AVal} {xs : List X} {N : Nat} (hf : P.p.funcs[k]? = some fn) (hname : (fn.name == "runtime.NumGoroutine") = false)
    (ht : toIF P ann (cap.length + 1) fn = some ic) (hn : cap.length + 1 <= fn.ntmps) (hN : fn.ntmps <= 1000000) (hd : ∀ c ∈ cap, Dat c) (henc : ∀ x, ∀ y ∈ enc x, Scal y \/ (ic.gd = true /\ Dat y))
    (hk : ∀ l, itv P (cap.length + 1) (.prim (.func (.yield l) #[] #[])) enc N ic (endK xs) false [] (QK P.gl (.prim (.func (.yield l) #[] #[]) :: cap))) : IterV P k cap enc xs N := by
  unfold toIF at ht
  split at ht
  case isFalse => cases ht
  rename_i hres
  rw [Option.bind_eq_some_iff] at ht
  obtain ⟨c, hc, hic⟩ := ht
  refine ⟨⟨fn, hf, hname, by simp [hc]⟩, fun g w cs hfz GR V => ?_⟩
  intro l J Jx W hB hJ hJx hY h0
  let e0 := QK P.gl (.prim (.func (.yield l) #[] #[]) :: cap)
  have hkW : ∀ b, g.fz b -> W.heap[b]? = w.heap[b]? := fun b hb => hB.block b (hfz b hb)
  have hb : ∀ b, g.fz b -> g.bare.fz b := fun b h => h
  have hcs : cs.size = cap.length := V.1
  have hD0 : ∀ t, t < cap.length + 1 -> Dat (e0 t) := by
    intro t ht
    show Dat (QK _ _ t)
    unfold QK
    rw [if_pos (by omega)]
    cases t with
    | zero => exact .prim _
    | succ t =>
      have : (AVal.prim (.func (.yield l) #[] #[]) :: cap).getD (t + 1) .dead = cap.getD t .dead := rfl
      rw [this, List.getD_eq_getElem?_getD, List.getElem?_eq_getElem (by omega)]
      exact hd _ (List.getElem_mem _)
  have hslot : ∀ t, t < 1000000 -> VRel g w (((#[Value.func (.yield l) #[] #[]] ++ cs) ++ Array.replicate (fn.ntmps - (#[Value.func (.yield l) #[] #[]] ++ cs).size) undef).getD t undef) (e0 t) := by
    intro t h6
    show VRel g w _ (QK _ _ t)
    unfold QK
    rw [if_pos h6]
    cases t with
    | zero =>
      have h1 : ((#[Value.func (.yield l) #[] #[]] ++ cs) ++ Array.replicate (fn.ntmps - (#[Value.func (.yield l) #[] #[]] ++ cs).size) undef).getD 0 undef = .func (.yield l) #[] #[] := by
        rw [Array.getD_eq_getD_getElem?, Array.append_assoc, Array.getElem?_append_left (by simp)]
        rfl
      rw [h1]; exact .prim _
    | succ t =>
      by_cases ht : t < cap.length
      · have h1 : ((#[Value.func (.yield l) #[] #[]] ++ cs) ++ Array.replicate (fn.ntmps - (#[Value.func (.yield l) #[] #[]] ++ cs).size) undef).getD (t + 1) undef = cs[t]'(by omega) := by
          have ht' : t < cs.size := by omega
          rw [Array.getD_eq_getD_getElem?, Array.append_assoc, Array.getElem?_append_right (by simp), Array.getElem?_append_left (by simpa using ht')]
          simp [ht']
        rw [h1]
        have h2 : (AVal.prim (.func (.yield l) #[] #[]) :: cap).getD (t + 1) .dead = cap[t] := by
          show cap.getD t .dead = _
          rw [List.getD_eq_getElem?_getD, List.getElem?_eq_getElem ht]; rfl
        rw [h2]
        exact V.2 t _ _ (Array.getElem?_eq_getElem (by omega)) (List.getElem?_eq_getElem ht)
      · have h2 : (AVal.prim (.func (.yield l) #[] #[]) :: cap).getD (t + 1) .dead = .dead := by
          show cap.getD t .dead = _
          rw [List.getD_eq_getElem?_getD, List.getElem?_eq_none (by omega)]; rfl
        rw [h2]; exact .dead _
  have hslotW : ∀ t, t < 1000000 -> VRel g.bare W (((#[Value.func (.yield l) #[] #[]] ++ cs) ++ Array.replicate (fn.ntmps - (#[Value.func (.yield l) #[] #[]] ++ cs).size) undef).getD t undef) (e0 t) := by
    intro t h6
    by_cases ht : t < cap.length + 1
    · exact (hD0 t ht).rel hb ((hslot t h6).heap hkW)
    · have : e0 t = .dead := by
        show QK _ _ t = _
        unfold QK
        rw [if_pos h6, List.getD_eq_getElem?_getD, List.getElem?_eq_none (by simp; omega)]; rfl
      rw [this]; exact .dead _
  have GRW : GRel P.gl g.bare W := fun b => ⟨(GR b).1, (GR b).1.rel hb ((GR b).2.heap hkW)⟩
  refine callsIn_of_wp hf hc trivial (wpIn_mono (itv_sound (pu := ic.gd) (P := P) (n := fn.ntmps) (np := cap.length + 1) (N := N) (enc := enc) (g0 := g) (w0 := w) (e0 := e0) (l := l) (J := J) (Jx := Jx) hn GR hfz hD0 henc
    (fun p W W' h hg => hJ p W W' none h hg (fun r h => by cases h)) (fun p W W' h hg => hJx p W W' none h hg (fun r h => by cases h)) (fun pre x W1 h1 h2 => hY pre x W1 h1 h2) c ic hic (fun q => q) (endK xs) false [] e0 _ W (hk l)
    ⟨rfl, g.bare, W, g.bare, [], ⟨rfl, fun _ h => h⟩, ⟨⟨DOK.nil _ _, ?_, hN, hslotW, fun b => ?_⟩, ⟨(fun r o hr => by cases hr), (fun r r' o o' hr => by cases hr), fun b hbz => ?_, (fun b ⟨r, hr, _⟩ => by cases hr), .none⟩, GSh.refl _ _, (fun _ d hd => by cases hd), MO.nil⟩, GRW, rfl, (fun h => by cases h), fun _ => ⟨h0, fun b hb => ⟨hb, hkW b hb⟩, fun b => ?_, fun t ht => ⟨rfl, hslot t (by omega)⟩, fun _ b hb => hb⟩⟩) ?_) rfl
  · simp only [Array.size_append, Array.size_replicate]
    have : (#[Value.func (.yield l) #[] #[]] : Array Value).size = 1 := rfl
    omega
  · show VRel _ _ _ (QK _ _ _)
    rw [QK, if_neg (by omega), Nat.add_sub_cancel_left]; exact (GRW b).2
  · exact Nat.lt_of_lt_of_le (hfz b hbz) hB.size
  · show QK _ _ _ = _
    rw [QK, if_neg (by omega), Nat.add_sub_cancel_left]
  · rintro x a' W' ⟨x', s, p, e, rfl, hq, hD, gs, Ws, g', p', hnx, S, _, hp, hX, hF⟩
    have hg := grown_of S.S hnx
    have fin : (if s = true then p <+: xs else p = xs) -> ((∃ ys : List { p : X × Array Value // VRelL g w p.2 (enc p.1) }, ys.map (fun q => q.1.1) = xs /\ J ys W') \/ ∃ pre : List { p : X × Array Value // VRelL g w p.2 (enc p.1) }, pre.map (fun q => q.1.1) <+: xs /\ Jx pre W') := by
      intro hh
      cases s with
      | true => exact .inr ⟨p', by rw [hp]; simpa using hh, hJx _ _ _ none (hX rfl) hg (fun r h => by cases h)⟩
      | false => exact .inl ⟨p', by rw [hp]; simpa using hh, hJ _ _ _ none (hF rfl).1 hg (fun r h => by cases h)⟩
    cases x' with
    | normal => exact ⟨hD, _, results_none hres _ _ _, ⟨_, rfl⟩, fin hq⟩
    | ret => exact ⟨hD, _, results_none hres _ _ _, ⟨_, rfl⟩, fin hq⟩
    | exit id => exact hq.elim
    | goto l => exact hq.elim
section
variable {X : Type} {P : PG} {np : Nat} {yv : AVal} {enc : X -> List AVal} {N : Nat} {Q : SExit -> Bool -> List X -> Env -> Prop} {s : Bool} {p : List X} {e : Env} {K : Bool -> List X -> Env -> Prop}
theorem itv_skip : itv P np yv enc N .skip Q s p e = Q .normal s p e := rfl
theorem itv_reg (ops : List IOp) : itv P np yv enc N (.reg ops) Q s p e = TQ P np yv enc N ops s p e (Q .normal) := rfl
theorem itv_seq (a b : ICode) : itv P np yv enc N (.seq a b) Q s p e = itv P np yv enc N a (seqK (itv P np yv enc N b Q) Q) s p e := rfl
theorem itv_cond (x : SX) (a b : ICode) : itv P np yv enc N (.cond x a b) Q s p e = condW (ev e x) (itv P np yv enc N a Q s p e) (itv P np yv enc N b Q s p e) .mk := rfl
theorem itv_block (id : Nat) (c : ICode) : itv P np yv enc N (.block id c) Q s p e = itv P np yv enc N c (blkK id Q) s p e := rfl
theorem itv_loop (c : ICode) : itv P np yv enc N (.loop c) Q s p e = itLoop (itv P np yv enc N c) Q s p e := rfl
theorem itv_exit (id : Nat) : itv P np yv enc N (.exit id) Q s p e = Q (.exit id) s p e := rfl
theorem itv_ret : itv P np yv enc N .ret Q s p e = Q .ret s p e := rfl
theorem itOps_nil : TQ P np yv enc N [] s p e K = K s p e := rfl
theorem itOps_op (o : SOp) (r : List IOp) : TQ P np yv enc N (.op o :: r) s p e K = Hd (vcV (PS P s) o e (fun _ => none)) (fun v _ => TQ P np yv enc N r s p (K9 e o.dst v) K) .mk := rfl
theorem itOps_yld (d : Option Nat) (f : SX) (as : List SX) (r : List IOp) : TQ P np yv enc N (.yld d f as :: r) s p e K = (s = false /\ p.length < N /\ ev e f = yv /\ ∃ x, as.map (ev e) = enc x /\
      TQ P np yv enc N r false (p ++ [x]) (K9 (aft np e) d (.bool true)) K /\ TQ P np yv enc N r true (p ++ [x]) (K9 (aftX e) d (.bool false)) K) := rfl
theorem PS_false : PS P false = P := rfl
variable {M : Bool -> List X -> Env -> Prop}
theorem seqK_normal : seqK M Q .normal s p e = M s p e := rfl
theorem seqK_exit (id : Nat) : seqK M Q (.exit id) s p e = Q (.exit id) s p e := rfl
theorem seqK_ret : seqK M Q .ret s p e = Q .ret s p e := rfl
theorem blkK_normal (id : Nat) : blkK id Q .normal s p e = Q .normal s p e := rfl
theorem blkK_ret (id : Nat) : blkK id Q .ret s p e = Q .ret s p e := rfl
theorem blkK_exit (id j : Nat) : blkK id Q (.exit j) s p e = if j = id then Q .normal s p e else Q (.exit j) s p e := rfl
theorem endK_normal (xs : List X) : endK xs .normal s p e = if s = true then p <+: xs else p = xs := rfl
theorem endK_ret (xs : List X) : endK xs .ret s p e = if s = true then p <+: xs else p = xs := rfl
theorem itLoop.intro {b : (SExit -> Bool -> List X -> Env -> Prop) -> Bool -> List X -> Env -> Prop} (I : Nat -> Bool -> List X -> Env -> Prop) (m : Nat) (h0 : I m s p e) (hr : ∀ m s p e, I m s p e -> b (seqK (fun s p e => ∃ m', m' < m /\ I m' s p e) Q) s p e) : itLoop b Q s p e := ⟨I, ⟨m, h0⟩, hr⟩
end
theorem aft_lo {np : Nat} {e : Env} {t : Nat} (h : t < np) : aft np e t = e t := if_pos (.inl h)
theorem aft_hi {np : Nat} {e : Env} {t : Nat} (h : np <= t) (h6 : t < 1000000) : aft np e t = keepS (e t) := if_neg (by omega)
theorem aftX_at (e : Env) (t : Nat) : aftX e t = keepS (e t) := rfl
theorem keepS_int (k : IntKind) (n : Int) : keepS (.int k n) = .int k n := rfl
theorem keepS_bool (b : Bool) : keepS (.bool b) = .bool b := rfl
theorem keepS_str (l : List UInt8) : keepS (.str l) = .str l := rfl
def IT1 := And.intro (@itv_skip) (And.intro (@itv_reg) (And.intro (@itv_seq) (And.intro (@itv_cond) (And.intro (@itv_block) (And.intro (@itv_loop) (And.intro (@itv_exit) (And.intro (@itv_ret) (@itOps_nil))))))))
def IT2 := And.intro (@itOps_op) (And.intro (@itOps_yld) (And.intro (@PS_false) (And.intro (@seqK_normal) (And.intro (@seqK_exit) (And.intro (@seqK_ret) (And.intro (@blkK_normal) (And.intro (@blkK_ret) (@blkK_exit))))))))
def IT3 := And.intro (@endK_normal) (And.intro (@endK_ret) (And.intro (@keepS_int) (And.intro (@keepS_bool) (And.intro (@keepS_str) (@aftX_at)))))
end Go.Sim
end
section
namespace Go.Sim
open Go
section
variable {P : PG} {g : Ghost} {w : World} {h h0 h1 : Q2}
def Ghost.frzs (g : Ghost) (h1 : Q2) : Ghost := { g with fz := fun b => g.fz b \/ ∃ r o, h1 r = some o /\ g.cap r ≠ 0 /\ g.eta r = b }
theorem GS.frzs (H : HRel h g w) (hs : Sub h1 h) : GS g w (g.frzs h1) w where
  nxt := Nat.le_refl _
  eta _ _ := rfl
  bo _ _ := rfl
  cap _ _ := rfl
  sz _ _ := rfl
  fz b hb := .inl hb
  keep _ _ := rfl
  os := rfl
  tape := rfl
  output := rfl
  size := Nat.le_refl _
  own _ _ _ := rfl
  new _ _ ho := ho
  fzn b _ hn hf := by
    rcases hf with hf | ⟨r, o, hr, hc, he⟩
    · exact hf
    · exact absurd ⟨r, (H.obj r o (hs r o hr)).lt, hc, he⟩ hn
  fzc b hf := by
    rcases hf with hf | ⟨r, o, hr, hc, he⟩
    · exact .inl hf
    · refine .inr fun ⟨ob, hob, hcl⟩ => ?_
      obtain ⟨cur, t, f, hw⟩ := H.ow b ⟨r, (H.obj r o (hs r o hr)).lt, hc, he⟩
      rw [hw] at hob
      cases hob
      simp [Obj.isCells] at hcl
theorem HRel.frzs (H : HRel h g w) (h0s : Sub h0 h) (h1s : Sub h1 h) (hd : ∀ r o, h1 r = some o -> h0 r = none) : HRel h0 (g.frzs h1) w := by
  have S := GS.frzs H h1s
  refine ⟨fun r o hr => ?_, fun r r' o o' hr hr' => H.inj r r' o o' (h0s r o hr) (h0s r' o' hr'), fun b hb => ?_, fun b hb => H.ow b hb, H.mob.step S fun _ _ _ ⟨sz, cs, ht⟩ => ⟨sz, cs, h0s _ _ ht⟩⟩
  · have O := H.obj r o (h0s r o hr)
    refine ⟨O.lt, O.sz, O.pos, O.len, O.le, ?_⟩
    by_cases hc0 : g.cap r = 0
    · exact .inl hc0
    rcases O.block with hc | ⟨hlt, hnf, cur, hcur, hsz, hcell⟩
    · exact .inl hc
    · refine .inr ⟨hlt, ?_, cur, hcur, hsz, fun i j e a he ha => ?_⟩
      · rintro (hf | ⟨r', o', hr', hc', he'⟩)
        · exact hnf hf
        · have e := H.inj r' r o' o (h1s r' o' hr') (h0s r o hr) hc' hc0 he'
          subst e
          rw [hd r' o' hr'] at hr
          cases hr
      · obtain ⟨u, hu, h1', h2⟩ := hcell i j e a he ha
        exact ⟨u, hu, h1', h2.step S.toGStep⟩
  · rcases hb with hb | ⟨r, o, hr, hc, he⟩
    · exact H.fz b hb
    · rcases (H.obj r o (h1s r o hr)).block with h0 | ⟨hlt, _⟩
      · exact absurd h0 hc
      · rw [<- he]; exact hlt
theorem Vw.relF (H : HRel h g w) (hs : Sub h1 h) {a b : AVal} (hv : Vw h1 a b) : ∀ {v : Value}, VRel g w v a -> VRel (g.frzs h1) w v b := by
  have S := GS.frzs H hs
  induction hv with
  | refl a => intro v V; exact V.step S.toGStep
  | emp =>
    intro v V
    obtain ⟨A, rfl, _⟩ := V.emp_inv
    exact .slc0 A 0
  | agg as bs hl hh ih =>
    intro v V
    obtain ⟨vs, rfl, hvl, h1, h2⟩ := V.agg_inv
    refine .agg vs bs (hvl.trans hl) h1 fun j u b hu hb => ?_
    have hj : j < as.length := by rw [hl]; exact (List.getElem?_eq_some_iff.1 hb).1
    exact ih j _ b (List.getElem?_eq_getElem hj) hb (h2 j u _ hu (List.getElem?_eq_getElem hj))
  | slc es fs hl hle hh ih =>
    intro v V
    obtain ⟨A, c, rfl, hin⟩ := V.slc_inv
    by_cases hp : 0 < es.length
    · obtain ⟨hc, ad, sz, rfl, hsp, hf, hsz, hcell⟩ := hin hp
      rw [hl]
      refine .slc_mk (sz := sz) (by omega) (fun f hf' => ?_) hsp (.inl hf) fun i j f x hi hx => ?_
      · obtain ⟨i, hi⟩ := List.mem_iff_getElem?.1 hf'
        have hil : i < es.length := by rw [hl]; exact (List.getElem?_eq_some_iff.1 hi).1
        rw [<- hle i _ f (List.getElem?_eq_getElem hil) hi]
        exact hsz _ (List.getElem_mem hil)
      · have hil : i < es.length := by rw [hl]; exact (List.getElem?_eq_some_iff.1 hi).1
        have he := List.getElem?_eq_getElem hil
        have hjl : j < es[i].length := by rw [hle i _ f he hi]; exact (List.getElem?_eq_some_iff.1 hx).1
        obtain ⟨u, hu, h1, h2⟩ := hcell i j _ _ he (List.getElem?_eq_getElem hjl)
        exact ⟨u, hu, h1, ih i j _ f _ x he hi (List.getElem?_eq_getElem hjl) hx h2⟩
    · have h0 : es.length = 0 := by omega
      have hfs : fs = [] := List.eq_nil_of_length_eq_zero (by omega)
      subst hfs
      rw [h0]
      exact .slc0 A c
  | osl r sz i n o fs hr hle hl hll hh ih =>
    intro v V
    obtain ⟨hrl, hsz, hc⟩ := V.osl_inv
    have O := H.obj r o (hs r o hr)
    by_cases hn : n = 0
    · subst hn
      have hfs : fs = [] := List.eq_nil_of_length_eq_zero hl
      subst hfs
      rcases hc with ⟨rfl, _⟩ | ⟨cap, off, rfl, _⟩
      · exact .slc0 _ _
      · exact .slc0 _ _
    · rcases hc with ⟨_, _, h0, _⟩ | ⟨cap, off, rfl, hnc, hm, hi, hoff⟩
      · exact absurd h0 hn
      · have hof := hoff (by omega)
        rcases O.block with h0 | ⟨hlt, _, cur, hcur, _, hcell⟩
        · have := O.le; omega
        · rw [<- hl]
          refine .slc_mk (sz := sz) (by omega) hll rfl (.inr ⟨r, o, hr, by have := O.le; omega, rfl⟩) fun k j f x hk hx => ?_
          have hkn : k < n := by rw [<- hl]; exact (List.getElem?_eq_some_iff.1 hk).1
          have hki : i + k < o.es.length := by omega
          have he := List.getElem?_eq_getElem hki
          have hjl : j < o.es[i + k].length := by
            rw [O.len _ (List.getElem_mem hki), <- O.sz, hsz, <- hll f (List.mem_of_getElem? hk)]
            exact (List.getElem?_eq_some_iff.1 hx).1
          obtain ⟨u, hu, h1, h2⟩ := hcell _ j _ _ he (List.getElem?_eq_getElem hjl)
          refine ⟨u, ?_, h1, ih k j _ f _ x he hk (List.getElem?_eq_getElem hjl) hx h2⟩
          rw [Addr.add_lit, hcur.cell, <- hu, hof, <- O.sz, hsz, Nat.add_mul]
          congr 1; omega
  | ptr r i j o fs hr hi hl hh ih =>
    intro v V
    obtain ⟨hrl, rfl⟩ := V.ptr_inv
    have O := H.obj r o (hs r o hr)
    have hcap : g.cap r ≠ 0 := by have := O.le; omega
    refine VRel.pin_mk rfl (.inr ⟨r, o, hr, hcap, rfl⟩) fun k b hb => ?_
    have hkl : k < ((o.es.getD i []).drop j).length := by
      have := (List.getElem?_eq_some_iff.1 hb).1
      rw [List.length_drop]
      omega
    have hka := List.getElem?_eq_getElem hkl
    obtain ⟨u, hu, h1, h2⟩ := O.cells hi j k _ hka
    exact ⟨u, hu, h1, ih k _ b hka hb h2⟩
  | vp r j b hh ih => intro v V; exact ih V.deVp
inductive VwT (h : Q2) : AVal -> AVal -> Prop
  | one (a b : AVal) (hv : Vw h a b) : VwT h a b
  | tup (as bs : List AVal) (hl : as.length = bs.length) (hh : ∀ (j : Nat) (a b : AVal), as[j]? = some a -> bs[j]? = some b -> Vw h a b) : VwT h (.tup as) (.tup bs)
theorem VwT.relF (H : HRel h g w) (hs : Sub h1 h) {a b : AVal} (hv : VwT h1 a b) {v : Value} (V : VRel g w v a) : VRel (g.frzs h1) w v b := by
  cases hv with
  | one a b hv => exact hv.relF H hs V
  | tup as bs hl hh =>
    obtain ⟨vs, rfl, hvl, h2⟩ := V.tup_inv
    refine .tup vs bs (hvl.trans hl) fun j u b hu hb => ?_
    have hj : j < as.length := by rw [hl]; exact (List.getElem?_eq_some_iff.1 hb).1
    exact (hh j _ b (List.getElem?_eq_getElem hj) hb).relF H hs (h2 j u _ hu (List.getElem?_eq_getElem hj))
theorem DCalls.outV {f : Nat} {args : List AVal} {K0 K : AVal -> Q2 -> Prop} (hd : DCalls P f args h K0)
    (hk : ∀ a h', K0 a h' -> ∃ h0 h1 b, Sub h0 h' /\ Sub h1 h' /\ (∀ r o, h1 r = some o -> h0 r = none) /\ VwT h1 a b /\ K b h0) : DCalls P f args h K := by
  refine ⟨hd.1, fun g w vs H GR V => (hd.2 g w vs H GR V).mono fun e w' ⟨v', a, h', g', he, k0, H', Va, S⟩ => ?_⟩
  obtain ⟨h0, h1, b, s0, s1, hdj, hv, k⟩ := hk a h' k0
  exact ⟨v', b, h0, _, he, k, H'.frzs s0 s1 hdj, hv.relF H' s1 Va, S.trans (GS.frzs H' s1)⟩
def newH (h h' : Q2) : Q2 := fun r => match h r with
  | none => h' r
  | some _ => none
theorem newH_none {h h' : Q2} {r : Nat} (hr : h r = none) : newH h h' r = h' r := by unfold newH; rw [hr]
theorem newH_sub (h h' : Q2) : Sub (newH h h') h' := fun r o hr => by
  unfold newH at hr
  cases hh : h r with
  | none => rw [hh] at hr; exact hr
  | some x => rw [hh] at hr; cases hr
theorem newH_disj (h h' : Q2) : ∀ r o, newH h h' r = some o -> h r = none := fun r o hr => by
  unfold newH at hr
  cases hh : h r with
  | none => rfl
  | some x => rw [hh] at hr; cases hr
theorem PCalls.outV {f : Nat} {args : List AVal} {v : AVal} (hd : ∀ h, DCalls P f args h fun a h' => Sub h h' /\ VwT (newH h h') a v) : PCalls P f args v := fun h =>
  (hd h).outV fun _ h' ⟨S, hv⟩ => ⟨h, newH h h', v, S, newH_sub h h', newH_disj h h', hv, rfl, rfl⟩
theorem VwT.tup' {as bs : List AVal} (hh : F2 (Vw h) as bs) : VwT h (.tup as) (.tup bs) := .tup as bs hh.len hh.get
end
end Go.Sim
end
section
set_option linter.defProp false
namespace Go.Sim
open Go Go.RowKit
inductive MCode : Type
  | skip
  | reg (ops : List IOp)
  | seq (a b : MCode)
  | cond (x : SX) (a b : MCode)
  | block (id : Nat) (c : MCode)
  | loop (c : MCode)
  | exit (id : Nat)
  | ret
  | sub (c : SCode)
def toMOp (P : Program) (ann : Ann) (n : Nat) (ops : Array Oper) (o : Oper) : Option IOp :=
  match yieldOf o with
  | some (t, as) => if dstI 0 n o.dst = true then (TW as).map fun l => .yld o.dst (.t t) l else none
  | none => (YY P ann n ops o).bind fun s => if s.si.isMup = true then none else some (.op s)
def toMOps (P : Program) (ann : Ann) (n : Nat) (ops : Array Oper) : List Oper -> Option (List IOp)
  | [] => some []
  | o :: r => (toMOp P ann n ops o).bind fun s => (toMOps P ann n ops r).map (s :: ·)
def toM (P : Program) (ann : Ann) (n : Nat) : Code -> Option MCode
  | .skip => some .skip
  | .region _ ops false => (toMOps P ann n ops ops.toList).map .reg
  | .seq a b => (toM P ann n a).bind fun x => (toM P ann n b).map (.seq x)
  | .cond c a b => (Z1 c).bind fun c => (toM P ann n a).bind fun x => (toM P ann n b).map (.cond c x)
  | .block id c => (toM P ann n c).map (.block id)
  | .loop c => (toM P ann n c).map .loop
  | .exit id => some (.exit id)
  | .ret => some .ret
  | .rangeFunc f ps asg body => (toS P ann n (.rangeFunc f ps asg body)).map .sub
  | _ => none
def toMF (P : Program) (ann : Ann) (fn : Func) : Option MCode := if fn.results = #[] /\ ann.mp = [] then fn.body.bind (toM P ann fn.ntmps) else none
def yldK (N : Option SExit -> AVal -> Q2 -> Prop) : SExit -> Q2 -> Prop
  | .normal, h => N none (.bool true) h
  | .goto _, _ => False
  | ex, h => N (some ex) (.bool false) h
def TY (P : PG) (yv : AVal) (B : Bdy) : List IOp -> Option SExit -> Env -> Q2 -> (Option SExit -> Env -> Q2 -> Prop) -> Prop
  | [], s, e, h, K => K s e h
  | .op o :: r, s, e, h, K => vcOp P o e h fun e' h' => TY P yv B r s e' h' K
  | .yld d f as :: r, s, e, h, K => s = none /\ ev e f = yv /\ B (as.map (ev e)) h (yldK fun s' v h' => TY P yv B r s' (K9 e d v) h' K)
abbrev MQ := SExit -> Option SExit -> Env -> Q2 -> Prop
def seqM (N : Option SExit -> Env -> Q2 -> Prop) (Q : MQ) : MQ
  | .normal, s, e, h => N s e h
  | x, s, e, h => Q x s e h
def blkM (id : Nat) (Q : MQ) : MQ
  | .exit j, s, e, h => if j = id then Q .normal s e h else Q (.exit j) s e h
  | x, s, e, h => Q x s e h
def mtLoop (body : MQ -> Option SExit -> Env -> Q2 -> Prop) (Q : MQ) (s : Option SExit) (e : Env) (h : Q2) : Prop :=
  ∃ I : Nat -> Option SExit -> Env -> Q2 -> Prop, (∃ m, I m s e h) /\ ∀ m s e h, I m s e h -> body (seqM (fun s e h => ∃ m', m' < m /\ I m' s e h) Q) s e h
def mtv (P : PG) (yv : AVal) (B : Bdy) : MCode -> MQ -> Option SExit -> Env -> Q2 -> Prop
  | .skip, Q, s, e, h => Q .normal s e h
  | .reg ops, Q, s, e, h => TY P yv B ops s e h (Q .normal)
  | .seq a b, Q, s, e, h => mtv P yv B a (seqM (mtv P yv B b Q) Q) s e h
  | .cond x a b, Q, s, e, h => condOn (ev e x) (mtv P yv B a Q s e h) (mtv P yv B b Q s e h)
  | .block id c, Q, s, e, h => mtv P yv B c (blkM id Q) s e h
  | .loop c, Q, s, e, h => mtLoop (mtv P yv B c) Q s e h
  | .exit id, Q, s, e, h => Q (.exit id) s e h
  | .ret, Q, s, e, h => Q .ret s e h
  | .sub c, Q, s, e, h => vc P c (fun x e' h' => Q x s e' h') e h
def endM (Q : Option SExit -> Q2 -> Prop) : MQ
  | .exit _, _, _, _ => False
  | .goto _, _, _, _ => False
  | _, s, _, h => Q s h
theorem YieldAt.any {n k : Nat} {P : Program} {l : Nat} {args : Array Value} {W : World} {R : Ending -> World -> Prop} (h : YieldAt (FR none) n P l args W R) : YieldAt (FR none) k P l args W R := by
  obtain ⟨fn, tm, asg, body, h1, h2⟩ := h
  exact ⟨fn, tm, asg, body, h1, h2.1, fun c cs _ => h2.2 c cs (FR_room _ _)⟩
def CR (n m : Nat) (Z : Inv) (s : Option SExit) (e : Env) (h : Q2) (a : Act) (W : World) : Prop :=
  ∃ g, Z s h g W /\ ERel n e g W a /\ ∀ d ∈ a.defers, ∀ D, d.target = .collected D -> m <= D
section
variable {P : PG} {ann : Ann} {n l m : Nat} {B : Bdy} {Z : Inv}
theorem CR.st (hmp : ann.mp = []) (hZ : InvOK P l m Z) {s : Option SExit} {e : Env} {h : Q2} {g : Ghost} {a : Act} {W : World} (z : Z s h g W) (E : ERel n e g W a) (M : ∀ d ∈ a.defers, ∀ D, d.target = .collected D -> m <= D) : St ann.mp n (g.cut m) (wcut W m) e h g a W :=
  ⟨E, hZ.H z, (GS.cut (hZ.sz z) (hZ.fz z)).h, fun _ d hd D hD => by rw [ZW (hZ.sz z)]; exact M d hd D hD, by rw [hmp]; exact MO.nil⟩
theorem CR.back (hmp : ann.mp = []) (hZ : InvOK P l m Z) {s : Option SExit} {e' : Env} {h h' : Q2} {g g' : Ghost} {a' : Act} {W W' : World} (z : Z s h g W) (T : St ann.mp n (g.cut m) (wcut W m) e' h' g' a' W') : CR n m Z s e' h' a' W' :=
  ⟨g', hZ.step z T.H (T.S.toGS fun _ h => h), T.E, fun d hd D hD => by have := T.M (by rw [hmp]; rfl) d hd D hD; rwa [ZW (hZ.sz z)] at this⟩
theorem VY (hmp : ann.mp = []) (hZ : InvOK P l m Z)
    (hY : ∀ h g W args vals K, Z none h g W -> VRelL g W vals args -> B args h K -> YieldAt (FR none) 0 P.p l vals W (YPost m Z K g W))
    {ops : Array Oper} {K : Option SExit -> Env -> Q2 -> Prop} {Q : Exit -> Act -> World -> Prop} (hL : ¬ LetsOut Q) (hQ : ∀ s e h a W, K s e h -> CR n m Z s e h a W -> Q .normal a W) :
    ∀ (os : List Oper) (il : List IOp) (s : Option SExit) (e : Env) (h : Q2) (a : Act) (W : World), toMOps P.p ann n ops os = some il -> TY P (.prim (.func (.yield l) #[] #[])) B il s e h K -> CR n m Z s e h a W -> wpListIn (FR none) 2 P.p ops Q os a W
  | [], il, s, e, h, a, W, ht, hk, R => by
    simp [toMOps] at ht; subst ht
    exact hQ s e h a W hk R
  | o :: r, il, s, e, h, a, W, ht, hk, R => by
    simp only [toMOps, Option.bind_eq_some_iff, Option.map_eq_some_iff] at ht
    obtain ⟨io, hio, ir, hir, rfl⟩ := ht
    obtain ⟨g, z, E, M⟩ := R
    unfold toMOp at hio
    split at hio
    · rename_i t as hyo
      split at hio
      case isFalse => cases hio
      rename_i hdst
      have hdst := dstI_out hdst
      rw [Option.map_eq_some_iff] at hio
      obtain ⟨sl, hsl, rfl⟩ := hio
      obtain ⟨rfl, hf, hb⟩ := hk
      unfold yieldOf at hyo
      split at hyo
      case h_2 => cases hyo
      rename_i c ho hg
      split at hyo
      case h_2 => cases hyo
      rename_i t' hc
      split at hyo
      case isFalse => cases hyo
      rename_i h6
      cases hyo
      have hw : Region.wanted o (yielded ops a.tmps) = true := by simp [Region.wanted, hg]
      unfold wpListIn
      rw [if_pos hw]
      have hfv : a.eval (.tmp t) = .func (.yield l) #[] #[] := by
        have h1 := Q6 E (x := .tmp t) (sx := .t t) (by simp [Z1, h6])
        rw [show ev e (.t t) = _ from hf] at h1
        exact h1.prim_inv'
      have hargs := evs_rel E hsl
      have hyy := YieldAt.any (k := 1) (hY h g W _ _ _ z hargs hb)
      have next : ∀ {s' h' g' W'}, Z s' h' g' W' -> GStep g W g' W' -> (∀ b o, m <= b -> W.heap[b]? = some o -> o.isCells = false -> W'.heap[b]? = some o) -> (∀ b, g'.fz b -> g.fz b \/ ¬ K5 W' b) -> (∀ b, b < W.heap.size -> Own g' b -> Own g b) -> ∀ t, CR n m Z s' (K9 e o.dst (.bool t)) h' (a.put o.dst (.bool t)) W' := by
        intro s' h' g' W' z' S hn hfz hon t
        refine ⟨g', z', ERel.put ⟨⟨fun d hd => ?_, E.defers.two⟩, E.size, E.bnd, fun t h6 => (E.slot t h6).step S, fun b => (E.glo b).step S⟩ (fun d hd => (hdst d hd).2) (.bool t), fun d hd => ?_⟩
        · obtain ⟨D, e1, e2, e3, e4⟩ := E.defers.one d hd
          have hD := M d hd D (by rw [e1])
          have h2 := hn D _ hD e2 rfl
          refine ⟨D, e1, h2, fun ho => e3 (hon D (Array.getElem?_eq_some_iff.1 e2).1 ho), fun hf => ?_⟩
          rcases hfz D hf with h3 | h3
          · exact e4 h3
          · exact h3 ⟨_, h2, rfl⟩
        · rw [UK] at hd; exact M d hd
      refine yield_op (l := l) (m := 1) (A := fun W' => ∃ h' g', Z none h' g' W' /\ GStep g W g' W' /\ (∀ b o, m <= b -> W.heap[b]? = some o -> o.isCells = false -> W'.heap[b]? = some o) /\ (∀ b, g'.fz b -> g.fz b \/ ¬ K5 W' b) /\ (∀ b, b < W.heap.size -> Own g' b -> Own g b) /\ TY P (.prim (.func (.yield l) #[] #[])) B ir none (K9 e o.dst (.bool true)) h' K)
        (B := fun W' => ∃ ex h' g', Z (some ex) h' g' W' /\ GStep g W g' W' /\ (∀ b o, m <= b -> W.heap[b]? = some o -> o.isCells = false -> W'.heap[b]? = some o) /\ (∀ b, g'.fz b -> g.fz b \/ ¬ K5 W' b) /\ (∀ b, b < W.heap.size -> Own g' b -> Own g b) /\ TY P (.prim (.func (.yield l) #[] #[])) B ir (some ex) (K9 e o.dst (.bool false)) h' K) ho hc hfv ?_ ?_ ?_
      · obtain ⟨fn, tm, asg, body, h1, h2⟩ := hyy
        refine ⟨fn, tm, asg, body, h1, h2.mono fun e' W' ⟨s', h', g', z', S, hn, hfz, hon, hh⟩ => ?_⟩
        rcases hh with ⟨rfl, rfl, hk⟩ | ⟨rfl, ex, rfl, hk, hne⟩
        · exact .inl ⟨rfl, h', g', z', S, hn, hfz, hon, hk⟩
        · refine .inr ⟨rfl, ex, h', g', z', S, hn, hfz, hon, ?_⟩
          cases ex with
          | normal => exact absurd rfl hne
          | goto j => exact hk.elim
          | exit j => exact hk
          | ret => exact hk
      · rintro W' ⟨h', g', z', S, hn, hfz, hon, hk⟩
        exact VY hmp hZ hY hL hQ r ir _ _ _ _ W' hir hk (next z' S hn hfz hon true)
      · rintro W' ⟨ex, h', g', z', S, hn, hfz, hon, hk⟩
        exact VY hmp hZ hY hL hQ r ir _ _ _ _ W' hir hk (next z' S hn hfz hon false)
    · rw [Option.bind_eq_some_iff] at hio
      obtain ⟨so, hso, hio⟩ := hio
      split at hio
      · cases hio
      cases hio
      have hndef : ∀ c, o.op ≠ .defer c := by
        unfold YY at hso
        rw [Option.bind_eq_some_iff] at hso
        obtain ⟨si, hsi, _⟩ := hso
        exact toSI_defer hsi
      have hk : vcOp P so e h fun e' h' => TY P _ B ir s e' h' K := hk
      have key := vcOp_sound (Q := Q) hso hk (hZ.G z) (CR.st hmp hZ z E M) (next := fun a' w' => wpListIn (FR none) 2 P.p ops Q r a' w') fun a' w' ⟨e', h', g', k', T'⟩ =>
        VY hmp hZ hY hL hQ r ir s e' h' a' w' hir k' (CR.back hmp hZ z T')
      unfold wpListIn
      split at key
      · rename_i hw
        rw [if_pos hw]
        exact op_in hndef (key.resolve_right fun h => hL h.2)
      · rename_i hw
        rw [if_neg hw]
        exact ⟨fun _ _ => trivial, key⟩
def CQ (n m : Nat) (Z : Inv) (Q : MQ) (x : Exit) (a : Act) (W : World) : Prop := ∃ x' s e h, x = exitOf x' /\ Q x' s e h /\ CR n m Z s e h a W
theorem CQ.in {Q : MQ} : ¬ LetsOut (CQ n m Z Q) := by
  rintro ⟨a, w, x', s, e, h, hx, _⟩
  cases x' <;> cases hx
theorem mtv_sound (hmp : ann.mp = []) (hZ : InvOK P l m Z)
    (hY : ∀ h g W args vals K, Z none h g W -> VRelL g W vals args -> B args h K -> YieldAt (FR none) 0 P.p l vals W (YPost m Z K g W)) :
    ∀ (c : Code) (ic : MCode), toM P.p ann n c = some ic -> ∀ (Q : MQ) (s : Option SExit) (e : Env) (h : Q2) (a : Act) (W : World), mtv P (.prim (.func (.yield l) #[] #[])) B ic Q s e h -> CR n m Z s e h a W -> c.wpIn (FR none) 2 P.p (CQ n m Z Q) a W := by
  intro c
  induction c with
  | skip =>
    intro ic ht Q s e h a W hk R
    simp [toM] at ht; subst ht
    exact wpIn_skip ⟨.normal, s, e, h, rfl, hk, R⟩
  | region id ops draws =>
    intro ic ht Q s e h a W hk R
    cases draws with
    | true => simp [toM] at ht
    | false =>
      simp only [toM, Option.map_eq_some_iff] at ht
      obtain ⟨il, hil, rfl⟩ := ht
      exact wpIn_region_list (VY hmp hZ hY CQ.in (K := Q .normal) (fun s e h a W hk R => ⟨.normal, s, e, h, rfl, hk, R⟩) _ _ s e h a W hil hk R)
  | seq x y ihx ihy =>
    intro ic ht Q s e h a W hk R
    simp only [toM, Option.bind_eq_some_iff, Option.map_eq_some_iff] at ht
    obtain ⟨ix, hix, iy, hiy, rfl⟩ := ht
    refine wpIn_seq (wpIn_mono (ihx ix hix _ s e h a W hk R) ?_)
    rintro _ a' W' ⟨x', s', e', h', rfl, hq, R'⟩
    cases x' with
    | normal => exact ihy iy hiy Q s' e' h' a' W' hq R'
    | exit id => exact ⟨.exit id, s', e', h', rfl, hq, R'⟩
    | ret => exact ⟨.ret, s', e', h', rfl, hq, R'⟩
    | goto j => exact ⟨.goto j, s', e', h', rfl, hq, R'⟩
  | cond c x y ihx ihy =>
    intro ic ht Q s e h a W hk R
    simp only [toM, Option.bind_eq_some_iff, Option.map_eq_some_iff] at ht
    obtain ⟨sc, hsc, ix, hix, iy, hiy, rfl⟩ := ht
    obtain ⟨g, z, E, M⟩ := R
    have hv := Q6 E hsc
    have hk : condOn (ev e sc) (mtv P _ B ix Q s e h) (mtv P _ B iy Q s e h) := hk
    revert hk hv
    cases ev e sc <;> intro hv hk <;> try exact hk.elim
    rename_i t
    exact wpIn_cond_split hv.bool_inv (fun ht => ihx ix hix Q s e h a W (hk.1 ht) ⟨g, z, E, M⟩) (fun ht => ihy iy hiy Q s e h a W (hk.2 ht) ⟨g, z, E, M⟩)
  | block id c ih =>
    intro ic ht Q s e h a W hk R
    simp only [toM, Option.map_eq_some_iff] at ht
    obtain ⟨i, hi, rfl⟩ := ht
    refine wpIn_block (wpIn_mono (ih i hi (blkM id Q) s e h a W hk R) ?_)
    rintro _ a' W' ⟨x', s', e', h', rfl, hq, R'⟩
    cases x' with
    | normal => exact ⟨.normal, s', e', h', rfl, hq, R'⟩
    | ret => exact ⟨.ret, s', e', h', rfl, hq, R'⟩
    | goto j => exact ⟨.goto j, s', e', h', rfl, hq, R'⟩
    | exit j =>
      simp only [blkM] at hq
      simp only [exitOf, Exit.inBlock]
      split at hq
      · rename_i hj; rw [if_pos hj]; exact ⟨.normal, s', e', h', rfl, hq, R'⟩
      · rename_i hj; rw [if_neg hj]; exact ⟨.exit j, s', e', h', rfl, hq, R'⟩
  | loop c ih =>
    intro ic ht Q s e h a W hk R
    simp only [toM, Option.map_eq_some_iff] at ht
    obtain ⟨i, hi, rfl⟩ := ht
    obtain ⟨I, ⟨m0, h0⟩, hround⟩ := hk
    intro b k cs hro' hb hr
    have key : ∀ q s e h a W, I q s e h -> CR n m Z s e h a W -> ∃ x a' W', CQ n m Z Q x a' W' /\ ArrivesIn (Machine.fenced P.p (FR none)) P.p (lone (b.atR a (.code c :: .inLoop c :: k)) cs W) b k cs x a' W' := by
      intro q
      induction q using Nat.strongRecOn with
      | _ q ihm =>
        intro s e h a W hI R
        obtain ⟨x, a₁, w₁, hq, harr⟩ := ih i hi _ s e h a W (hround q s e h hI) R b (.inLoop c :: k) cs hro' hb hr
        obtain ⟨x', s', e', h', rfl, hq, R'⟩ := hq
        cases x' with
        | normal =>
          obtain ⟨m', hlt, hI'⟩ := hq
          obtain ⟨x2, a₂, w₂, hq₂, harr₂⟩ := ihm m' hlt s' e' h' a₁ w₁ hI' R'
          exact ⟨x2, a₂, w₂, hq₂, .of_steps (StepsIn.trans harr (.one (fenced_calm hb hr rfl) stepR_inLoop)) harr₂⟩
        | exit id => exact ⟨.exit id, a₁, w₁, ⟨.exit id, s', e', h', rfl, hq, R'⟩, .pass (x := .inLoop c) rfl (fun _ _ => .inl (by simp)) harr⟩
        | ret => exact ⟨.ret, a₁, w₁, ⟨.ret, s', e', h', rfl, hq, R'⟩, .pass (x := .inLoop c) rfl (fun _ _ => .inl (by simp)) harr⟩
        | goto j => exact ⟨.goto j, a₁, w₁, ⟨.goto j, s', e', h', rfl, hq, R'⟩, .pass (x := .inLoop c) rfl (fun _ _ => .inl (by simp)) harr⟩
    obtain ⟨x, a', W', hq, harr⟩ := key m0 s e h a W h0 R
    exact ⟨x, a', W', hq, .of_steps (.one (fenced_calm hb hr rfl) stepR_loop) harr⟩
  | exit id =>
    intro ic ht Q s e h a W hk R
    simp [toM] at ht; subst ht
    exact wpIn_exit ⟨.exit id, s, e, h, rfl, hk, R⟩
  | ret =>
    intro ic ht Q s e h a W hk R
    simp [toM] at ht; subst ht
    exact wpIn_ret ⟨.ret, s, e, h, rfl, hk, R⟩
  | rangeFunc f ps asg body _ ihb =>
    intro ic ht Q s e h a W hk R
    simp only [toM, Option.map_eq_some_iff] at ht
    obtain ⟨sc, hsc, rfl⟩ := ht
    obtain ⟨g, z, E, M⟩ := R
    refine wpIn_mono (vc_sound _ ann sc hsc none 2 (.inl ⟨rfl, rfl⟩) (g.cut m) (wcut W m) (hZ.G z) _ e h g a W hk (CR.st hmp hZ z E M)) ?_
    rintro _ a' W' ⟨x', rfl, e', h', g', hq, T⟩
    exact ⟨x', s, e', h', rfl, hq, CR.back hmp hZ z T⟩
  | scope => intro ic ht; simp [toM] at ht
  | label => intro ic ht; simp [toM] at ht
  | goto => intro ic ht; simp [toM] at ht
  | refuse => intro ic ht; simp [toM] at ht
theorem iterS_of_mtv {k : Nat} {fn : Func} {ic : MCode} {cap : List AVal} (hf : P.p.funcs[k]? = some fn) (hname : (fn.name == "runtime.NumGoroutine") = false)
    (ht : toMF P.p ann fn = some ic) (hn : cap.length + 1 <= fn.ntmps) (hN : fn.ntmps <= 1000000) :
    IterS P k cap fun B h Q => ∀ l, mtv P (.prim (.func (.yield l) #[] #[])) B ic (endM Q) none (QK P.gl (.prim (.func (.yield l) #[] #[]) :: cap)) h := by
  unfold toMF at ht
  split at ht
  case isFalse => cases ht
  rename_i hres
  obtain ⟨hres, hmp⟩ := hres
  rw [Option.bind_eq_some_iff] at ht
  obtain ⟨c, hc, hic⟩ := ht
  refine ⟨⟨fn, hf, hname, by simp [hc]⟩, fun l m B Z hlm hZ hY h g W cs Q z V hk => ?_⟩
  have hGR : GRel P.gl g W := (hZ.G z).step (GS.cut (hZ.sz z) (hZ.fz z)).toGStep
  have V' : VRelL g W (#[Value.func (.yield l) #[] #[]] ++ cs) (.prim (.func (.yield l) #[] #[]) :: cap) := by
    refine ⟨by simp [V.1, Nat.add_comm], fun j u y hu hy => ?_⟩
    cases j with
    | zero =>
      rw [Array.getElem?_append_left (by simp)] at hu
      simp at hu hy
      subst hu hy; exact .prim _
    | succ j =>
      rw [Array.getElem?_append_right (by simp)] at hu
      exact V.2 j u y (by simpa using hu) (by simpa using hy)
  refine calls_in (ro := none) (in_calls (ro := none) (n := 2) (callsIn_of_wp_marks hf hc trivial (wpIn_mono (mtv_sound hmp hZ hY c ic hic (endM Q) none _ h _ W (hk l) ⟨g, z, ⟨DOK.nil _ _, ?_, hN, fun t h6 => ?_, fun b => ?_⟩, fun d hd => by cases hd⟩) ?_) rfl))
  · simp only [Array.size_append, Array.size_replicate]
    have h1 := V'.1
    simp only [Array.size_append, List.length_cons] at h1
    omega
  · generalize #[Value.func (.yield l) #[] #[]] ++ cs = vs at V'
    generalize AVal.prim (.func (.yield l) #[] #[]) :: cap = args at V'
    simp only [QK, if_pos h6]
    by_cases ht : t < vs.size
    · have h1 : (vs ++ Array.replicate (fn.ntmps - vs.size) undef).getD t undef = vs[t] := by
        simp only [Array.getD_eq_getD_getElem?, Array.getElem?_append_left ht, Array.getElem?_eq_getElem ht, Option.getD_some]
      rw [h1]
      exact V'.2 t _ _ (Array.getElem?_eq_getElem ht) (K3 args t .dead (by rw [<- V'.1]; exact ht))
    · have h1 : args.getD t .dead = .dead := by
        rw [List.getD_eq_getElem?_getD, List.getElem?_eq_none (by rw [<- V'.1]; omega)]
        rfl
      rw [h1]
      exact .dead _
  · rw [QK, if_neg (by omega), Nat.add_sub_cancel_left]; exact (hGR b).2
  · rintro x a' W' ⟨x', s', e', h', rfl, hq, g', z', E', M'⟩
    have fin : Q s' h' -> LeavesInM (FR none) 2 P.p fn a'.tmps (fun e w' => (∃ v, e = .returned v) /\ ∃ s' h' g', Q s' h' /\ Z s' h' g' w') a'.defers .returning W' := fun hQ => by
      refine leave_marks (P := P) (n := fn.ntmps) (g0 := g'.cut m) (w0 := wcut W' m) (e := e') (h := h') (g := g') a' rfl W' E' (hZ.H z') (GS.cut (hZ.sz z') (hZ.fz z')).h (fun _ d hd D hD => by rw [ZW (hZ.sz z')]; exact M' d hd D hD) fun a1 w1 ht E1 H1 S1 => ?_
      exact ⟨_, results_none hres _ _ _, ⟨_, rfl⟩, s', h', g', hQ, hZ.step z' H1 (S1.toGS fun _ h => h)⟩
    cases x' with
    | normal => exact fin hq
    | ret => exact fin hq
    | exit id => exact hq.elim
    | goto j => exact hq.elim
end
section
variable {P : PG} {yv : AVal} {B : Bdy} {Q M : MQ} {s : Option SExit} {e : Env} {h : Q2} {K : Option SExit -> Env -> Q2 -> Prop}
theorem mtv_skip : mtv P yv B .skip Q s e h = Q .normal s e h := rfl
theorem mtv_reg (ops : List IOp) : mtv P yv B (.reg ops) Q s e h = TY P yv B ops s e h (Q .normal) := rfl
theorem mtv_seq (a b : MCode) : mtv P yv B (.seq a b) Q s e h = mtv P yv B a (seqM (mtv P yv B b Q) Q) s e h := rfl
theorem mtv_cond (x : SX) (a b : MCode) : mtv P yv B (.cond x a b) Q s e h = condW (ev e x) (mtv P yv B a Q s e h) (mtv P yv B b Q s e h) .mk := rfl
theorem mtv_block (id : Nat) (c : MCode) : mtv P yv B (.block id c) Q s e h = mtv P yv B c (blkM id Q) s e h := rfl
theorem mtv_loop (c : MCode) : mtv P yv B (.loop c) Q s e h = mtLoop (mtv P yv B c) Q s e h := rfl
theorem mtv_exit (id : Nat) : mtv P yv B (.exit id) Q s e h = Q (.exit id) s e h := rfl
theorem mtv_ret : mtv P yv B .ret Q s e h = Q .ret s e h := rfl
theorem mtv_sub (c : SCode) : mtv P yv B (.sub c) Q s e h = vc P c (fun x e' h' => Q x s e' h') e h := rfl
theorem mtOps_nil : TY P yv B [] s e h K = K s e h := rfl
theorem mtOps_op (o : SOp) (r : List IOp) : TY P yv B (.op o :: r) s e h K = Hd (vcV P o e h) (fun v h' => TY P yv B r s (K9 e o.dst v) h' K) .mk := rfl
theorem mtOps_yld (d : Option Nat) (f : SX) (as : List SX) (r : List IOp) : TY P yv B (.yld d f as :: r) s e h K = (s = none /\ ev e f = yv /\ B (as.map (ev e)) h (yldK fun s' v h' => TY P yv B r s' (K9 e d v) h' K)) := rfl
theorem seqM_normal (N : Option SExit -> Env -> Q2 -> Prop) : seqM N Q .normal s e h = N s e h := rfl
theorem seqM_exit (N : Option SExit -> Env -> Q2 -> Prop) (id : Nat) : seqM N Q (.exit id) s e h = Q (.exit id) s e h := rfl
theorem seqM_ret (N : Option SExit -> Env -> Q2 -> Prop) : seqM N Q .ret s e h = Q .ret s e h := rfl
theorem blkM_normal (id : Nat) : blkM id Q .normal s e h = Q .normal s e h := rfl
theorem blkM_ret (id : Nat) : blkM id Q .ret s e h = Q .ret s e h := rfl
theorem blkM_exit (id j : Nat) : blkM id Q (.exit j) s e h = if j = id then Q .normal s e h else Q (.exit j) s e h := rfl
variable {N : Option SExit -> AVal -> Q2 -> Prop} {R : Option SExit -> Q2 -> Prop} {R' : SExit -> Q2 -> Prop} {S : SExit -> Env -> Q2 -> Prop}
theorem yldK_normal : yldK N .normal h = N none (.bool true) h := rfl
theorem yldK_exit (id : Nat) : yldK N (.exit id) h = N (some (.exit id)) (.bool false) h := rfl
theorem yldK_ret : yldK N .ret h = N (some .ret) (.bool false) h := rfl
theorem endM_normal : endM R .normal s e h = R s h := rfl
theorem endM_ret : endM R .ret s e h = R s h := rfl
theorem ngK_normal : ngK R' .normal e h = R' .normal h := rfl
theorem ngK_exit (id : Nat) : ngK R' (.exit id) e h = R' (.exit id) h := rfl
theorem ngK_ret : ngK R' .ret e h = R' .ret h := rfl
theorem doneK_none : doneK S e none h = S .normal e h := rfl
theorem doneK_some (x : SExit) : doneK S e (some x) h = S x e h := rfl
theorem bdy_is (ps : List Nat) (va vb : (SExit -> Env -> Q2 -> Prop) -> Env -> Q2 -> Prop) (args : List AVal) : bdy ps va vb e args h R' = (args.length = ps.length /\ va (UU (vb (ngK R')) fun _ _ _ => False) (setPs e ps args) h) := rfl
theorem mtLoop.intro {b : MQ -> Option SExit -> Env -> Q2 -> Prop} (I : Nat -> Option SExit -> Env -> Q2 -> Prop) (m : Nat) (h0 : I m s e h) (hr : ∀ m s e h, I m s e h -> b (seqM (fun s e h => ∃ m', m' < m /\ I m' s e h) Q) s e h) : mtLoop b Q s e h := ⟨I, ⟨m, h0⟩, hr⟩
end
def MT1 := And.intro (@mtv_skip) (And.intro (@mtv_reg) (And.intro (@mtv_seq) (And.intro (@mtv_cond) (And.intro (@mtv_block) (And.intro (@mtv_loop) (And.intro (@mtv_exit) (And.intro (@mtv_ret) (And.intro (@mtv_sub) (@mtOps_nil)))))))))
def MT2 := And.intro (@mtOps_op) (And.intro (@mtOps_yld) (And.intro (@seqM_normal) (And.intro (@seqM_exit) (And.intro (@seqM_ret) (And.intro (@blkM_normal) (And.intro (@blkM_ret) (@blkM_exit)))))))
def MT3 := And.intro (@yldK_normal) (And.intro (@yldK_exit) (And.intro (@yldK_ret) (And.intro (@endM_normal) (And.intro (@endM_ret) (And.intro (@ngK_normal) (And.intro (@ngK_exit) (And.intro (@ngK_ret) (And.intro (@doneK_none) (@doneK_some)))))))))
end Go.Sim
end
