/- Texts of this claim, one behind the other. -/
import Derived.Test.YtcfjnldjkaglbaaGreatDoorM2
import Derived.ChangeArms
import Derived.RowKit3
import Derived.ReadAgain
import Derived.OpenShut
import Derived.JoinedCond
import Derived.Shelf.Vars
set_option maxHeartbeats 4000000
set_option maxRecDepth 100000
section
namespace Go.Sim
open Go
section
variable {P:PG} {e:Env} {h:Q2} {K:AVal->Q2->Prop}
def pcallE (P:PG) (f:Nat) (args:List AVal) (K:AVal->Prop):Prop:=∃ v,PCalls P f args v/\K v
inductive Wit {α:Sort _} (a:α):Type
 | mk:Wit a
inductive Wit2 (A B:Prop):Type
 | mk:Wit2 A B
def Hd {κ:Type} (F:(κ->Prop)) (K:κ) (_:Wit K):Prop:=F K
def condW (v:AVal) (A B:Prop) (_:Wit2 A B):Prop:=condOn v A B
def gateX (v:AVal) (b:Bool) (A B:Prop) (_:Wit2 A B):Prop:=
 match want v b with
 | some t=>if t=true then A else B
 | none=>False
theorem gateX_bool (t b:Bool) (A B:Prop) (w:Wit2 A B):gateX (.bool t) b A B w=if t=b then A else B:=by
 simp [gateX,want]
theorem gateX_tup (as:List AVal) (b:Bool) (A B:Prop) (w:Wit2 A B):gateX (.tup as) b A B w=B:=by
 simp [gateX,want]
variable {w:Wit K}
theorem vcI_mv (x:SX):Hd (vcI P (.mv x) e h) K w=(K (ev e x) h):=by simp [Hd,vcI,fok,fop]
theorem vcI_pick (c a b:SX):Hd (vcI P (.pick c a b) e h) K w=((okPick (ev e c)/\K (aPick (ev e c) (ev e a) (ev e b)) h)):=rfl
theorem vcI_bin (op:BinOp) (x y:SX):Hd (vcI P (.bin op x y) e h) K w=((JJ op (ev e x) (ev e y)/\K (VZ op (ev e x) (ev e y)) h)):=rfl
theorem vcI_eqs (n:Bool) (ks:List Nat) (x y:SX):Hd (vcI P (.eqs n ks x y) e h) K w=((okEqs ks (ev e x) (ev e y)/\K (aEqs n (ev e x) (ev e y)) h)):=rfl
theorem vcI_eqb (n:Bool) (x y:SX):Hd (vcI P (.eqb n x y) e h) K w=((okEqb (ev e x) (ev e y)/\K (aEqb n (ev e x) (ev e y)) h)):=rfl
theorem vcI_un (op:UnOp) (x:SX):Hd (vcI P (.un op x) e h) K w=((okUn op (ev e x)/\K (aUn op (ev e x)) h)):=rfl
theorem vcI_r2s (x:SX):Hd (vcI P (.r2s x) e h) K w=((okCvi (ev e x)/\K (aR2s (ev e x)) h)):=rfl
theorem aR2s_int (k:IntKind) (r:Int):aR2s (.int k r)=.str (Utf8.encode r).data.toList:=rfl
theorem vcI_cvi (k:IntKind) (x:SX):Hd (vcI P (.cvi k x) e h) K w=((okCvi (ev e x)/\K (aCvi k (ev e x)) h)):=rfl
theorem vcI_idc (x:SX):Hd (vcI P (.idc x) e h) K w=(((∃ l,ev e x=.str l)/\K (ev e x) h)):=rfl
theorem vcI_fld (o s:Nat) (b:Bool) (x:SX):Hd (vcI P (.fld o s b x) e h) K w=((okFld o s b (ev e x)/\K (aFld o s b (ev e x)) h)):=rfl
theorem vcI_fldA (o:Nat) (x:SX):Hd (vcI P (.fldA o x) e h) K w=((okFldA (ev e x)/\K (aFldA o (ev e x)) h)):=rfl
theorem vcI_idxG (s:Nat) (x i:SX):Hd (vcI P (.idxG s x i) e h) K w=((okIdxG s (ev e x) (ev e i)/\K (aIdxG (ev e x) (ev e i)) h)):=rfl
theorem vcI_idxA (s:Nat) (x i:SX):Hd (vcI P (.idxA s x i) e h) K w=((okIdxA s (ev e x) (ev e i)/\K (aIdxA (ev e x) (ev e i)) h)):=rfl
theorem vcI_idxS (x i:SX):Hd (vcI P (.idxS x i) e h) K w=((okIdxS (ev e x) (ev e i)/\K (aIdxS (ev e x) (ev e i)) h)):=rfl
theorem vcI_ldm (t s:Nat) (b:Bool) (x:SX):Hd (vcI P (.ldm t s b x) e h) K w=(((okLd h s b (ev e x)/\aLd h s b (ev e x)=e t)/\K (aLd h s b (ev e x)) h)):=rfl
theorem vcI_ld (s:Nat) (b:Bool) (x:SX):Hd (vcI P (.ld s b x) e h) K w=((okLd h s b (ev e x)/\K (aLd h s b (ev e x)) h)):=rfl
theorem vcI_slS (x:SX) (lo hi:Option SX):Hd (vcI P (.slS x lo hi) e h) K w=((okSlS (ev e x) (evO e lo) (evO e hi)/\K (aSlS (ev e x) (evO e lo) (evO e hi)) h)):=rfl
theorem vcI_slA (s:Nat) (x:SX) (lo hi:Option SX):Hd (vcI P (.slA s x lo hi) e h) K w=((okSlA s (ev e x) (evO e lo) (evO e hi)/\K (aSlA (ev e x) (evO e lo) (evO e hi)) h)):=rfl
theorem vcI_slM (s:Nat) (x:SX) (lo hi mx:Option SX):Hd (vcI P (.slM s x lo hi mx) e h) K w=((okSlM (ev e x) (evO e lo) (evO e hi) (evO e mx)/\K .dead h)):=rfl
theorem vcI_ext (x:SX) (i:Nat):Hd (vcI P (.ext x i) e h) K w=((okExt i (ev e x)/\K (aExt i (ev e x)) h)):=rfl
theorem vcI_bld (z:List AVal) (ps:List (Nat×Nat×SX)):Hd (vcI P (.bld z ps) e h) K w=((X3 z.length (ps.map fun p=>(p.1,p.2.1,ev e p.2.2))/\K (.agg (K8 z (ps.map fun p=>(p.1,p.2.1,ev e p.2.2)))) h)):=rfl
theorem vcI_bldF (ty s:Nat) (ps:List SX):Hd (vcI P (.bldF ty s ps) e h) K w=((Z7 s e ps/\K (if ps.isEmpty then .emp else .slc (ps.map fun x=>cellsOf (ev e x))) h)):=rfl
theorem vcI_len (x:SX):Hd (vcI P (.len x) e h) K w=((okLen (ev e x)/\K (aLen (ev e x)) h)):=rfl
theorem vcI_lenS (x:SX):Hd (vcI P (.lenS x) e h) K w=((okLenS (ev e x)/\K (aLenS (ev e x)) h)):=rfl
theorem vcI_min2 (x y:SX):Hd (vcI P (.min2 x y) e h) K w=((ok2i (ev e x) (ev e y)/\K (aMin (ev e x) (ev e y)) h)):=rfl
theorem vcI_max2 (x y:SX):Hd (vcI P (.max2 x y) e h) K w=((ok2i (ev e x) (ev e y)/\K (aMax (ev e x) (ev e y)) h)):=rfl
theorem vcI_mkf (f:Nat) (a b:List SX):Hd (vcI P (.mkf f a b) e h) K w=(K (.fn f (a.map (ev e)) (b.map (ev e))) h):=by simp [Hd,vcI,fok,fop]
theorem vcI_isnil (k:Nat) (n:Bool) (x:SX):Hd (vcI P (.isnil k n x) e h) K w=(Hd (WW k n (ev e x)) (fun r=>K r h) .mk):=rfl
theorem vcI_bldR (ty s:Nat) (ps:List SX):Hd (vcI P (.bldR ty s ps) e h) K w=(Hd (litE ty s ps e h) K w):=rfl
theorem vcI_box (ty s:Nat) (x:SX):Hd (vcI P (.box ty s x) e h) K w=((isV (ev e x)=true/\(cellsOf (ev e x)).length=s /\ ∀ r,h r=none->K (.vp r 0) (upd h r (some ⟨ty,s,[cellsOf (ev e x)]⟩)))):=rfl
theorem vcI_boxF (ty s:Nat) (x:SX):Hd (vcI P (.boxF ty s x) e h) K w=(isV (ev e x)=true/\(cellsOf (ev e x)).length=s/\K (.pin (cellsOf (ev e x))) h):=rfl
theorem vcI_new (ty s:Nat) (z:List AVal):Hd (vcI P (.new ty s z) e h) K w=(∀ r,h r=none->K (.vp r 0) (upd h r (some ⟨ty,s,[z]⟩))):=rfl
theorem vcI_newnil (ty s:Nat):Hd (vcI P (.newnil ty s) e h) K w=(∀ r,h r=none->K (.osl r s 0 0) (upd h r (some ⟨ty,s,[]⟩))):=rfl
theorem vcI_st (s:Nat) (x v:SX):Hd (vcI P (.st s x v) e h) K w=(Hd (stE s (ev e x) (ev e v) h) K w):=rfl
theorem vcI_app (ty s b:Nat) (x y:SX):Hd (vcI P (.app ty s b x y) e h) K w=(∃ es2,Rd h s (ev e y) es2/\Hd (appE ty s b (ev e x) es2 h) K w):=rfl
theorem vcI_appS (ty b:Nat) (x y:SX):Hd (vcI P (.appS ty b x y) e h) K w=(∃ l,ev e y=.str l/\((ev e x=.emp/\l=[]/\K .emp h)\/Hd (appE ty 1 b (ev e x) (U6 l) h) K w)):=rfl
theorem vcI_appF (ty s b:Nat) (x y:SX):Hd (vcI P (.appF ty s b x y) e h) K w=(∃ es2,Rd h s (ev e y) es2/\Hd (appFE ty s b (ev e x) es2 h) K w):=rfl
theorem vcI_frz (x:SX):Hd (vcI P (.frz x) e h) K w=Hd (frzE (ev e x) h) K w:=rfl
theorem vcI_appIn (ty s:Nat) (x y:SX):Hd (vcI P (.appIn ty s x y) e h) K w=(∃ es2,Rd h s (ev e y) es2/\Hd (appInE s (ev e x) es2 h) K w):=rfl
theorem vcI_slX (s:Nat) (x:SX) (lo hi:Option SX):Hd (vcI P (.slX s x lo hi) e h) K w=(Hd (slXE s (ev e x) (evO e lo) (evO e hi) h) K w):=rfl
theorem vcI_mks (ty s b:Nat) (z:List AVal) (n c:SX):Hd (vcI P (.mks ty s b z n c) e h) K w=(Hd (mksE ty s b z (ev e n) (ev e c) h) K w):=rfl
theorem vcI_copy (s:Nat) (x y:SX):Hd (vcI P (.copy s x y) e h) K w=(∃ es2,Rd h s (ev e y) es2/\Hd (copyE s (ev e x) es2 h) K w):=rfl
theorem vcI_clear (s:Nat) (z:List AVal) (x:SX):Hd (vcI P (.clear s z x) e h) K w=(Hd (clearE s z (ev e x) h) K w):=rfl
theorem vcI_call (f:SX) (args:List SX):Hd (vcI P (.call f args) e h) K w=(Hd (callE P (ev e f) (args.map (ev e)) h) K w):=rfl
theorem vcI_b2s (x:SX):Hd (vcI P (.b2s x) e h) K w=(∃ l,Rd h 1 (ev e x) (U6 l)/\K (.str l) h):=rfl
theorem vcI_usd (x:SX):Hd (vcI P (.usd x) e h) K w=(Hd (usdE (ev e x) h) K w):=rfl
theorem vcI_ustr (ty:Nat) (x y:SX):Hd (vcI P (.ustr ty x y) e h) K w=(Hd (ustrE ty (ev e x) (ev e y) h) K w):=rfl
theorem vcI_pcall (f:Nat) (args:List SX):Hd (vcI P (.pcall f args) e h) K w=(Hd (pcallE P f (args.map (ev e))) (fun v=>K v h) .mk):=rfl
theorem vcI_s2b (ty:Nat) (x:SX):Hd (vcI P (.s2b ty x) e h) K w=Hd (s2bE ty (ev e x) h) K w:=rfl
theorem s2bE_str (ty:Nat) (l:List UInt8):Hd (s2bE ty (.str l) h) K w=(l.length<=140737488355328 /\ ∀ r,h r=none->K (.osl r 1 0 l.length) (upd h r (some ⟨.b ty,1,U6 l⟩))):=rfl
theorem vcI_rng (x:SX):Hd (vcI P (.rng x) e h) K w=Hd (rngE (ev e x) h) K w:=rfl
theorem rngE_str (l:List UInt8):Hd (rngE (.str l) h) K w=(∀ r,h r=none->K (.ptr r 0 0) (upd h r (some (itO l 0)))):=rfl
theorem vcI_nxt (x:SX):Hd (vcI P (.nxt x) e h) K w=Hd (nxtE (ev e x) h) K w:=rfl
theorem nxtE_ptr (r:Nat):Hd (nxtE (.ptr r 0 0) h) K w=(∃ l p,h r=some (itO l p)/\(p<l.length->K (.tup [.bool true,Q3 p,.int .i32 (JX l p).1]) (upd h r (some (itO l (p+(JX l p).2)))))/\(l.length<=p->K (.tup [.bool false]) h)):=rfl
theorem vcI_mkm (ty:Nat):Hd (vcI P (.mkm ty) e h) K w=(∀ r,h r=none->K (.mpr r) (upd h r (some ⟨.m ty [],1,[]⟩))):=rfl
theorem vcI_mup (kt:Option IntKind) (m k v:SX):Hd (vcI P (.mup kt m k v) e h) K w=Hd (mupE kt (ev e m) (ev e k) (ev e v) h) K w:=rfl
theorem vcI_lkp (kt:Option IntKind) (ok:Bool) (z:AVal) (m k:SX):Hd (vcI P (.lkp kt ok z m k) e h) K w=(okLkp h kt (ev e m) (ev e k)/\K (aLkp h ok z (ev e m) (ev e k)) h):=rfl
theorem mupE_mpr (kt:Option IntKind) (r:Nat) (k v:AVal):Hd (mupE kt (.mpr r) k v h) K w=(∃ ob,h r=some ob/\ob.ty.isM=true/\U9 kt k=true/\ob.ty.ents.all (fun p=>U9 kt p.1)=true /\
 K .dead (upd h r (some { ob with ty:=ob.ty.setM (mPut k v ob.ty.ents) }))):=rfl
theorem vcV_none (d:Option Nat) (si:SI):Hd (vcV P ⟨d,si,none⟩ e h) K w=Hd (vcI P si e h) K w:=rfl
theorem gateP_X (v:AVal) (b:Bool) (ok:Prop) (f:AVal->Prop) (r:AVal) (w:Wit2 (ok/\f r) (f (.tup []))):gateP v b ok (f (gateV v b r))=gateX v b (ok/\f r) (f (.tup [])) w:=by
 unfold gateP gateV gateX
 cases want v b with
 | none=>rfl
 | some t=>cases t <;> simp
theorem gateE_X (v:AVal) (b:Bool) (k1 k2:Prop) (w:Wit2 k1 k2):gateE v b k1 k2=gateX v b k1 k2 w:=by
 unfold gateE gateX
 cases want v b with
 | none=>rfl
 | some t=>cases t <;> simp
theorem vcI_stable {si:SI} (hs:si.gated=true):vcI P si e h K=(fok si e h/\K (fop si e h) h):=by
 cases si <;> first | rfl | simp [SI.gated,SI.stable] at hs
theorem gateP_E (v:AVal) (b:Bool) (ok:AVal->Prop) (f:AVal->Prop) (w:Wit2 (∃ r,ok r/\f r) (f (.tup []))):(∃ r,gateP v b (ok r) (f (gateV v b r)))=gateX v b (∃ r,ok r/\f r) (f (.tup [])) w:=by
 unfold gateP gateV gateX
 cases want v b with
 | none=>simp
 | some t=>
   cases t
   ·simp only [Bool.false_eq_true,false_implies,true_and,if_false,eq_iff_iff]
    exact ⟨fun ⟨_,h⟩=>h,fun h=>⟨.dead,h⟩⟩
   ·simp
theorem vcG_X (s:Nat) (b:Bool) (si:SI):vcG P s b si e h K=gateX (e s) b (vcI P si e h K) (K (.tup []) h) .mk:=by
 by_cases hg:si.gated=true
 ·have hv:=vcI_stable (P:=P) (e:=e) (h:=h) (K:=K) hg
  have:=gateP_X (e s) b (fok si e h) (fun r=>K r h) (fop si e h) .mk
  have h2:gateX (e s) b (vcI P si e h K) (K (.tup []) h) .mk=gateX (e s) b (fok si e h/\K (fop si e h) h) (K (.tup []) h) .mk:=by
   unfold gateX;rw [hv]
  rw [h2,<-this]
  cases si <;> first | (simp [SI.gated,SI.stable] at hg;done) | simp [vcG,SI.gated,SI.stable]
 ·cases si with
  | pcall f args=>exact gateP_E (e s) b (fun v=>PCalls P f (args.map (ev e)) v) (fun v=>K v h) .mk
  | _=>first | (exact absurd rfl hg) | (rw [<-gateE_X];rfl)
theorem vcV_some (d:Option Nat) (si:SI) (s:Nat) (b:Bool):Hd (vcV P ⟨d,si,some (s,b)⟩ e h) K w=gateX (e s) b (Hd (vcI P si e h) K w) (K (.tup []) h) .mk:=vcG_X s b si
section
variable {L:Env->Q2->Prop} {wl:Wit L}
theorem vcOps_nil:Hd (vcOps P [] e h) L wl=L e h:=rfl
theorem vcOps_cons (op:SOp) (r:List SOp):Hd (vcOps P (op :: r) e h) L wl=Hd (vcV P op e h) (fun v h'=>Hd (vcOps P r (KV e op.dst v) h') L wl) .mk:=rfl
theorem vcD_nil (rs:List (Nat×Nat)):Hd (vcD P [] rs e h) L wl=L e h:=rfl
theorem vcD_false (op:SOp) (r:List (SOp×Option (List Nat))) (rs:List (Nat×Nat)):Hd (vcD P ((op,none) :: r) rs e h) L wl=Hd (vcV P op e h) (fun v h'=>Hd (vcD P r (Y8 op e++rs) (KV e op.dst v) h') L wl) .mk:=rfl
theorem vcD_true (op:SOp) (an:List Nat) (r:List (SOp×Option (List Nat))) (rs:List (Nat×Nat)):Hd (vcD P ((op,some an) :: r) rs e h) L wl=Hd (vcV P op e h) (fun v h'=>keepR (op.rd++an) rs h h'/\Hd (vcD P r (dropR (op.rd++an) rs) (KV e op.dst v) h') L wl) .mk:=rfl
theorem keepR_nil (rd:List Nat) (h h':Q2):keepR rd [] h h'=True:=by simp [keepR]
theorem keepR_cons (rd:List Nat) (d t:Nat) (rs:List (Nat×Nat)) (h h':Q2):keepR rd ((d,t) :: rs) h h'=((rd.contains d=false->h' t=h t)/\keepR rd rs h h'):=by
 simp [keepR]
theorem dropR_nil (rd:List Nat):dropR rd []=[]:=rfl
theorem dropR_cons (rd:List Nat) (d t:Nat) (rs:List (Nat×Nat)):dropR rd ((d,t) :: rs)=if rd.contains d=true then dropR rd rs else (d,t) :: dropR rd rs:=by
 unfold dropR
 rw [List.filter_cons]
 cases rd.contains d <;> simp
def Sp (v:AVal) (K:AVal->Prop) (_:Wit K):Prop:=K v
theorem Q1 (d:Nat) (si:SI) (g:Option (Nat×Bool)) (r:List SOp):Hd (vcOps P (⟨some d,si,g⟩ :: r) e h) L wl=Hd (vcV P ⟨some d,si,g⟩ e h) (fun v h'=>Sp v (fun v'=>Hd (vcOps P r (upd e d v') h') L wl) .mk) .mk:=rfl
theorem T5 (d:Nat) (si:SI) (g:Option (Nat×Bool)) (r:List (SOp×Option (List Nat))) (rs:List (Nat×Nat)):Hd (vcD P ((⟨some d,si,g⟩,none) :: r) rs e h) L wl=Hd (vcV P ⟨some d,si,g⟩ e h) (fun v h'=>Sp v (fun v'=>Hd (vcD P r (Y8 ⟨some d,si,g⟩ e++rs) (upd e d v') h') L wl) .mk) .mk:=rfl
end
variable {Q:SExit->Env->Q2->Prop}
theorem vc_skip:vc P .skip Q e h=Q .normal e h:=rfl
theorem vc_reg (ops:List SOp):vc P (.reg ops) Q e h=Hd (vcOps P ops e h) (Q .normal) .mk:=rfl
theorem vc_dreg (ops:List (SOp×Option (List Nat))):vc P (.dreg ops) Q e h=Hd (vcD P ops [] e h) (Q .normal) .mk:=rfl
theorem vc_seq (a b:SCode):vc P (.seq a b) Q e h=vc P a (thenK (vc P b Q) Q) e h:=rfl
theorem vc_cond (x:SX) (a b:SCode):vc P (.cond x a b) Q e h=condW (ev e x) (vc P a Q e h) (vc P b Q e h) .mk:=rfl
theorem vc_block (id:Nat) (c:SCode):vc P (.block id c) Q e h=vc P c (blockK id Q) e h:=rfl
theorem vc_loop (c:SCode):vc P (.loop c) Q e h=LoopVC (vc P c) Q e h:=rfl
theorem vc_range (f:SX) (ps:List Nat) (a b:SCode):vc P (.range f ps a b) Q e h=RangeVC P f ps (vc P a) (vc P b) Q e h:=rfl
theorem setPs_cons (p:Nat) (ps:List Nat) (v:AVal) (vs:List AVal):setPs e (p :: ps) (v :: vs)=setPs (upd e p v) ps vs:=rfl
theorem setPs_nil:setPs e [] []=e:=rfl
theorem roundK_normal {X:Type} (I:List X->Q2->Prop) (Ix:SExit->List X->Q2->Prop) (pre:List X):roundK I Ix pre .normal e h=I pre h:=rfl
theorem roundK_exit {X:Type} (I:List X->Q2->Prop) (Ix:SExit->List X->Q2->Prop) (pre:List X) (id:Nat):roundK I Ix pre (.exit id) e h=Ix (.exit id) pre h:=rfl
theorem roundK_ret {X:Type} (I:List X->Q2->Prop) (Ix:SExit->List X->Q2->Prop) (pre:List X):roundK I Ix pre .ret e h=Ix .ret pre h:=rfl
theorem vc_goto (l:Nat):vc P (.goto l) Q e h=Q (.goto l) e h:=rfl
theorem vc_label (l:Nat):vc P (.label l) Q e h=Q .normal e h:=rfl
theorem vc_scope (l:Nat) (c r:SCode):vc P (.scope l c r) Q e h=vc P c (gotoK l (vc P r (noGoK Q)) Q) e h:=rfl
theorem gotoK_goto (l j:Nat) (N:Env->Q2->Prop):gotoK l N Q (.goto j) e h=(j=l/\N e h):=rfl
theorem gotoK_normal (l:Nat) (N:Env->Q2->Prop):gotoK l N Q .normal e h=Q .normal e h:=rfl
theorem gotoK_exit (l id:Nat) (N:Env->Q2->Prop):gotoK l N Q (.exit id) e h=Q (.exit id) e h:=rfl
theorem gotoK_ret (l:Nat) (N:Env->Q2->Prop):gotoK l N Q .ret e h=Q .ret e h:=rfl
theorem noGoK_normal:noGoK Q .normal e h=Q .normal e h:=rfl
theorem noGoK_exit (id:Nat):noGoK Q (.exit id) e h=Q (.exit id) e h:=rfl
theorem noGoK_ret:noGoK Q .ret e h=Q .ret e h:=rfl
theorem thenK_goto (N:Env->Q2->Prop) (l:Nat):thenK N Q (.goto l) e h=Q (.goto l) e h:=rfl
theorem blockK_goto (id l:Nat):blockK id Q (.goto l) e h=Q (.goto l) e h:=rfl
theorem vc_exit (id:Nat):vc P (.exit id) Q e h=Q (.exit id) e h:=rfl
theorem vc_ret:vc P .ret Q e h=Q .ret e h:=rfl
variable {N:Env->Q2->Prop}
theorem thenK_normal:thenK N Q .normal e h=N e h:=rfl
theorem thenK_exit (id:Nat):thenK N Q (.exit id) e h=Q (.exit id) e h:=rfl
theorem thenK_ret:thenK N Q .ret e h=Q .ret e h:=rfl
theorem blockK_normal (id:Nat):blockK id Q .normal e h=Q .normal e h:=rfl
theorem blockK_ret (id:Nat):blockK id Q .ret e h=Q .ret e h:=rfl
theorem blockK_exit (id j:Nat):blockK id Q (.exit j) e h=if j=id then Q .normal e h else Q (.exit j) e h:=rfl
variable {rs:List SRes} {R:AVal->Q2->Prop}
theorem ev_t (n:Nat):ev e (.t n)=e n:=rfl
theorem ev_c (v:AVal):ev e (.c v)=v:=rfl
theorem evO_some (x:SX):evO e (some x)=some (ev e x):=rfl
theorem evO_none:evO e none=none:=rfl
theorem setD_some (d:Nat) (v:AVal):KV e (some d) v=upd e d v:=rfl
theorem setD_none (v:AVal):KV e none v=e:=rfl
theorem LoopVC.intro {b:(SExit->Env->Q2->Prop)->Env->Q2->Prop} (I:Nat->Env->Q2->Prop) (m:Nat) (h0:I m e h) (hr:∀ m e h,I m e h->b (thenK (fun e' h'=>∃ m',m'<m/\I m' e' h') Q) e h):LoopVC b Q e h:=
 ⟨I,⟨m,h0⟩,hr⟩
end
class LenE {α:Type} (enc:α->List AVal) (sz:outParam Nat):Prop where
 len:∀ x,(enc x).length=sz
def sl {α:Type} (enc:α->List AVal) (l:List α):AVal:=.slc (l.map enc)
def nth {α:Type} [Inhabited α] (l:List α) (i:Nat):α:=l.getD i default
theorem J5 {α:Type} [Inhabited α] {l:List α} {i:Nat} (h:i<l.length):l[i]? = some (nth l i):=T8 l i default h
section
set_option linter.unusedSectionVars false
variable {α:Type} [Inhabited α] {enc:α->List AVal} {l:List α} {sz:Nat}
theorem aLen_sl:aLen (sl enc l)=Q3 l.length:=by simp [aLen,sl]
theorem okLen_sl:okLen (sl enc l)=True:=rfl
theorem okIdxA_sl [LenE enc sz] {s:Nat} {k:IntKind} {n:Int}:okIdxA s (sl enc l) (.int k n)=(0<=n/\n<l.length/\sz=s):=by
 simp only [okIdxA,sl,List.length_map,eq_iff_iff]
 refine and_congr_right fun h0=>and_congr_right fun h1=>?_
 have:((l.map enc).getD n.toNat [])=enc (nth l n.toNat):=by
  rw [List.getD_eq_getElem?_getD,List.getElem?_map,J5 (by omega)]
  rfl
 rw [this,LenE.len (enc:=enc)]
theorem aIdxA_sl {k:IntKind} {n:Int} (h0:0<=n) (h1:n<l.length):aIdxA (sl enc l) (.int k n)=.pin (enc (nth l n.toNat)):=by
 simp only [aIdxA,sl]
 rw [List.getD_eq_getElem?_getD,List.getElem?_map,J5 (by omega)]
 rfl
end
def Z6 (n:Int):List AVal:=[.int .i64 n]
instance:LenE Z6 1:=⟨fun _=>rfl⟩
theorem wrap_i64 {n:Int} (h0:-9223372036854775808<=n) (h1:n<=9223372036854775807):IntKind.i64.wrap n=n:=by
 rw [IntKind.wrap_i64];omega
theorem aBin_add (k k':IntKind) (a b:Int):VZ .add (.int k a) (.int k' b)=.int k (k.wrap (a+b)):=rfl
theorem okBin_add (k k':IntKind) (a b:Int):JJ .add (.int k a) (.int k' b)=(k=k'):=rfl
theorem aBin_sub (k k':IntKind) (a b:Int):VZ .sub (.int k a) (.int k' b)=.int k (k.wrap (a-b)):=rfl
theorem okBin_sub (k k':IntKind) (a b:Int):JJ .sub (.int k a) (.int k' b)=(k=k'):=rfl
theorem aBin_mul (k k':IntKind) (a b:Int):VZ .mul (.int k a) (.int k' b)=.int k (k.wrap (a*b)):=rfl
theorem okBin_mul (k k':IntKind) (a b:Int):JJ .mul (.int k a) (.int k' b)=(k=k'):=rfl
theorem aBin_quo (k k':IntKind) (a b:Int):VZ .quo (.int k a) (.int k' b)=.int k (k.wrap (a.tdiv b)):=rfl
theorem okBin_quo (k k':IntKind) (a b:Int):JJ .quo (.int k a) (.int k' b)=(k=k'/\b≠0):=rfl
theorem aBin_rem (k k':IntKind) (a b:Int):VZ .rem (.int k a) (.int k' b)=.int k (a.tmod b):=rfl
theorem okBin_rem (k k':IntKind) (a b:Int):JJ .rem (.int k a) (.int k' b)=(k=k'/\b≠0):=rfl
theorem aBin_shl (k k':IntKind) (a b:Int):VZ .shl (.int k a) (.int k' b)=.int k (k.wrap (a*2 ^ (min b.toNat k.bits))):=rfl
theorem okBin_shl (k k':IntKind) (a b:Int):JJ .shl (.int k a) (.int k' b)=(0<=b):=rfl
theorem aBin_shr (k k':IntKind) (a b:Int):VZ .shr (.int k a) (.int k' b)=.int k (a.fdiv (2 ^ (min b.toNat k.bits))):=rfl
theorem okBin_shr (k k':IntKind) (a b:Int):JJ .shr (.int k a) (.int k' b)=(0<=b):=rfl
theorem aBin_eql (k k':IntKind) (a b:Int):VZ .eql (.int k a) (.int k' b)=.bool (a==b):=rfl
theorem okBin_eql (k k':IntKind) (a b:Int):JJ .eql (.int k a) (.int k' b)=(k=k'):=rfl
theorem aBin_neq (k k':IntKind) (a b:Int):VZ .neq (.int k a) (.int k' b)=.bool (a != b):=rfl
theorem okBin_neq (k k':IntKind) (a b:Int):JJ .neq (.int k a) (.int k' b)=(k=k'):=rfl
theorem aBin_lss (k k':IntKind) (a b:Int):VZ .lss (.int k a) (.int k' b)=.bool (decide (a<b)):=rfl
theorem okBin_lss (k k':IntKind) (a b:Int):JJ .lss (.int k a) (.int k' b)=(k=k'):=rfl
theorem aBin_leq (k k':IntKind) (a b:Int):VZ .leq (.int k a) (.int k' b)=.bool (decide (a<=b)):=rfl
theorem okBin_leq (k k':IntKind) (a b:Int):JJ .leq (.int k a) (.int k' b)=(k=k'):=rfl
theorem aBin_gtr (k k':IntKind) (a b:Int):VZ .gtr (.int k a) (.int k' b)=.bool (decide (b<a)):=rfl
theorem okBin_gtr (k k':IntKind) (a b:Int):JJ .gtr (.int k a) (.int k' b)=(k=k'):=rfl
theorem aBin_geq (k k':IntKind) (a b:Int):VZ .geq (.int k a) (.int k' b)=.bool (decide (b<=a)):=rfl
theorem okBin_geq (k k':IntKind) (a b:Int):JJ .geq (.int k a) (.int k' b)=(k=k'):=rfl
theorem aBin_and (k k':IntKind) (a b:Int):VZ .and (.int k a) (.int k' b)=.int k (WJ .and k a b):=rfl
theorem okBin_and (k k':IntKind) (a b:Int):JJ .and (.int k a) (.int k' b)=(k=k'):=rfl
theorem aBin_or (k k':IntKind) (a b:Int):VZ .or (.int k a) (.int k' b)=.int k (WJ .or k a b):=rfl
theorem okBin_or (k k':IntKind) (a b:Int):JJ .or (.int k a) (.int k' b)=(k=k'):=rfl
theorem aBin_xor (k k':IntKind) (a b:Int):VZ .xor (.int k a) (.int k' b)=.int k (WJ .xor k a b):=rfl
theorem okBin_xor (k k':IntKind) (a b:Int):JJ .xor (.int k a) (.int k' b)=(k=k'):=rfl
theorem aBin_andNot (k k':IntKind) (a b:Int):VZ .andNot (.int k a) (.int k' b)=.int k (WJ .andNot k a b):=rfl
theorem okBin_andNot (k k':IntKind) (a b:Int):JJ .andNot (.int k a) (.int k' b)=(k=k'):=rfl
theorem aBinS_add (a b:List UInt8):VZ .add (.str a) (.str b)=.str (a++b):=rfl
theorem okBinS_add (a b:List UInt8):JJ .add (.str a) (.str b)=(a.length+b.length<=9223372036854775807):=rfl
theorem aBinS_eql (a b:List UInt8):VZ .eql (.str a) (.str b)=.bool (a==b):=rfl
theorem okBinS_eql (a b:List UInt8):JJ .eql (.str a) (.str b)=True:=rfl
theorem aBinS_neq (a b:List UInt8):VZ .neq (.str a) (.str b)=.bool (a != b):=rfl
theorem okBinS_neq (a b:List UInt8):JJ .neq (.str a) (.str b)=True:=rfl
theorem aBinS_lss (a b:List UInt8):VZ .lss (.str a) (.str b)=.bool (Op.bytesLess a b):=rfl
theorem okBinS_lss (a b:List UInt8):JJ .lss (.str a) (.str b)=True:=rfl
theorem aBinS_geq (a b:List UInt8):VZ .geq (.str a) (.str b)=.bool (!Op.bytesLess a b):=rfl
theorem okBinS_geq (a b:List UInt8):JJ .geq (.str a) (.str b)=True:=rfl
theorem aBinS_gtr (a b:List UInt8):VZ .gtr (.str a) (.str b)=.bool (!(Op.bytesLess a b||a==b)):=rfl
theorem okBinS_gtr (a b:List UInt8):JJ .gtr (.str a) (.str b)=True:=rfl
theorem aBinS_leq (a b:List UInt8):VZ .leq (.str a) (.str b)=.bool (Op.bytesLess a b||a==b):=rfl
theorem okBinS_leq (a b:List UInt8):JJ .leq (.str a) (.str b)=True:=rfl
theorem aUn_not (b:Bool):aUn .not (.bool b)=.bool (!b):=rfl
theorem okUn_not (b:Bool):okUn .not (.bool b)=(UnOp.not=UnOp.not):=rfl
theorem aUn_neg (k:IntKind) (n:Int):aUn .neg (.int k n)=.int k (k.wrap (0-n)):=rfl
theorem okUn_neg (k:IntKind) (n:Int):okUn .neg (.int k n)=True:=by simp [okUn]
theorem okUn_xor (k:IntKind) (n:Int):okUn .xor (.int k n)=True:=by simp [okUn]
theorem bitF_not (n:Int) (h1:-9223372036854775808<=n) (h2:n<=9223372036854775807):WJ .xor .i64 (-1) n = -1-n:=by
 unfold WJ
 have e:(BitVec.ofInt IntKind.i64.bits (-1) ^^^ BitVec.ofInt IntKind.i64.bits n) = ~~~ (BitVec.ofInt 64 n):=by
  rw [BitVec.not_def];rfl
 have e2:(BitVec.ofInt 64 n).toNat=(n % 18446744073709551616).toNat:=BitVec.toNat_ofInt ..
 have e3:(~~~ (BitVec.ofInt 64 n)).toNat=18446744073709551615-(n % 18446744073709551616).toNat:=by rw [BitVec.toNat_not,e2]
 simp only [e]
 have e4:∀ y:BitVec 64,IntKind.i64.wrap ((y.toNat:Nat):Int)=(y.toNat+9223372036854775808) % 18446744073709551616-9223372036854775808:=fun y=>IntKind.wrap_i64 _
 refine (e4 _).trans ?_
 rw [e3]
 omega
theorem aUn_xor (n:Int) (h1:-9223372036854775808<=n) (h2:n<=9223372036854775807):aUn .xor (.int .i64 n)=.int .i64 (-1-n):=by
 show AVal.int .i64 (WJ .xor .i64 (-1) n)=_
 rw [bitF_not n h1 h2]
theorem aEqb_bool (n a b:Bool):aEqb n (.bool a) (.bool b)=.bool (xor n (a==b)):=rfl
theorem okEqb_bool (a b:Bool):okEqb (.bool a) (.bool b)=True:=rfl
theorem aEqs_agg (n:Bool) (as bs:List AVal):aEqs n (.agg as) (.agg bs)=.bool (xor n (X4 as bs)):=rfl
theorem okEqs_agg (ks:List Nat) (as bs:List AVal):okEqs ks (.agg as) (.agg bs)=Y4 ks as bs:=rfl
theorem aCvi_int (k k':IntKind) (n:Int):aCvi k (.int k' n)=.int k (k.wrap n):=rfl
theorem okCvi_int (k':IntKind) (n:Int):okCvi (.int k' n)=True:=rfl
theorem aPick_bool (c:Bool) (a b:AVal):aPick (.bool c) a b=if c then a else b:=rfl
theorem okPick_bool (c:Bool):okPick (.bool c)=True:=rfl
theorem aFld_agg (o s:Nat) (b:Bool) (cs:List AVal):aFld o s b (.agg cs)=cutV s b (cs.drop o):=rfl
theorem okFld_agg (o s:Nat) (b:Bool) (cs:List AVal):okFld o s b (.agg cs)=(o+s<=cs.length/\(b=false->s=1)):=rfl
theorem cutV_true (s:Nat) (cs:List AVal):cutV s true cs=.agg (cs.take s):=rfl
theorem cutV_false (s:Nat) (cs:List AVal):cutV s false cs=cs.headD .dead:=rfl
theorem aFldA_pin (o:Nat) (cs:List AVal):aFldA o (.pin cs)=.pin (cs.drop o):=rfl
theorem okFldA_pin (cs:List AVal):okFldA (.pin cs)=True:=rfl
theorem deVp_vp (r j:Nat):deVp (.vp r j)=.ptr r 0 j:=rfl
theorem deVp_ptr (r i j:Nat):deVp (.ptr r i j)=.ptr r i j:=rfl
theorem deVp_pin (cs:List AVal):deVp (.pin cs)=.pin cs:=rfl
theorem aFldA_vp (o r j:Nat):aFldA o (.vp r j)=.vp r (j+o):=rfl
theorem okFldA_vp (r j:Nat):okFldA (.vp r j)=True:=rfl
theorem aFldA_ptr (o r i j:Nat):aFldA o (.ptr r i j)=.ptr r i (j+o):=rfl
theorem okFldA_ptr (r i j:Nat):okFldA (.ptr r i j)=True:=rfl
theorem aIdxA_osl (r sz i n:Nat) (k:IntKind) (m:Int):aIdxA (.osl r sz i n) (.int k m)=.ptr r (i+m.toNat) 0:=rfl
theorem okIdxA_osl (s r sz i n:Nat) (k:IntKind) (m:Int):okIdxA s (.osl r sz i n) (.int k m)=(sz=s/\0<=m/\m<n):=rfl
theorem aIdxG_pin (cs:List AVal) (k:IntKind) (m:Int):aIdxG (.pin cs) (.int k m)=.pin (cs.drop m.toNat):=rfl
theorem okIdxG_pin (s:Nat) (cs:List AVal) (k:IntKind) (m:Int):okIdxG s (.pin cs) (.int k m)=(0<=m/\m<s):=rfl
theorem aIdxA_slc (es:List (List AVal)) (k:IntKind) (m:Int):aIdxA (.slc es) (.int k m)=.pin (es.getD m.toNat []):=rfl
theorem okIdxA_slc (s:Nat) (es:List (List AVal)) (k:IntKind) (m:Int):okIdxA s (.slc es) (.int k m)=(0<=m/\m<es.length/\(es.getD m.toNat []).length=s):=rfl
theorem aIdxS_str (l:List UInt8) (k:IntKind) (m:Int):aIdxS (.str l) (.int k m)=.int .u8 (l.getD m.toNat 0).toNat:=rfl
theorem okIdxS_str (l:List UInt8) (k:IntKind) (m:Int):okIdxS (.str l) (.int k m)=(0<=m/\m<l.length):=rfl
theorem aLd_pin (h:Q2) (s:Nat) (b:Bool) (cs:List AVal):aLd h s b (.pin cs)=cutV s b cs:=rfl
theorem okLd_pin (h:Q2) (s:Nat) (b:Bool) (cs:List AVal):okLd h s b (.pin cs)=(s<=cs.length/\(b=false->s=1)):=rfl
theorem okLd_ptr (h:Q2) (s:Nat) (b:Bool) (r i j:Nat):okLd h s b (.ptr r i j) = ∃ o,h r=some o/\i<o.es.length/\j+s<=(o.es.getD i []).length/\(b=false->s=1):=rfl
def ldO (o:Option AObj) (i j s:Nat) (b:Bool):AVal:=match o with | some o=>cutV s b ((o.es.getD i []).drop j) | none=>.dead
theorem aLd_ptr (h:Q2) (s:Nat) (b:Bool) (r i j:Nat):aLd h s b (.ptr r i j)=ldO (h r) i j s b:=rfl
theorem okLd_vp (h:Q2) (s:Nat) (b:Bool) (r j:Nat):okLd h s b (.vp r j) = ∃ o,h r=some o/\0<o.es.length/\j+s<=(o.es.getD 0 []).length/\(b=false->s=1):=rfl
theorem aLd_vp (h:Q2) (s:Nat) (b:Bool) (r j:Nat):aLd h s b (.vp r j)=ldO (h r) 0 j s b:=rfl
theorem ldO_some (o:AObj) (i j s:Nat) (b:Bool):ldO (some o) i j s b=cutV s b ((o.es.getD i []).drop j):=rfl
theorem aExt_tup (i:Nat) (vs:List AVal):aExt i (.tup vs)=vs.getD i .dead:=rfl
theorem okExt_tup (i:Nat) (vs:List AVal):okExt i (.tup vs)=(i<vs.length):=rfl
theorem aLen_osl (r sz i n:Nat):aLen (.osl r sz i n)=Q3 n:=rfl
theorem okLen_osl (r sz i n:Nat):okLen (.osl r sz i n)=True:=rfl
theorem aLen_slc (es:List (List AVal)):aLen (.slc es)=Q3 es.length:=rfl
theorem okLen_slc (es:List (List AVal)):okLen (.slc es)=True:=rfl
theorem aLen_emp  : aLen .emp=Q3 0:=rfl
theorem okLen_emp  : okLen .emp=True:=rfl
theorem aLenS_str (l:List UInt8):aLenS (.str l)=Q3 l.length:=rfl
theorem okLenS_str (l:List UInt8):okLenS (.str l)=True:=rfl
theorem aMin_int (k k':IntKind) (a b:Int):aMin (.int k a) (.int k' b)=.int k (min a b):=rfl
theorem aMax_int (k k':IntKind) (a b:Int):aMax (.int k a) (.int k' b)=.int k (max a b):=rfl
theorem ok2i_int (k k':IntKind) (a b:Int):ok2i (.int k a) (.int k' b)=(k=k'):=rfl
theorem aSlS_str (l:List UInt8) (lo hi:Option AVal):aSlS (.str l) lo hi=.str ((l.take (K7 l.length hi).toNat).drop (X9 lo).toNat):=rfl
theorem okSlS_str (l:List UInt8) (lo hi:Option AVal):okSlS (.str l) lo hi=(okB lo/\okB hi/\0<=X9 lo/\X9 lo<=K7 l.length hi/\K7 l.length hi<=l.length):=rfl
theorem loOf_int (k:IntKind) (n:Int):X9 (some (.int k n))=n:=rfl
theorem loOf_none  : X9 none=0:=rfl
theorem hiOf_int (m:Nat) (k:IntKind) (n:Int):K7 m (some (.int k n))=n:=rfl
theorem hiOf_none (m:Nat):K7 m none=m:=rfl
theorem okB_int (k:IntKind) (n:Int):okB (some (.int k n))=True:=rfl
theorem okB_none  : okB none=True:=rfl
theorem aSlA_osl (r sz i n:Nat) (lo hi:Option AVal):aSlA (.osl r sz i n) lo hi=.osl r sz (i+(X9 lo).toNat) ((K7 n hi).toNat-(X9 lo).toNat):=rfl
theorem okSlA_osl (s r sz i n:Nat) (lo hi:Option AVal):okSlA s (.osl r sz i n) lo hi=(sz=s/\okB lo/\okB hi/\0<=X9 lo/\X9 lo<=K7 n hi/\K7 n hi<=n):=rfl
theorem aSlA_emp (lo hi:Option AVal):aSlA .emp lo hi=.emp:=rfl
theorem okSlA_emp (s:Nat) (lo hi:Option AVal):okSlA s .emp lo hi=(okB lo/\okB hi/\X9 lo=0/\K7 0 hi=0):=rfl
theorem okSlM_osl (r sz i n:Nat) (lo hi mx:Option AVal):okSlM (.osl r sz i n) lo hi mx=(True/\okB lo/\okB hi/\okB mx/\0<=X9 lo/\X9 lo<=K7 n hi/\K7 n hi<=K7 n mx/\K7 n mx<=n):=rfl
theorem nil_slc (n:Bool) (es:List (List AVal)) (K:AVal->Prop) (w:Wit K):Hd (WW 0 n (.slc es)) K w=(∀ b:Bool,(b=true->es=[])->K (.bool (xor n b))):=rfl
theorem nil_emp (n:Bool) (K:AVal->Prop) (w:Wit K):Hd (WW 0 n .emp) K w=(∀ b:Bool,K (.bool (xor n b))):=rfl
theorem nil_osl (n:Bool) (r sz i m:Nat) (K:AVal->Prop) (w:Wit K):Hd (WW 0 n (.osl r sz i m)) K w=(∀ b:Bool,(b=true->m=0)->K (.bool (xor n b))):=rfl
theorem nil_snil (n:Bool) (K:AVal->Prop) (w:Wit K):Hd (WW 0 n (.prim (.slice none 0 0))) K w=(K (.bool (!n))):=rfl
theorem nil_vp (n:Bool) (r j:Nat) (K:AVal->Prop) (w:Wit K):Hd (WW 1 n (.vp r j)) K w=(K (.bool n)):=rfl
theorem cells_vp (r j:Nat):cellsOf (.vp r j)=[.vp r j]:=rfl
theorem isV_vp (r j:Nat):isV (.vp r j)=true:=rfl
theorem stE_vp (s r j:Nat) (v:AVal) (h:Q2) (K:AVal->Q2->Prop) (w:Wit K):Hd (stE s (.vp r j) v h) K w=Hd (stE s (.ptr r 0 j) v h) K w:=rfl
theorem nil_ptr (n:Bool) (r i j:Nat) (K:AVal->Prop) (w:Wit K):Hd (WW 1 n (.ptr r i j)) K w=(K (.bool n)):=rfl
theorem nil_pin (n:Bool) (cs:List AVal) (K:AVal->Prop) (w:Wit K):Hd (WW 1 n (.pin cs)) K w=(K (.bool n)):=rfl
theorem nil_pnil (n:Bool) (K:AVal->Prop) (w:Wit K):Hd (WW 1 n (.prim (.pointer none))) K w=(K (.bool (!n))):=rfl
theorem nil_fn (n:Bool) (f:Nat) (a b:List AVal) (K:AVal->Prop) (w:Wit K):Hd (WW 2 n (.fn f a b)) K w=(K (.bool n)):=rfl
theorem nil_fnil (n:Bool) (K:AVal->Prop) (w:Wit K):Hd (WW 2 n (.prim .nilFunc)) K w=(K (.bool (!n))):=rfl
theorem stE_pin (s:Nat) (cs:List AVal) (v:AVal) (h:Q2) (K:AVal->Q2->Prop) (w:Wit K):Hd (stE s (.pin cs) v h) K w=(s=0/\isV v=true/\cellsOf v=[]/\K .dead h):=rfl
theorem stE_ptr (s r i j:Nat) (v:AVal) (h:Q2) (K:AVal->Q2->Prop) (w:Wit K):Hd (stE s (.ptr r i j) v h) K w=(∃ ob,h r=some ob/\i<ob.es.length/\j+s<=(ob.es.getD i []).length/\isV v=true/\(cellsOf v).length=s/\K .dead (upd h r (some { ob with es:=ob.es.set i (Z8 (ob.es.getD i []) j (cellsOf v)) }))):=rfl
theorem appE_emp (ty sz b:Nat) (es2:List (List AVal)) (h:Q2) (K:AVal->Q2->Prop) (w:Wit K):Hd (appE ty sz b .emp es2 h) K w=((es2.length*b<=140737488355328/\es2.length<=140737488355328 /\ ∀ r,h r=none->K (.osl r sz 0 es2.length) (upd h r (some ⟨ty,sz,es2⟩)))):=rfl
theorem appE_osl (ty sz b r sz' i m:Nat) (es2:List (List AVal)) (h:Q2) (K:AVal->Q2->Prop) (w:Wit K):Hd (appE ty sz b (.osl r sz' i m) es2 h) K w=((sz'=sz /\ ∃ ob,h r=some ob/\ob.ty=ty/\i+m<=ob.es.length/\(m+es2.length)*b<=140737488355328/\m+es2.length<=140737488355328 /\ ∀ r',del h r r'=none->K (.osl r' sz 0 (m+es2.length)) (upd (del h r) r' (some ⟨ty,sz,(ob.es.drop i).take m++es2⟩)))):=rfl
theorem appFE_emp (ty sz b:Nat) (es2:List (List AVal)) (h:Q2) (K:AVal->Q2->Prop) (w:Wit K):Hd (appFE ty sz b .emp es2 h) K w=(es2.length*b<=140737488355328/\es2.length<=140737488355328/\K (.slc es2) h):=rfl
theorem appFE_osl (ty sz b r sz' i m:Nat) (es2:List (List AVal)) (h:Q2) (K:AVal->Q2->Prop) (w:Wit K):Hd (appFE ty sz b (.osl r sz' i m) es2 h) K w=(sz'=sz /\ ∃ ob,h r=some ob/\ob.ty=ty/\i+m<=ob.es.length/\(m+es2.length)*b<=140737488355328/\m+es2.length<=140737488355328/\K (.slc ((ob.es.drop i).take m++es2)) (del h r)):=rfl
theorem frzE_emp (h:Q2) (K:AVal->Q2->Prop) (w:Wit K):Hd (frzE .emp h) K w=K (.slc []) h:=rfl
theorem frzE_slc (es:List (List AVal)) (h:Q2) (K:AVal->Q2->Prop) (w:Wit K):Hd (frzE (.slc es) h) K w=K (.slc es) h:=rfl
theorem frzE_sl {α:Type} (enc:α->List AVal) (l:List α) (h:Q2) (K:AVal->Q2->Prop) (w:Wit K):Hd (frzE (sl enc l) h) K w=K (sl enc l) h:=rfl
theorem frzE_osl (r sz i m:Nat) (h:Q2) (K:AVal->Q2->Prop) (w:Wit K):Hd (frzE (.osl r sz i m) h) K w=(∃ ob,h r=some ob/\i+m<=ob.es.length/\K (.slc ((ob.es.drop i).take m)) (del h r)):=rfl
theorem Rd_slc (h:Q2) (s:Nat) (es l:List (List AVal)):Rd h s (.slc es) l=(l=es /\ ∀ e∈es,e.length=s):=rfl
theorem Rd_emp (h:Q2) (s:Nat) (l:List (List AVal)):Rd h s .emp l=(l=[]):=rfl
theorem cells_agg (cs:List AVal):cellsOf (.agg cs)=cs:=rfl
theorem cells_int (k:IntKind) (n:Int):cellsOf (.int k n)=[.int k n]:=rfl
theorem isV_int (k:IntKind) (n:Int):isV (.int k n)=true:=rfl
theorem cells_bool (b:Bool):cellsOf (.bool b)=[.bool b]:=rfl
theorem isV_bool (b:Bool):isV (.bool b)=true:=rfl
theorem cells_str (l:List UInt8):cellsOf (.str l)=[.str l]:=rfl
theorem isV_str (l:List UInt8):isV (.str l)=true:=rfl
theorem cells_slc (es:List (List AVal)):cellsOf (.slc es)=[.slc es]:=rfl
theorem isV_slc (es:List (List AVal)):isV (.slc es)=true:=rfl
theorem cells_emp  : cellsOf (.emp )=[.emp ]:=rfl
theorem isV_emp  : isV (.emp )=true:=rfl
theorem cells_osl (r sz i n:Nat):cellsOf (.osl r sz i n)=[.osl r sz i n]:=rfl
theorem isV_osl (r sz i n:Nat):isV (.osl r sz i n)=true:=rfl
theorem cells_ptr (r i j:Nat):cellsOf (.ptr r i j)=[.ptr r i j]:=rfl
theorem isV_ptr (r i j:Nat):isV (.ptr r i j)=true:=rfl
theorem cells_pin (cs:List AVal):cellsOf (.pin cs)=[.pin cs]:=rfl
theorem isV_pin (cs:List AVal):isV (.pin cs)=true:=rfl
theorem cells_fn (f:Nat) (a b:List AVal):cellsOf (.fn f a b)=[.fn f a b]:=rfl
theorem isV_fn (f:Nat) (a b:List AVal):isV (.fn f a b)=true:=rfl
theorem isV_agg (cs:List AVal):isV (.agg cs)=true:=rfl
theorem cells_sl {α:Type} (enc:α->List AVal) (l:List α):cellsOf (sl enc l)=[sl enc l]:=rfl
theorem isV_sl {α:Type} (enc:α->List AVal) (l:List α):isV (sl enc l)=true:=rfl
theorem callE_fn {P:PG} (f:Nat) (a b args:List AVal) (h:Q2) (K:AVal->Q2->Prop) (w:Wit K):Hd (callE P (.fn f a b) args h) K w=(Hd (DCalls P f (a++(args++b)) h) K w):=rfl
theorem allOK_nil (e:Env) (h:Q2):allOK e h []=True:=rfl
theorem allOK_cons (e:Env) (h:Q2) (r:SRes) (l:List SRes):allOK e h (r :: l)=(resOK e h r/\allOK e h l):=rfl
theorem resOK_tmp (e:Env) (h:Q2) (t:Nat):resOK e h (.tmp t)=True:=rfl
theorem resOK_cell (e:Env) (h:Q2) (t s:Nat) (b:Bool):resOK e h (.cell t s b)=okLd h s b (e t):=rfl
theorem resV_tmp (e:Env) (h:Q2) (t:Nat):resV e h (.tmp t)=e t:=rfl
theorem resV_cell (e:Env) (h:Q2) (t s:Nat) (b:Bool):resV e h (.cell t s b)=aLd h s b (e t):=rfl
theorem retV_one (e:Env) (h:Q2) (r:SRes):retV e h [r]=resV e h r:=rfl
theorem retV_two (e:Env) (h:Q2) (r s:SRes) (l:List SRes):retV e h (r :: s :: l)=.tup ((r :: s :: l).map (resV e h)):=rfl
theorem retV_nil (e:Env) (h:Q2):retV e h []=.tup []:=rfl
theorem initE_at (G:YZ) (args:List AVal) (t:Nat) (h:t<1000000):initE G args t=args.getD t .dead:=if_pos h
theorem initE_gl (G:YZ) (args:List AVal) (t:Nat) (h:1000000<=t):initE G args t=G (t-1000000):=if_neg (by omega)
def Br (t:Bool) (A B:Prop) (_:Wit2 A B):Prop:=(t=true->A)/\(t=false->B)
section
variable {A B:Prop} {w:Wit2 A B}
theorem Br_true:Br true A B w=A:=by simp [Br]
theorem Br_false:Br false A B w=B:=by simp [Br]
theorem condOn_br (t:Bool):condW (.bool t) A B w=Br t A B .mk:=rfl
theorem Br.intro {t:Bool} (h1:t=true->A) (h2:t=false->B):Br t A B .mk:=⟨h1,h2⟩
theorem Br.dec {p:Prop} [Decidable p] (h1:p->A) (h2:¬ p->B):Br (decide p) A B .mk:=⟨fun h=>h1 (by simpa using h),fun h=>h2 (by simpa using h)⟩
theorem Br.eq {α:Type} [BEq α] [LawfulBEq α] {a b:α} (h1:a=b->A) (h2:a≠b->B):Br (a==b) A B .mk:=⟨fun h=>h1 (by simpa using h),fun h=>h2 (by simpa using h)⟩
theorem Br.ne {α:Type} [BEq α] [LawfulBEq α] {a b:α} (h1:a≠b->A) (h2:a=b->B):Br (a != b) A B .mk:=⟨fun h=>h1 (by simpa using h),fun h=>h2 (by simpa using h)⟩
end
theorem Sp_tup (l:List AVal) (K:AVal->Prop) (w:Wit K):Sp (.tup l) K w=K (.tup l):=rfl
theorem Sp_bool (t:Bool) (K:AVal->Prop) (w:Wit K):Sp (.bool t) K w=Br t (K (.bool true)) (K (.bool false)) .mk:=by
 cases t <;> simp [Sp,Br]
theorem okLkp_mpr (h:Q2) (kt:Option IntKind) (r:Nat) (k:AVal):okLkp h kt (.mpr r) k = ∃ o,h r=some o/\o.ty.isM=true/\U9 kt k=true/\o.ty.ents.all (fun p=>U9 kt p.1)=true:=rfl
theorem aLkp_mpr (h:Q2) (ok:Bool) (z:AVal) (r:Nat) (k:AVal):aLkp h ok z (.mpr r) k=aFound ok z (mFind k (entsOf (h r))):=rfl
theorem entsOf_some (o:AObj):entsOf (some o)=o.ty.ents:=rfl
theorem isM_m (n:Nat) (es:List (AVal×AVal)):(OTy.m n es).isM=true:=rfl
theorem ents_m (n:Nat) (es:List (AVal×AVal)):(OTy.m n es).ents=es:=rfl
theorem setM_m (n:Nat) (es es':List (AVal×AVal)):(OTy.m n es).setM es'=.m n es':=rfl
theorem isKeyA_int (k:IntKind) (n:Int):U9 (some k) (.int k n)=true:=by simp [U9]
theorem isKeyA_str (l:List UInt8):U9 none (.str l)=true:=rfl
theorem isV_mpr (r:Nat):isV (.mpr r)=true:=rfl
theorem cells_mpr (r:Nat):cellsOf (.mpr r)=[.mpr r]:=rfl
def eM (l:List (Int×Int)):List (AVal×AVal):=l.map fun p=>(Q3 p.1,Q3 p.2)
def UQ (l:List (Int×Int)) (k:Int):Option Int:=(l.find? fun p=>p.1==k).map (·.2)
def putI (k v:Int):List (Int×Int)->List (Int×Int)
 | []=>[(k,v)]
 | p :: r=>if p.1=k then (p.1,v) :: r else p :: putI k v r
theorem all_eM (l:List (Int×Int)):((eM l).all fun p=>U9 (some .i64) p.1)=true:=by
 simp [eM,U9]
theorem keyEq_aInt (a b:Int):WX (Q3 a) (Q3 b)=(a==b):=by simp [WX]
theorem mFind_eM (l:List (Int×Int)) (k:Int):mFind (Q3 k) (eM l)=(UQ l k).map Q3:=by
 induction l with
 | nil=>rfl
 | cons p r ih=>
   simp only [eM,List.map_cons,mFind,keyEq_aInt,UQ,List.find?_cons]
   by_cases h:p.1=k
   ·simp [h]
   ·have:(p.1==k)=false:=by simpa using h
    rw [this]
    simpa [eM,UQ] using ih
theorem mPut_eM (l:List (Int×Int)) (k v:Int):mPut (Q3 k) (Q3 v) (eM l)=eM (putI k v l):=by
 induction l with
 | nil=>rfl
 | cons p r ih=>
   simp only [eM,List.map_cons,mPut,keyEq_aInt,putI]
   by_cases h:p.1=k
   ·simp [h]
   ·have:(p.1==k)=false:=by simpa using h
    rw [this,if_neg h]
    simpa [eM] using ih
theorem aFound_int (z:Int) (o:Option Int):aFound false (Q3 z) (o.map Q3)=Q3 (o.getD z):=by cases o <;> rfl
theorem aFound_int2 (z:Int) (o:Option Int):aFound true (Q3 z) (o.map Q3)=.tup [Q3 (o.getD z),.bool o.isSome]:=by cases o <;> rfl
theorem findI_put (l:List (Int×Int)) (k v x:Int):UQ (putI k v l) x=if x=k then some v else UQ l x:=by
 induction l with
 | nil=>
   by_cases h:k=x
   ·subst h;simp [putI,UQ]
   ·have h1:(k==x)=false:=by simpa using h
    have h2:¬ x=k:=fun q=>h q.symm
    simp [putI,UQ,h1,h2]
 | cons p r ih=>
   simp only [putI]
   by_cases h:p.1=k
   ·simp only [h,if_true,UQ,List.find?_cons]
    by_cases hx:k=x
    ·simp [hx]
    ·have h1:(k==x)=false:=by simpa using hx
     have h2:¬ x=k:=fun q=>hx q.symm
     simp [h1,h2]
   ·simp only [if_neg h,UQ,List.find?_cons] at ih ⊢
    by_cases hx:p.1=x
    ·have h2:¬ x=k:=fun q=>h (hx.trans q)
     simp [hx,h2]
    ·have h1:(p.1==x)=false:=by simpa using hx
     simp only [h1];exact ih
def eMs (l:List (List UInt8)):List (AVal×AVal):=l.map fun s=>(.str s,.agg [])
def putS (s:List UInt8) (l:List (List UInt8)):List (List UInt8):=if s∈l then l else l++[s]
theorem all_eMs (l:List (List UInt8)):((eMs l).all fun p=>U9 none p.1)=true:=by simp [eMs,U9]
theorem eMs_cons (p:List UInt8) (r:List (List UInt8)):eMs (p :: r)=(.str p,.agg []) :: eMs r:=rfl
theorem mFind_cons (k x v:AVal) (r:List (AVal×AVal)):mFind k ((x,v) :: r)=if WX x k=true then some v else mFind k r:=rfl
theorem mPut_cons (k v x y:AVal) (r:List (AVal×AVal)):mPut k v ((x,y) :: r)=if WX x k=true then (x,v) :: r else (x,y) :: mPut k v r:=rfl
theorem mFind_eMs (l:List (List UInt8)) (s:List UInt8):mFind (.str s) (eMs l)=if s∈l then some (.agg []) else none:=by
 induction l with
 | nil=>rfl
 | cons p r ih=>
   rw [eMs_cons,mFind_cons]
   by_cases h:p=s
   ·subst h;rw [if_pos (by simp [WX]),if_pos (by simp)]
   ·rw [if_neg (by simpa [WX] using h),ih]
    have h2:¬ s=p:=fun q=>h q.symm
    simp [h2]
theorem mPut_eMs (l:List (List UInt8)) (s:List UInt8):mPut (.str s) (.agg []) (eMs l)=eMs (putS s l):=by
 unfold putS
 induction l with
 | nil=>rfl
 | cons p r ih=>
   rw [eMs_cons,mPut_cons]
   by_cases h:p=s
   ·subst h;rw [if_pos (by simp [WX]),if_pos (by simp)];rfl
   ·have h2:¬ s=p:=fun q=>h q.symm
    rw [if_neg (by simpa [WX] using h),ih]
    by_cases h3:s∈r
    ·rw [if_pos h3,if_pos (by simp [h3])];rfl
    ·rw [if_neg h3,if_neg (by simp [h2,h3])];rfl
theorem aFound_set (c:Prop) [Decidable c] (z v:AVal):aFound true z (if c then some v else none)=if c then .tup [v,.bool true] else .tup [z,.bool false]:=by split <;> rfl
end Go.Sim
end
section
namespace Go.Sim
open Go
inductive Vw (h:Q2):AVal->AVal->Prop
 | refl (a:AVal):Vw h a a
 | emp:Vw h .emp (.slc [])
 | agg (as bs:List AVal) (hl:as.length=bs.length) (hh:∀ (j:Nat) (a b:AVal),as[j]? = some a->bs[j]? = some b->Vw h a b):Vw h (.agg as) (.agg bs)
 | slc (es fs:List (List AVal)) (hl:es.length=fs.length) (hle:∀ (i:Nat) (e f:List AVal),es[i]? = some e->fs[i]? = some f->e.length=f.length)
    (hh:∀ (i j:Nat) (e f:List AVal) (a b:AVal),es[i]? = some e->fs[i]? = some f->e[j]? = some a->f[j]? = some b->Vw h a b):Vw h (.slc es) (.slc fs)
 | osl (r sz i n:Nat) (o:AObj) (fs:List (List AVal)) (hr:h r=some o) (hle:i+n<=o.es.length) (hl:fs.length=n) (hll:∀ f∈fs,f.length=sz)
    (hh:∀ (k j:Nat) (e f:List AVal) (a b:AVal),o.es[i+k]? = some e->fs[k]? = some f->e[j]? = some a->f[j]? = some b->Vw h a b):Vw h (.osl r sz i n) (.slc fs)
 | ptr (r i j:Nat) (o:AObj) (fs:List AVal) (hr:h r=some o) (hi:i<o.es.length) (hl:fs.length<=(o.es.getD i []).length-j)
    (hh:∀ (k:Nat) (a b:AVal),((o.es.getD i []).drop j)[k]? = some a->fs[k]? = some b->Vw h a b):Vw h (.ptr r i j) (.pin fs)
 | vp (r j:Nat) (b:AVal) (hh:Vw h (.ptr r 0 j) b):Vw h (.vp r j) b
inductive Scal:AVal->Prop
 | int (k:IntKind) (n:Int):Scal (.int k n)
 | bool (b:Bool):Scal (.bool b)
 | str (l:List UInt8):Scal (.str l)
 | tup (as:List AVal) (hh:∀ (j:Nat) (a:AVal),as[j]? = some a->Scal a):Scal (.tup as)
 | agg (as:List AVal) (hh:∀ (j:Nat) (a:AVal),as[j]? = some a->Scal a):Scal (.agg as)
section
variable {P:PG} {g:Ghost} {w:World} {h:Q2}
theorem Scal.any {v:Value} {a:AVal} (hs:Scal a):VRel g w v a -> ∀ (g':Ghost) (w':World),VRel g' w' v a:=by
 induction hs generalizing v with
 | int k n=>intro hv g' w';rw [hv.int_inv];exact .int k n
 | bool b=>intro hv g' w';rw [hv.bool_inv];exact .bool b
 | str l=>intro hv g' w';rw [hv.str_inv'];exact VRel.str_mk g' w' l
 | tup as hh ih=>
   intro hv g' w'
   obtain ⟨vs,rfl,hl,hh'⟩:=hv.tup_inv
   exact .tup vs as hl fun j u x hu hx=>ih j x hx (hh' j u x hu hx) g' w'
 | agg as hh ih=>
   intro hv g' w'
   obtain ⟨vs,rfl,hl,h1,hh'⟩:=hv.agg_inv
   exact .agg vs as hl h1 fun j u x hu hx=>ih j x hx (hh' j u x hu hx) g' w'
def Ghost.allFz (g:Ghost) (w:World):Ghost:={ g with fz:=fun b=>b<w.heap.size }
theorem GStep.allFz (H:HRel h g w):GStep g w (g.allFz w) w where
 nxt:=Nat.le_refl _
 eta _ _:=rfl
 bo _ _:=rfl
 cap _ _:=rfl
 sz _ _:=rfl
 fz b hb:=H.fz b hb
 keep _ _:=rfl
 os:=rfl
 tape:=rfl
 output:=rfl
 size:=Nat.le_refl _
theorem Vw.rel (H:HRel h g w) {a b:AVal} (hv:Vw h a b):∀ {v:Value},VRel g w v a->VRel (g.allFz w) w v b:=by
 have S:=GStep.allFz H
 induction hv with
 | refl a=>intro v V;exact V.step S
 | emp=>
   intro v V
   obtain ⟨A,rfl,_⟩:=V.emp_inv
   exact .slc0 A 0
 | agg as bs hl hh ih=>
   intro v V
   obtain ⟨vs,rfl,hvl,h1,h2⟩:=V.agg_inv
   refine .agg vs bs (hvl.trans hl) h1 fun j u b hu hb=>?_
   have hj:j<as.length:=by rw [hl];exact (List.getElem?_eq_some_iff.1 hb).1
   exact ih j _ b (List.getElem?_eq_getElem hj) hb (h2 j u _ hu (List.getElem?_eq_getElem hj))
 | slc es fs hl hle hh ih=>
   intro v V
   obtain ⟨A,c,rfl,hin⟩:=V.slc_inv
   by_cases hp:0<es.length
   ·obtain ⟨hc,ad,sz,rfl,hsp,hf,hsz,hcell⟩:=hin hp
    rw [hl]
    refine .slc_mk (sz:=sz) (by omega) (fun f hf'=>?_) hsp (H.fz _ hf) fun i j f x hi hx=>?_
    ·obtain ⟨i,hi⟩:=List.mem_iff_getElem?.1 hf'
     have hil:i<es.length:=by rw [hl];exact (List.getElem?_eq_some_iff.1 hi).1
     rw [<-hle i _ f (List.getElem?_eq_getElem hil) hi]
     exact hsz _ (List.getElem_mem hil)
    ·have hil:i<es.length:=by rw [hl];exact (List.getElem?_eq_some_iff.1 hi).1
     have he:=List.getElem?_eq_getElem hil
     have hjl:j<es[i].length:=by rw [hle i _ f he hi];exact (List.getElem?_eq_some_iff.1 hx).1
     obtain ⟨u,hu,h1,h2⟩:=hcell i j _ _ he (List.getElem?_eq_getElem hjl)
     exact ⟨u,hu,h1,ih i j _ f _ x he hi (List.getElem?_eq_getElem hjl) hx h2⟩
   ·have h0:es.length=0:=by omega
    have hfs:fs=[]:=List.eq_nil_of_length_eq_zero (by omega)
    subst hfs
    rw [h0]
    exact .slc0 A c
 | osl r sz i n o fs hr hle hl hll hh ih=>
   intro v V
   obtain ⟨hrl,hsz,hc⟩:=V.osl_inv
   have O:=H.obj r o hr
   by_cases hn:n=0
   ·subst hn
    have hfs:fs=[]:=List.eq_nil_of_length_eq_zero hl
    subst hfs
    rcases hc with ⟨rfl,_⟩ | ⟨cap,off,rfl,_⟩
    ·exact .slc0 _ _
    ·exact .slc0 _ _
   ·rcases hc with ⟨_,_,h0,_⟩ | ⟨cap,off,rfl,hnc,hm,hi,hoff⟩
    ·exact absurd h0 hn
    ·have hof:=hoff (by omega)
     rcases O.block with h0 | ⟨hlt,_,cur,hcur,_,hcell⟩
     ·have:=O.le;omega
     ·rw [<-hl]
      refine .slc_mk (sz:=sz) (by omega) hll rfl hlt fun k j f x hk hx=>?_
      have hkn:k<n:=by rw [<-hl];exact (List.getElem?_eq_some_iff.1 hk).1
      have hki:i+k<o.es.length:=by omega
      have he:=List.getElem?_eq_getElem hki
      have hjl:j<o.es[i+k].length:=by
       rw [O.len _ (List.getElem_mem hki),<-O.sz,hsz,<-hll f (List.mem_of_getElem? hk)]
       exact (List.getElem?_eq_some_iff.1 hx).1
      obtain ⟨u,hu,h1,h2⟩:=hcell _ j _ _ he (List.getElem?_eq_getElem hjl)
      refine ⟨u,?_,h1,ih k j _ f _ x he hk (List.getElem?_eq_getElem hjl) hx h2⟩
      rw [Addr.add_lit,hcur.cell,<-hu,hof,<-O.sz,hsz,Nat.add_mul]
      congr 1;omega
 | ptr r i j o fs hr hi hl hh ih=>
   intro v V
   obtain ⟨hrl,rfl⟩:=V.ptr_inv
   have O:=H.obj r o hr
   have hlt:g.eta r<w.heap.size:=by
    rcases O.block with h0 | ⟨hlt,_⟩
    ·have:=O.le;omega
    ·exact hlt
   refine VRel.pin_mk rfl hlt fun k b hb=>?_
   have hkl:k<((o.es.getD i []).drop j).length:=by
    have:=(List.getElem?_eq_some_iff.1 hb).1
    rw [List.length_drop]
    omega
   have hka:=List.getElem?_eq_getElem hkl
   obtain ⟨u,hu,h1,h2⟩:=O.cells hi j k _ hka
   exact ⟨u,hu,h1,ih k _ b hka hb h2⟩
 | vp r j b hh ih=>intro v V;exact ih V.deVp
theorem PCalls.borrow {f:Nat} {args args':List AVal} {v:AVal} (hp:PCalls P f args' v) (hs:Scal v) (hl:args.length=args'.length) (hv:∀ (j:Nat) (a b:AVal),args[j]? = some a->args'[j]? = some b->Vw h a b) :
 DCalls P f args h fun r h'=>r=v/\h'=h:=by
 refine ⟨(hp h).1,fun g w vs H GR V=>?_⟩
 have H0:HRel (fun _=>none) (g.allFz w) w:=⟨(fun r o hr=>by cases hr),(fun r r' o o' hr=>by cases hr),(fun b hb=>hb),H.ow,.none⟩
 have V':VRelL (g.allFz w) w vs args':=by
  refine ⟨V.1.trans hl,fun j u b hu hb=>?_⟩
  have hj:j<args.length:=by rw [hl];exact (List.getElem?_eq_some_iff.1 hb).1
  exact (hv j _ b (List.getElem?_eq_getElem hj) hb).rel H (V.2 j u _ hu (List.getElem?_eq_getElem hj))
 refine ((hp _).2 (g.allFz w) w vs H0 (GR.step (GStep.allFz H)) V').mono fun e w' ⟨v',r,h',g',he,⟨hr,_⟩,H',Vr,S⟩=>?_
 subst hr
 obtain ⟨S2,H2⟩:=H.ext (w':=w') (fun b hb=>S.keep b hb) S.os S.tape S.output S.size
 exact ⟨v',r,h,g,he,⟨rfl,rfl⟩,H2,hs.any Vr g w',S2⟩
inductive Fz (r:Nat) (es:List (List AVal)):AVal->AVal->Prop
 | refl (a:AVal):Fz r es a a
 | osl (sz i n:Nat) (hle:i+n<=es.length):Fz r es (.osl r sz i n) (.slc ((es.drop i).take n))
 | agg (as bs:List AVal) (hl:as.length=bs.length) (hh:∀ (j:Nat) (a b:AVal),as[j]? = some a->bs[j]? = some b->Fz r es a b):Fz r es (.agg as) (.agg bs)
 | tup (as bs:List AVal) (hl:as.length=bs.length) (hh:∀ (j:Nat) (a b:AVal),as[j]? = some a->bs[j]? = some b->Fz r es a b):Fz r es (.tup as) (.tup bs)
theorem Fz.rel {r:Nat} {o:AObj} (H:HRel h g w) (hr:h r=some o) {g':Ghost} (S:GS g w g' w) (hf:g.cap r≠0->g'.fz (g.eta r)) {a b:AVal} (hz:Fz r o.es a b):∀ {v:Value},VRel g w v a->VRel g' w v b:=by
 induction hz with
 | refl a=>intro v V;exact V.step S
 | osl sz i n hle=>
   intro v V
   obtain ⟨hrl,hsz,hc⟩:=V.osl_inv
   have O:=H.obj r o hr
   have hl:((o.es.drop i).take n).length=n:=by simp;omega
   by_cases hn:n=0
   ·subst hn
    rcases hc with ⟨rfl,_⟩ | ⟨cap,off,rfl,_⟩
    ·simpa using VRel.slc0 (g:=g') (w:=w) none 0
    ·simpa using VRel.slc0 (g:=g') (w:=w) (some ⟨g.eta r,off,none⟩) cap
   ·rcases hc with ⟨_,_,h0,_⟩ | ⟨cap,off,rfl,hnc,hm,hi,hoff⟩
    ·exact absurd h0 hn
    ·have hof:=hoff (by omega)
     rcases O.block with h0 | ⟨hlt,_,cur,hcur,_,hcell⟩
     ·have:=O.le;omega
     ·have key:=VRel.slc_mk (g:=g') (w:=w) (ad:=⟨g.eta r,off,none⟩) (c:=cap) (sz:=sz) (es:=(o.es.drop i).take n) (by rw [hl];exact hnc)
       (fun f hf'=>by rw [O.len f (List.mem_of_mem_drop (List.mem_of_mem_take hf')),<-O.sz,hsz]) rfl (hf (by omega)) (fun k j f x hk hx=>by
       obtain ⟨hkn,hk'⟩:=KJ _ _ _ _ _ hk
       obtain ⟨u,hu,h1,h2⟩:=hcell _ j _ _ hk' hx
       refine ⟨u,?_,h1,h2.step S⟩
       rw [Addr.add_lit,hcur.cell,<-hu,hof,<-O.sz,hsz,Nat.add_mul]
       congr 1;omega)
      rw [hl] at key
      exact key
 | agg as bs hl hh ih=>
   intro v V
   obtain ⟨vs,rfl,hvl,h1,h2⟩:=V.agg_inv
   refine .agg vs bs (hvl.trans hl) h1 fun j u b hu hb=>?_
   have hj:j<as.length:=by rw [hl];exact (List.getElem?_eq_some_iff.1 hb).1
   exact ih j _ b (List.getElem?_eq_getElem hj) hb (h2 j u _ hu (List.getElem?_eq_getElem hj))
 | tup as bs hl hh ih=>
   intro v V
   obtain ⟨vs,rfl,hvl,h2⟩:=V.tup_inv
   refine .tup vs bs (hvl.trans hl) fun j u b hu hb=>?_
   have hj:j<as.length:=by rw [hl];exact (List.getElem?_eq_some_iff.1 hb).1
   exact ih j _ b (List.getElem?_eq_getElem hj) hb (h2 j u _ hu (List.getElem?_eq_getElem hj))
inductive Wk:AVal->AVal->Prop
 | refl (a:AVal):Wk a a
 | emp:Wk .emp (.slc [])
 | agg (as bs:List AVal) (hl:as.length=bs.length) (hh:∀ (j:Nat) (a b:AVal),as[j]? = some a->bs[j]? = some b->Wk a b):Wk (.agg as) (.agg bs)
 | tup (as bs:List AVal) (hl:as.length=bs.length) (hh:∀ (j:Nat) (a b:AVal),as[j]? = some a->bs[j]? = some b->Wk a b):Wk (.tup as) (.tup bs)
 | slc (es fs:List (List AVal)) (hl:es.length=fs.length) (hle:∀ (i:Nat) (e f:List AVal),es[i]? = some e->fs[i]? = some f->e.length=f.length)
    (hh:∀ (i j:Nat) (e f:List AVal) (a b:AVal),es[i]? = some e->fs[i]? = some f->e[j]? = some a->f[j]? = some b->Wk a b):Wk (.slc es) (.slc fs)
theorem Wk.rel {a b:AVal} (hv:Wk a b):∀ {v:Value},VRel g w v a->VRel g w v b:=by
 induction hv with
 | refl a=>intro v V;exact V
 | emp=>
   intro v V
   obtain ⟨A,rfl,_⟩:=V.emp_inv
   exact .slc0 A 0
 | agg as bs hl hh ih=>
   intro v V
   obtain ⟨vs,rfl,hvl,h1,h2⟩:=V.agg_inv
   refine .agg vs bs (hvl.trans hl) h1 fun j u b hu hb=>?_
   have hj:j<as.length:=by rw [hl];exact (List.getElem?_eq_some_iff.1 hb).1
   exact ih j _ b (List.getElem?_eq_getElem hj) hb (h2 j u _ hu (List.getElem?_eq_getElem hj))
 | tup as bs hl hh ih=>
   intro v V
   obtain ⟨vs,rfl,hvl,h2⟩:=V.tup_inv
   refine .tup vs bs (hvl.trans hl) fun j u b hu hb=>?_
   have hj:j<as.length:=by rw [hl];exact (List.getElem?_eq_some_iff.1 hb).1
   exact ih j _ b (List.getElem?_eq_getElem hj) hb (h2 j u _ hu (List.getElem?_eq_getElem hj))
 | slc es fs hl hle hh ih=>
   intro v V
   obtain ⟨A,c,rfl,hin⟩:=V.slc_inv
   by_cases hp:0<es.length
   ·obtain ⟨hc,ad,sz,rfl,hsp,hf,hsz,hcell⟩:=hin hp
    rw [hl]
    refine .slc_mk (sz:=sz) (by omega) (fun f hf'=>?_) hsp hf fun i j f x hi hx=>?_
    ·obtain ⟨i,hi⟩:=List.mem_iff_getElem?.1 hf'
     have hil:i<es.length:=by rw [hl];exact (List.getElem?_eq_some_iff.1 hi).1
     rw [<-hle i _ f (List.getElem?_eq_getElem hil) hi]
     exact hsz _ (List.getElem_mem hil)
    ·have hil:i<es.length:=by rw [hl];exact (List.getElem?_eq_some_iff.1 hi).1
     have he:=List.getElem?_eq_getElem hil
     have hjl:j<es[i].length:=by rw [hle i _ f he hi];exact (List.getElem?_eq_some_iff.1 hx).1
     obtain ⟨u,hu,h1,h2⟩:=hcell i j _ _ he (List.getElem?_eq_getElem hjl)
     exact ⟨u,hu,h1,ih i j _ f _ x he hi (List.getElem?_eq_getElem hjl) hx h2⟩
   ·have h0:es.length=0:=by omega
    have hfs:fs=[]:=List.eq_nil_of_length_eq_zero (by omega)
    subst hfs
    rw [h0]
    exact .slc0 A c
theorem DCalls.weak {f:Nat} {args args':List AVal} {K:AVal->Q2->Prop} (hd:DCalls P f args' h K) (hl:args.length=args'.length) (hv:∀ (j:Nat) (a b:AVal),args[j]? = some a->args'[j]? = some b->Wk a b):DCalls P f args h K:=by
 refine ⟨hd.1,fun g w vs H GR V=>hd.2 g w vs H GR ⟨V.1.trans hl,fun j u b hu hb=>?_⟩⟩
 have hj:j<args.length:=by rw [hl];exact (List.getElem?_eq_some_iff.1 hb).1
 exact (hv j _ b (List.getElem?_eq_getElem hj) hb).rel (V.2 j u _ hu (List.getElem?_eq_getElem hj))
theorem PCalls.weak {f:Nat} {args args':List AVal} {v:AVal} (hp:PCalls P f args' v) (hl:args.length=args'.length) (hv:∀ (j:Nat) (a b:AVal),args[j]? = some a->args'[j]? = some b->Wk a b):PCalls P f args v:=
 fun h=>(hp h).weak hl hv
end
end Go.Sim
end
section
set_option linter.unusedSectionVars false
set_option linter.unusedSimpArgs false
namespace Go.Sim
open Go
section
variable {P:PG} {e:Env} {h:Q2} {K:AVal->Q2->Prop}
theorem natCast_succ_sub (n:Nat):((n+1:Nat):Int)-1=n:=by omega
theorem upd_id {h:Q2} {r:Nat} {o:AObj} (hr:h r=some o):upd h r (some o)=h:=by
 funext t;unfold upd;by_cases ht:t=r
 ·subst ht;rw [if_pos rfl,hr]
 ·rw [if_neg ht]
theorem Rd_oslE (s r sz i n:Nat) (F:List (List AVal)->Prop):(∃ l,Rd h s (.osl r sz i n) l/\F l)=(∃ o,h r=some o/\sz=s/\i+n<=o.es.length/\F ((o.es.drop i).take n)):=by
 rw [eq_iff_iff]
 constructor
 ·rintro ⟨l,⟨h1,o,h2,h3,rfl⟩,hF⟩
  exact ⟨o,h2,h1,h3,hF⟩
 ·rintro ⟨o,h2,h1,h3,hF⟩
  exact ⟨_,⟨h1,o,h2,h3,rfl⟩,hF⟩
theorem appInE_osl (s r sz' i m:Nat) (es2:List (List AVal)) (w:Wit K):Hd (appInE s (.osl r sz' i m) es2 h) K w=(sz'=s /\ ∃ ob,h r=some ob/\i+m+es2.length<=ob.es.length /\
 K (.osl r s i (m+es2.length)) (upd h r (some { ob with es:=ob.es.take (i+m)++es2++ob.es.drop (i+m+es2.length) }))):=rfl
theorem slXE_osl (s r sz' i m:Nat) (lo hi:Option AVal) (w:Wit K):Hd (slXE s (.osl r sz' i m) lo hi h) K w=(sz'=s /\ ∃ ob,h r=some ob/\okB lo/\okB hi/\0<=X9 lo/\X9 lo<=K7 m hi/\i+(K7 m hi).toNat<=ob.es.length /\
 K (.osl r s (i+(X9 lo).toNat) ((K7 m hi).toNat-(X9 lo).toNat)) h):=rfl
theorem mksE_int (ty s b:Nat) (z:List AVal) (k k':IntKind) (l c:Int) (w:Wit K):Hd (mksE ty s b z (.int k l) (.int k' c) h) K w=(0<=l/\l<=c/\c*b<=140737488355328/\c<=140737488355328 /\ ∀ r,h r=none->K (.osl r s 0 l.toNat) (upd h r (some ⟨ty,s,List.replicate c.toNat z⟩))):=rfl
theorem copyE_osl (s r sz' i m:Nat) (es2:List (List AVal)) (w:Wit K):Hd (copyE s (.osl r sz' i m) es2 h) K w=(sz'=s /\ ∃ ob,h r=some ob/\i+m<=ob.es.length /\
 K (Q3 (min es2.length m:Nat)) (upd h r (some { ob with es:=ob.es.take i++es2.take (min es2.length m)++ob.es.drop (i+min es2.length m) }))):=rfl
theorem usdE_emp (w:Wit K):Hd (usdE .emp h) K w=K .anyp h:=rfl
theorem usdE_osl (r s i m:Nat) (w:Wit K):Hd (usdE (.osl r s i m) h) K w=(0<m/\K (.ptr r i 0) h):=rfl
theorem ustrE_anyp (ty:Nat) (m:Int) (w:Wit K):Hd (ustrE ty .anyp (.int .i64 m) h) K w=(m=0/\K (.str []) h):=rfl
theorem ustrE_ptr (ty r i j:Nat) (m:Int) (w:Wit K):Hd (ustrE ty (.ptr r i j) (.int .i64 m) h) K w=(j=0 /\ ∃ (l:List UInt8) (ob:AObj),h r=some ob/\ob.ty=ty/\ob.sz=1/\i+l.length<=ob.es.length/\(ob.es.drop i).take l.length=U6 l/\m=l.length/\l≠[]/\l.length<=9223372036854775807/\K (.str l) (del h r)):=rfl
theorem clearE_osl (s r sz' i m:Nat) (z:List AVal) (w:Wit K):Hd (clearE s z (.osl r sz' i m) h) K w=(sz'=s /\ ∃ ob,h r=some ob/\i+m<=ob.es.length/\K .dead (upd h r (some { ob with es:=ob.es.take i++List.replicate m z++ob.es.drop (i+m) }))):=rfl
theorem upd_upd {β:Type} (f:Nat->β) (r:Nat) (x y:β):upd (upd f r x) r y=upd f r y:=by
 funext t;unfold upd;by_cases ht:t=r <;> simp [ht]
inductive F2 {α:Type} (R:α->α->Prop):List α->List α->Prop
 | nil:F2 R [] []
 | cons {a b:α} {as bs:List α} (h:R a b) (t:F2 R as bs):F2 R (a :: as) (b :: bs)
theorem F2.len {α:Type} {R:α->α->Prop} {as bs:List α} (h:F2 R as bs):as.length=bs.length:=by
 induction h with
 | nil=>rfl
 | cons _ _ ih=>simp [ih]
theorem F2.get {α:Type} {R:α->α->Prop} {as bs:List α} (h:F2 R as bs):∀ (j:Nat) (a b:α),as[j]? = some a->bs[j]? = some b->R a b:=by
 induction h with
 | nil=>intro j a b ha;simp at ha
 | cons h _ ih=>
   intro j a b ha hb
   cases j with
   | zero=>simp only [List.getElem?_cons_zero,Option.some.injEq] at ha hb;subst ha hb;exact h
   | succ j=>simp only [List.getElem?_cons_succ] at ha hb;exact ih j a b ha hb
theorem Wk.agg' {as bs:List AVal} (h:F2 Wk as bs):Wk (.agg as) (.agg bs):=.agg as bs h.len h.get
theorem Wk.tup' {as bs:List AVal} (h:F2 Wk as bs):Wk (.tup as) (.tup bs):=.tup as bs h.len h.get
theorem Wk.slc' {as bs:List (List AVal)} (h:F2 (F2 Wk) as bs):Wk (.slc as) (.slc bs):=
 .slc as bs h.len (fun i e f he hf=>(h.get i e f he hf).len) fun i j e f a b he hf ha hb=>(h.get i e f he hf).get j a b ha hb
theorem PCalls.wk {f:Nat} {args args':List AVal} {v:AVal} (hp:PCalls P f args' v) (h:F2 Wk args args'):PCalls P f args v:=hp.weak h.len h.get
theorem pcallE.of {f:Nat} {args:List AVal} {v:AVal} {K:AVal->Prop} (hp:PCalls P f args v) (hk:K v):Hd (pcallE P f args) K .mk:=⟨v,hp,hk⟩
theorem DCalls.of {f:Nat} {args:List AVal} {K0:AVal->Q2->Prop} (hd:DCalls P f args h K0) (hk:∀ r h',K0 r h'->K r h'):Hd (DCalls P f args h) K .mk:=hd.mono hk
theorem PCalls.of {f:Nat} {args:List AVal} {v:AVal} (hp:PCalls P f args v) (hk:K v h):Hd (DCalls P f args h) K .mk:=hp.d hk
theorem X6 {r t:Nat} {o:AObj}:(upd h r (some o) t=none)=(t≠r/\h t=none):=by
 unfold upd;by_cases ht:t=r <;> simp [ht]
theorem DCalls.froze {f:Nat} {args:List AVal} {K0:AVal->Q2->Prop} (hd:DCalls P f args h K0)
 (hk:∀ a h',K0 a h'->(∃ b,Wk a b/\K b h') \/ ∃ r o b,h' r=some o/\Fz r o.es a b/\K b (del h' r)):DCalls P f args h K:=by
 refine ⟨hd.1,fun g w vs H GR V=>(hd.2 g w vs H GR V).mono fun e w' ⟨v',a,h',g',he,k0,H',Va,S⟩=>?_⟩
 rcases hk a h' k0 with ⟨b,hz,hkb⟩ | ⟨r,o,b,hr,hz,hkb⟩
 ·exact ⟨v',b,h',g',he,hkb,H',hz.rel Va,S⟩
 ·by_cases hc:g'.cap r=0
  ·exact ⟨v',b,del h' r,g',he,hkb,H'.del r,hz.rel H' hr (GS.refl g' w') (fun h=>absurd hc h) Va,S⟩
  ·obtain ⟨S2,H2⟩:=H'.freeze hr hc
   exact ⟨v',b,del h' r,_,he,hkb,H2,hz.rel H' hr S2 (fun _=>.inr rfl) Va,S.trans S2⟩
def Sub (h h':Q2):Prop:=∀ t o,h t=some o->h' t=some o
theorem Sub.refl (h:Q2):Sub h h:=fun _ _ h=>h
theorem Sub.trans {h h' h'':Q2} (a:Sub h h') (b:Sub h' h''):Sub h h'':=fun t o ht=>b t o (a t o ht)
theorem Sub.upd {h h':Q2} {r:Nat} {x:Option AObj} (hs:Sub h h') (hr:h r=none):Sub h (upd h' r x):=fun t o ht=>by
 rw [Q4 _ _ (fun e=>by rw [e,hr] at ht;cases ht)];exact hs t o ht
theorem Sub.del {h h':Q2} {r:Nat} (hs:Sub h h') (hr:h r=none):Sub h (del h' r):=fun t o ht=>by
 unfold Sim.del;rw [if_neg (fun e=>by rw [e,hr] at ht;cases ht)];exact hs t o ht
theorem Sub.none {h h':Q2} {r:Nat} (hs:Sub h h') (hr:h' r=none):h r=none:=by
 cases hh:h r with
 | none=>rfl
 | some o=>rw [hs r o hh] at hr;cases hr
theorem Sub.put {h h':Q2} {r:Nat} {o:AObj} (hs:Sub h h') (hr:h' r=some o):Sub (Sim.upd h r (some o)) h':=fun t ob ht=>by
 by_cases e:t=r
 ·subst e;rw [Q5] at ht;cases ht;exact hr
 ·rw [Q4 _ _ e] at ht;exact hs t ob ht
theorem retK_normalS {rs:List SRes} {R:AVal->Q2->Prop}:KU rs R .normal e h=(allOK e h rs /\ ∃ h',Sub h' h/\R (retV e h rs) h'):=rfl
theorem retK_retS {rs:List SRes} {R:AVal->Q2->Prop}:KU rs R .ret e h=(allOK e h rs /\ ∃ h',Sub h' h/\R (retV e h rs) h'):=rfl
def Out (sz:Nat) (cells:List (List AVal)) (h:Q2) (a:AVal) (h':Q2):Prop:=
 (cells=[]/\a=.emp/\h'=h) \/ ∃ r o i n,h r=none/\a=.osl r sz i n/\h'=upd h r (some o)/\i+n<=o.es.length/\(o.es.drop i).take n=cells
theorem del_upd {h:Q2} {r:Nat} {o:Option AObj} (hr:h r=none):del (upd h r o) r=h:=by
 funext t;unfold del upd;by_cases ht:t=r
 ·subst ht;simp [hr]
 ·simp [ht]
theorem PCalls.out {f sz:Nat} {args:List AVal} {cells:List (List AVal)} (hd:∀ h,DCalls P f args h (Out sz cells h)):PCalls P f args (.slc cells):=fun h=>
 (hd h).froze fun a h' hk=>by
   rcases hk with ⟨rfl,rfl,rfl⟩ | ⟨r,o,i,n,hr,rfl,rfl,hle,rfl⟩
   ·exact .inl ⟨_,.emp,rfl,rfl⟩
   ·exact .inr ⟨r,o,_,Q5 _ _ _,.osl sz i n hle,rfl,del_upd hr⟩
def Acc (h:Q2) (ty:TypeId) (sz:Nat) (cells:List (List AVal)) (a:AVal) (h':Q2):Prop:=
 (cells=[]/\a=.emp) \/ ∃ r,h r=none/\h' r=some ⟨ty,sz,cells⟩/\a=.osl r sz 0 cells.length
theorem Acc.nil {h h':Q2} {ty:TypeId} {sz:Nat}:Acc h ty sz [] .emp h':=.inl ⟨rfl,rfl⟩
theorem Acc.root {h h':Q2} {ty:TypeId} {sz r:Nat} {cells:List (List AVal)} (h0:h r=none) (h1:h' r=some ⟨ty,sz,cells⟩):Acc h ty sz cells (.osl r sz 0 cells.length) h':=.inr ⟨r,h0,h1,rfl⟩
theorem Acc.app {h h':Q2} {ty:TypeId} {sz b:Nat} {cells es2:List (List AVal)} {a:AVal} (A:Acc h ty sz cells a h') (S:Sub h h')
 (h1:(cells.length+es2.length)*b<=140737488355328) (h2:cells.length+es2.length<=140737488355328)
 (hk:∀ a' h'',Acc h ty sz (cells++es2) a' h''->Sub h h''->K a' h''):Hd (appE ty sz b a es2 h') K .mk:=by
 rcases A with ⟨rfl,rfl⟩ | ⟨r,h0,hr,rfl⟩
 ·refine ⟨by simpa using h1,by simpa using h2,fun r hr=>hk _ _ ?_ (S.upd (S.none hr))⟩
  exact .inr ⟨r,S.none hr,by simp,rfl⟩
 ·refine ⟨rfl,_,hr,rfl,by simp,h1,h2,fun r' hr'=>hk _ _ ?_ ?_⟩
  ·have hn:h r'=none:=(S.del h0).none hr'
   refine .inr ⟨r',hn,by simp,by simp⟩
  ·exact (S.del h0).upd ((S.del h0).none hr')
theorem Acc.out {h h':Q2} {ty:TypeId} {sz:Nat} {cells:List (List AVal)} {a:AVal} (A:Acc h ty sz cells a h') (S:Sub h h'):∃ h'',(∀ t o,h'' t=some o->h' t=some o)/\Out sz cells h a h'':=by
 rcases A with ⟨rfl,rfl⟩ | ⟨r,h0,hr,rfl⟩
 ·exact ⟨h,S,.inl ⟨rfl,rfl,rfl⟩⟩
 ·exact ⟨upd h r _,S.put hr,.inr ⟨r,_,0,_,h0,rfl,rfl,by simp,by simp⟩⟩
theorem DCalls.sub {f:Nat} {args:List AVal} {K0:AVal->Q2->Prop} (hd:DCalls P f args h K0) (hk:∀ a h',K0 a h' -> ∃ h'',Sub h'' h'/\K a h''):DCalls P f args h K:=
 ⟨hd.1,fun g w vs H GR V=>(hd.2 g w vs H GR V).mono fun e w' ⟨v',a,h',g',he,k0,H',Va,S⟩=>by
   obtain ⟨h'',hs,k⟩:=hk a h' k0
   exact ⟨v',a,h'',g',he,k,H'.le hs,Va,S⟩⟩
def AccK (h:Q2) (ty:TypeId) (sz:Nat) (cells:List (List AVal)) (a:AVal) (h':Q2):Prop:=Acc h ty sz cells a h'/\Sub h h'
theorem PCalls.acc {f sz:Nat} {ty:TypeId} {args:List AVal} {cells:List (List AVal)} (hd:∀ h,DCalls P f args h (AccK h ty sz cells)):PCalls P f args (.slc cells):=
 PCalls.out (sz:=sz) fun h=>(hd h).sub fun _ _ ⟨A,S⟩=>A.out S
theorem Acc.mono {h0 h h':Q2} {ty:TypeId} {sz:Nat} {cells:List (List AVal)} {a:AVal} (A:Acc h ty sz cells a h') (S:Sub h0 h):Acc h0 ty sz cells a h':=by
 rcases A with h | ⟨r,h0,h1,h2⟩
 ·exact .inl h
 ·exact .inr ⟨r,S.none h0,h1,h2⟩
end
section
variable {α:Type} [Inhabited α] {enc:α->List AVal} {l:List α} {sz:Nat} {P:PG} {e:Env} {h:Q2}
theorem TV {k:Nat} (hk:k<l.length):(l.map enc).getD k []=enc (nth l k):=by
 rw [List.getD_eq_getElem?_getD,List.getElem?_map,J5 hk];rfl
theorem getD_take_enc {es:List (List AVal)} {n k:Nat} (he:es.take n=l.map enc) (hk:k<l.length):es.getD k []=enc (nth l k):=by
 have h1:(es.take n)[k]? = some (enc (nth l k)):=by rw [he,List.getElem?_map,J5 hk];rfl
 rw [List.getElem?_take] at h1
 split at h1
 ·rw [List.getD_eq_getElem?_getD,h1];rfl
 ·cases h1
theorem Acc.len {h h':Q2} {ty:TypeId} {sz:Nat} {cells:List (List AVal)} {a:AVal} (A:Acc h ty sz cells a h'):aLen a=Q3 cells.length/\okLen a=True:=by
 rcases A with ⟨rfl,rfl⟩ | ⟨r,_,_,rfl⟩
 ·exact ⟨rfl,rfl⟩
 ·exact ⟨rfl,rfl⟩
theorem Acc.pos {h h':Q2} {ty:TypeId} {sz:Nat} {cells:List (List AVal)} {a:AVal} (A:Acc h ty sz cells a h') (hp:0<cells.length):∃ r,h r=none/\h' r=some ⟨ty,sz,cells⟩/\a=.osl r sz 0 cells.length:=by
 rcases A with ⟨rfl,rfl⟩ | h
 ·simp at hp
 ·exact h
theorem aSlA_sl (lo hi:Option AVal):aSlA (sl enc l) lo hi=sl enc ((l.take (K7 l.length hi).toNat).drop (X9 lo).toNat):=by
 simp [aSlA,sl]
theorem okSlA_sl [LenE enc sz] {s:Nat} (lo hi:Option AVal):okSlA s (sl enc l) lo hi=(okB lo/\okB hi/\0<=X9 lo/\X9 lo<=K7 l.length hi/\K7 l.length hi<=l.length/\(l=[]\/sz=s)):=by
 simp only [okSlA,sl,List.length_map,eq_iff_iff]
 refine and_congr_right fun _=>and_congr_right fun _=>and_congr_right fun _=>and_congr_right fun _=>and_congr_right fun _=>?_
 constructor
 ·intro hh
  cases l with
  | nil=>exact .inl rfl
  | cons x r=>exact .inr ((LenE.len (enc:=enc) x).symm.trans (hh _ (by simp)))
 ·intro hh e he
  obtain ⟨x,hx,rfl⟩:=List.mem_map.1 he
  rcases hh with rfl | rfl
  ·cases hx
  ·exact LenE.len x
theorem Rd_sl [LenE enc sz] (x:List (List AVal)):Rd h sz (sl enc l) x=(x=l.map enc):=by
 simp only [Rd,sl,eq_iff_iff,and_iff_left_iff_imp]
 intro _ e he
 obtain ⟨x,hx,rfl⟩:=List.mem_map.1 he
 exact LenE.len x
theorem nil_sl (n:Bool) (K:AVal->Prop) (w:Wit K):Hd (WW 0 n (sl enc l)) K w = ∀ b:Bool,(b=true->l=[])->K (.bool (xor n b)):=by
 simp [Hd,WW,sl]
variable {K:AVal->Q2->Prop}
end
end Go.Sim
end
section
namespace Go.Sim
open Go
def CellsR (w:World) (cs:List Value) (as:List AVal):Prop:=
 cs.length=as.length /\ ∀ g:Ghost,(∀ b,b<w.heap.size->g.fz b) -> ∀ (j:Nat) (u:Value) (c:AVal),cs[j]? = some u->as[j]? = some c->u.oneCell'=true/\VRel g w u c
theorem CellsR.append {w:World} {cs cs':List Value} {as as':List AVal} (h:CellsR w cs as) (h':CellsR w cs' as'):CellsR w (cs++cs') (as++as'):=by
 refine ⟨by simp [h.1,h'.1],fun g hg j u c hu hc=>?_⟩
 by_cases hj:j<cs.length
 ·rw [List.getElem?_append_left hj] at hu
  rw [List.getElem?_append_left (by rw [<-h.1];exact hj)] at hc
  exact h.2 g hg j u c hu hc
 ·rw [List.getElem?_append_right (by omega)] at hu
  rw [List.getElem?_append_right (by rw [<-h.1];omega),<-h.1] at hc
  exact h'.2 g hg _ u c hu hc
theorem CellsR.one {w:World} {v:Value} {a:AVal} (h1:v.oneCell'=true) (h:∀ g:Ghost,(∀ b,b<w.heap.size->g.fz b)->VRel g w v a):CellsR w [v] [a]:=by
 refine ⟨rfl,fun g hg j u c hu hc=>?_⟩
 cases j with
 | zero=>simp at hu hc;subst hu hc;exact ⟨h1,h g hg⟩
 | succ j=>simp at hu
structure Bulk {H:Type} (B:DataW H->Nat):Prop where
 str:∀ l,l.length<=B (.lit (.string l))
 len:∀ es sp,es.length<=B (.slice es sp)
 elem:∀ es sp d,d∈es->B d<=B (.slice es sp)
 part:∀ ps d,d∈ps->B d<=B (.agg ps)
def Rdr {H:Type} (eh:TypeId×Value->H) (P:Program) (w:World) (B:DataW H->Nat) (t:TypeId) {α:Type} (enc:α->List AVal) (good:Nat->α->Prop):Prop:=
 ∀ (base:Nat) (spare:Nat->Bool) (held:Bool) (n:Nat) (cs:List Value) (x:DataW H×List MemPlace),DataW.trod eh P w base spare held n t cs=some x -> ∃ a:α,CellsR w cs (enc a)/\good (B x.1) a
def Mono {α:Type} (good:Nat->α->Prop):Prop:=∀ k k' a,k<=k'->good k a->good k' a
section
variable {H:Type} {eh:TypeId×Value->H} {P:Program} {w:World} {B:DataW H->Nat} {t:TypeId}
theorem Rdr.map {α β:Type} {enc:α->List AVal} {enc':β->List AVal} {good:Nat->α->Prop} {good':Nat->β->Prop} (r:Rdr eh P w B t enc good) (f:α->β) (he:∀ a,enc' (f a)=enc a) (hg:∀ k a,good k a->good' k (f a)):Rdr eh P w B t enc' good':=by
 intro base spare held n cs x h
 obtain ⟨a,h1,h2⟩:=r base spare held n cs x h
 exact ⟨f a,by rw [he];exact h1,hg _ _ h2⟩
theorem Rdr.bool (ht:P.underlying t=some .bool):Rdr eh P w B t (fun b:Bool=>[.bool b]) (fun _ _=>True):=by
 intro base spare held n cs x h
 obtain ⟨b,rfl,rfl⟩:=DataW.trod_bool ht h
 exact ⟨b,.one rfl fun g _=>.bool b,trivial⟩
theorem Rdr.int {k:IntKind} (ht:P.underlying t=some (.int k)):Rdr eh P w B t (fun n:Int=>[.int k n]) (fun _ n=>(Lit.int k n).wf=true):=by
 intro base spare held n cs x h
 obtain ⟨m,rfl,rfl,hw⟩:=DataW.trod_int ht h
 exact ⟨m,.one rfl fun g _=>.int k m,hw⟩
theorem Rdr.str (hB:Bulk B) (ht:P.underlying t=some .string):Rdr eh P w B t (fun l:List UInt8=>[.str l]) (fun k l=>l.length<=k):=by
 intro base spare held n cs x h
 obtain ⟨s,rfl,rfl,_⟩:=DataW.trod_string ht h
 exact ⟨s.data.toList,.one rfl fun g _=>.str s,hB.str _⟩
theorem list_choose {α:Type} {n:Nat} {p:Nat->α->Prop} (h:∀ i,i<n -> ∃ x,p i x):∃ l:List α,l.length=n /\ ∀ i a,l[i]? = some a->p i a:=by
 induction n with
 | zero=>exact ⟨[],rfl,fun i a h=>by simp at h⟩
 | succ n ih=>
   obtain ⟨l,hl,hp⟩:=ih fun i hi=>h i (by omega)
   obtain ⟨x,hx⟩:=h n (by omega)
   refine ⟨l++[x],by simp [hl],fun i a ha=>?_⟩
   by_cases hi:i<n
   ·rw [List.getElem?_append_left (by omega)] at ha;exact hp i a ha
   ·have hlt:=(List.getElem?_eq_some_iff.1 ha).1
    have hin:i=n:=by simp at hlt;omega
    subst hin
    rw [List.getElem?_append_right (by omega)] at ha
    simp [hl] at ha;subst ha;exact hx
theorem Rdr.slice {e:TypeId} {sz:Nat} {α:Type} {enc:α->List AVal} {good:Nat->α->Prop} (hB:Bulk B) (hm:Mono good) (ht:P.underlying t=some (.slice e)) (hsz:P.cellsOf e=sz) (h0:0<sz)
 (henc:∀ a,(enc a).length=sz) (r:Rdr eh P w B e enc good):Rdr eh P w B t (fun l:List α=>[.slc (l.map enc)]) (fun k l=>l.length<=k /\ ∀ a∈l,good k a):=by
 intro base spare held n cs x h
 rcases DataW.trod_slice ht h with ⟨rfl,rfl⟩ | ⟨ad,len,cap,elems,rest,n,rfl,rfl,rfl,hb,hl,_,hlen,hel,_,_⟩
 ·exact ⟨[],.one rfl fun g _=>.slc0 none 0,by simp,fun a ha=>by cases ha⟩
 ·have each:∀ i,i<len -> ∃ a:α,∃ cs',w.cells? base (ad.add (i*sz)) sz=some cs'/\CellsR w cs' (enc a)/\good (B (.slice (elems.map (·.1)) (rest.map (·.1)))) a:=by
   intro i hi
   have hi':i<elems.length:=by omega
   have h1:=hel i hi
   rw [List.getElem?_eq_getElem hi',hsz,Option.bind_eq_some_iff] at h1
   obtain ⟨cs',h2,h3⟩:=h1
   obtain ⟨a,h4,h5⟩:=r base spare held n cs' _ h3
   exact ⟨a,cs',h2,h4,hm _ _ a (hB.elem _ _ _ (List.mem_map.2 ⟨_,List.getElem_mem hi',rfl⟩)) h5⟩
  obtain ⟨l,hll,hp⟩:=list_choose each
  refine ⟨l,.one rfl fun g hg=>?_,by rw [hll,<-hlen];simpa using hB.len (elems.map (·.1)) (rest.map (·.1)),fun a ha=>?_⟩
  ·by_cases hz:len=0
   ·subst hz
    have:l=[]:=List.eq_nil_of_length_eq_zero hll
    subst this
    exact .slc0 _ _
   ·have cell:∀ (i j:Nat) (f:List AVal) (y:AVal),(l.map enc)[i]? = some f->f[j]? = some y -> ∃ u,w.cell? (ad.add (i*sz+j))=some u/\u.oneCell'=true/\VRel g w u y:=by
     intro i j f y hf hy
     rw [List.getElem?_map,Option.map_eq_some_iff] at hf
     obtain ⟨a,ha,rfl⟩:=hf
     obtain ⟨cs',h1,h2,_⟩:=hp i a ha
     obtain ⟨_,h3,h4⟩:=World.cells?_some h1
     have hj:j<sz:=by rw [<-henc a];exact (List.getElem?_eq_some_iff.1 hy).1
     have h5:=h4 j hj
     rw [Addr.add_add'] at h5
     have h6:cs'[j]? = some cs'[j]:=List.getElem?_eq_getElem (by omega)
     rw [h6] at h5
     have:=h2.2 g hg j _ y h6 hy
     exact ⟨_,h5,this.1,this.2⟩
    have hpos:0<l.length:=by omega
    obtain ⟨a0,ha0⟩:∃ a,l[0]? = some a:=⟨_,List.getElem?_eq_getElem hpos⟩
    have hf0:(l.map enc)[0]? = some (enc a0):=by rw [List.getElem?_map,ha0];rfl
    have he0:(enc a0)[0]? = some ((enc a0)[0]'(by rw [henc];exact h0)):=List.getElem?_eq_getElem _
    obtain ⟨u,hu,_,_⟩:=cell 0 0 _ _ hf0 he0
    have hspot:ad.spot=none:=by
     have:=World.cell?_spot hu
     simpa [Addr.add] using this
    have hblk:ad.block<w.heap.size:=by
     have hh:w.cell? ad=some u:=by simpa [Addr.add] using hu
     unfold World.cell? at hh
     split at hh
     ·rename_i c _ _ hc
      exact (Array.getElem?_eq_some_iff.1 hc).1
     ·cases hh
    have key:=VRel.slc_mk (g:=g) (w:=w) (ad:=ad) (c:=cap) (sz:=sz) (es:=l.map enc) (by simp [hll];exact hl) (fun f hf=>by obtain ⟨a,_,rfl⟩:=List.mem_map.1 hf;exact henc a) hspot (hg _ hblk) cell
    rw [List.length_map,hll] at key
    exact key
  ·obtain ⟨i,hi⟩:=List.mem_iff_getElem?.1 ha
   exact (hp i a hi).choose_spec.2.2
inductive RdrFs {H:Type} (eh:TypeId×Value->H) (P:Program) (w:World) (B:DataW H->Nat):List Field->Nat->(α:Type)->(α->List AVal)->(Nat->α->Prop)->Prop
 | nil (off:Nat):RdrFs eh P w B [] off Unit (fun _=>[]) (fun _ _=>True)
 | cons {f:Field} {fs:List Field} {off sz:Nat} {α β:Type} {enc:α->List AVal} {encs:β->List AVal} {good:Nat->α->Prop} {goods:Nat->β->Prop} (hf:f.offset=off) (hs:P.cellsOf f.type=sz) (hm:Mono good)
    (r:Rdr eh P w B f.type enc good) (t:RdrFs eh P w B fs (off+sz) β encs goods):RdrFs eh P w B (f :: fs) off (α×β) (fun p=>enc p.1++encs p.2) (fun k p=>good k p.1/\goods k p.2)
theorem RdrFs.read {fs:List Field} {off:Nat} {α:Type} {enc:α->List AVal} {good:Nat->α->Prop} (R:RdrFs eh P w B fs off α enc good) :
 ∀ {base:Nat} {spare:Nat->Bool} {held:Bool} {n k:Nat} {cs:List Value} {xs:List (DataW H×List MemPlace)},(∀ (i:Nat) (f:Field),fs[i]? = some f->DataW.trod eh P w base spare held n f.type ((cs.drop f.offset).take (P.cellsOf f.type))=xs[i]?) ->
   xs.length=fs.length->(∀ x∈xs,B x.1<=k) -> ∃ (a:α) (m:Nat),CellsR w ((cs.drop off).take m) (enc a)/\m=(fs.map fun f=>P.cellsOf f.type).sum/\good k a:=by
 induction R with
 | nil off=>intro base spare held n k cs xs _ _ _;exact ⟨(),0,⟨by simp,fun g _ j u c hu=>by simp at hu⟩,rfl,trivial⟩
 | cons hf hs hm r t ih=>
   intro base spare held n k cs xs h hl hb
   cases xs with
   | nil=>simp at hl
   | cons x xs=>
     have h0:=h 0 _ rfl
     rw [hf,hs] at h0
     obtain ⟨a,ha,hga⟩:=r _ _ _ _ _ _ h0
     obtain ⟨b,m,hbm,hms,hgb⟩:=ih (fun i f hi=>h (i+1) f (by simpa using hi)) (by simpa using hl) (fun y hy=>hb y (List.mem_cons_of_mem _ hy))
     subst hs
     refine ⟨(a,b),_+m,?_,by rw [List.map_cons,List.sum_cons,hms],hm _ _ _ (hb x List.mem_cons_self) hga,hgb⟩
     rw [List.take_add,List.drop_drop]
     exact ha.append hbm
theorem Rdr.struct {fs:Array Field} {α:Type} {enc:α->List AVal} {good:Nat->α->Prop} (hB:Bulk B) (ht:P.underlying t=some (.struct fs)) (hc:P.cellsOf t=(fs.toList.map fun f=>P.cellsOf f.type).sum) (R:RdrFs eh P w B fs.toList 0 α enc good):Rdr eh P w B t enc good:=by
 intro base spare held n cs x h
 obtain ⟨xs,n,rfl,rfl,hl,hxl,hx⟩:=DataW.trod_struct ht h
 obtain ⟨a,m,h1,h2,h3⟩:=R.read (k:=B (.agg (xs.map (·.1)))) (cs:=cs) (xs:=xs) (fun i f hi=>hx i f (by simpa using hi)) (by simpa using hxl) (fun y hy=>hB.part _ _ (List.mem_map.2 ⟨y,hy,rfl⟩))
 refine ⟨a,?_,h3⟩
 rw [List.drop_zero,h2,<-hc,<-hl,List.take_length] at h1
 exact h1
end
end Go.Sim
end
section
namespace Go.Sim
open Go
def g0 (w:World):Ghost:={ eta:=fun _=>0,bo:=fun _=>0,cap:=fun _=>0,sz:=fun _=>0,nxt:=0,fz:=fun b=>b<w.heap.size }
theorem HRel.g0 (w:World):HRel (fun _=>none) (g0 w) w:=⟨(fun r o hr=>by cases hr),(fun r r' o o' hr=>by cases hr),(fun b hb=>hb),(fun b ⟨r,hr,_⟩=>by cases hr),.none⟩
structure Old (w w':World):Prop where
 keep:∀ b,b<w.heap.size->w'.heap[b]? = w.heap[b]?
 os:w'.os=w.os
 output:w'.output=w.output
theorem PCalls.law {P:PG} {f:Nat} {as:List AVal} (hp:PCalls P f as (.bool true)) {w:World} {vs:Array Value} (GR:GRel P.gl (g0 w) w) (V:VRelL (g0 w) w vs as) :
 Calls P f vs w fun e w'=>e=.returned (.bool true)/\Old w w':=by
 refine ((hp _).2 (Sim.g0 w) w vs (HRel.g0 w) GR V).mono fun e w' ⟨v,r,h',g',he,⟨hr,_⟩,_,Vr,S⟩=>?_
 subst hr he
 rw [Vr.bool_inv]
 exact ⟨rfl,S.keep,S.os,S.output⟩
theorem PCalls.ofRun {P:PG} {f:Nat} {as:List AVal} {r:AVal} (hc:Callable P.p f)
 (h:∀ (g:Ghost) (w:World) (vs:Array Value),GRel P.gl g w->VRelL g w vs as->Calls P.p f vs w fun e w'=>∃ v,e=.returned v/\w'=w/\VRel g w v r):PCalls P f as r:=
 fun h0=>⟨hc,fun g w vs H GR V=>(h g w vs GR V).mono fun e w' ⟨v,he,hw,hv⟩=>by
  subst hw;exact ⟨v,r,h0,g,he,⟨rfl,rfl⟩,H,hv,GS.refl g _⟩⟩
theorem VRelL.two_inv {g:Ghost} {w:World} {vs:Array Value} {a b:AVal} (V:VRelL g w vs [a,b]):∃ u v,vs = #[u,v]/\VRel g w u a/\VRel g w v b:=by
 obtain ⟨hs,hv⟩:=V
 obtain ⟨l⟩:=vs
 match l,hs with
 | [u,v],_=>exact ⟨u,v,rfl,hv 0 u a rfl rfl,hv 1 v b rfl rfl⟩
theorem VRel.pinInt {w:World} {b:Nat} {k:IntKind} {m:Int} (h:w.cell? ⟨b,0,none⟩=some (.int k m)):VRel (g0 w) w (.pointer (some ⟨b,0,none⟩)) (.pin [.int k m]):=by
 refine .pin ⟨b,0,none⟩ _ (fun _=>.int k m) rfl ?_ (fun j a hj=>?_) (fun j a hj=>rfl) (fun j a hj=>?_)
 ·show b<w.heap.size
  unfold World.cell? at h
  split at h
  ·rename_i c _ _ hc
   exact (Array.getElem?_eq_some_iff.1 hc).1
  ·cases h
 ·cases j with
  | zero=>simpa [Addr.add] using h
  | succ j=>simp at hj
 ·cases j with
  | zero=>simp at hj;subst hj;exact .int k m
  | succ j=>simp at hj
section
variable {H:Type} {enc:TypeId×Value->H}
end
section
variable {H:Type} {enc:TypeId×Value->H} {P:Program} {w w':World}
theorem Old.sameAt (O:Old w w') {p:MemPlace} (hp:p.block<w.heap.size):w.sameAt w' p:=by
 cases p with
 | cell b off=>exact World.cell?_of_block (O.keep b hp)
 | map b=>exact O.keep b hp
theorem trodAll_old (O:Old w w') {base:Nat} {spare:Nat->Bool} {held:Bool}:∀ {ts:List TypeId} {vs:List Value} {ds:List (DataW H)} {ps:List MemPlace},DataW.TrodAll enc P w base spare held ts vs ds ps->DataW.TrodAll enc P w' base spare held ts vs ds ps
 | [],[],[],_,h=>h
 | _ :: _,_ :: _,_ :: _,_,⟨p,q,⟨n,h1⟩,h2,e⟩=>⟨p,q,⟨n,DataW.trod_carry n _ _ _ h1 fun x hx=>O.sameAt (DataW.trod_lt n _ _ _ h1 x hx)⟩,trodAll_old O h2,e⟩
theorem law_post {f:Func} {s:ChangeSpec} {args:Array Value} {ds:List (DataW H)} {before:List MemPlace} {tb:TypeId} (O:Old w w')
 (hW:DataW.Whole enc P f.params.toList s.vars false w args.toList ds [] before) (hv:s.vars=[])
 (h1:(s.fn H (ds++[])).results=[.lit (.bool true)]) (h2:(s.fn H (ds++[])).args=ds) (h3:(s.fn H (ds++[])).vars=[])
 (hr:f.resultTypes = #[tb]) (htb:P.underlying tb=some .bool) (hl:laidOutB P=true) (hm:mapsRowed P=true) (hs:((List.range P.types.size).all fun t=>match P.underlying t with | some (.slice e)=>decide (0<P.cellsOf e) | _=>true)=true)
 (hT:∀ t∈f.params.toList,t<P.types.size):s.post enc P f false true false false w args (.bool true) w':=by
 obtain ⟨p,q,hA,hV,rfl,_,_⟩:=id hW
 rw [hv] at hV
 have hq:q=[]:=by cases q with | nil=>rfl | cons _ _=>simp [DataW.TrodVars] at hV
 subst hq
 refine ⟨ds,[],_,[],p,[],hW,?_,?_,?_,?_,fun h=>by cases h⟩
 ·rw [h1,hr]
  exact ⟨[],[],⟨1,by simp [DataW.trod,Value.cells,htb]⟩,rfl,rfl⟩
 ·rw [h2]
  refine trodAll_old O (DataW.TrodAll.respare (kids_rows hl hm) (fun t e ht=>slices_full_of P hs t e ht) hT hA fun x hx=>?_)
  simpa using hA.lt x hx
 ·rw [h3,hv];rfl
 ·exact World.keptBut_mono (fun _ h=>h.elim) (World.keptBut_none_iff.2 ⟨O.os,O.output,O.keep⟩)
theorem arg_one {r:Reach} {base:Nat} {t:TypeId} {v:Value} {a:AVal} {d:TypeDesc} (hu:P.underlying t=some d) (hd:match d with | .slice _ | .int _ | .bool | .string=>True | _=>False) (hv:Value.okWide P w r base t v) (h:CellsR w v.cells.toList [a]):VRel (g0 w) w v a:=by
 have hc:v.cells = #[v]:=by
  unfold Value.okWide at hv
  cases d <;> simp at hd <;> simp only [hu,Cell.okWide,Cell.ok] at hv <;> cases v <;> first | rfl | (simp at hv)
 rw [hc] at h
 exact (h.2 (g0 w) (fun _ h=>h) 0 v a rfl rfl).2
theorem arg_agg {r:Reach} {base:Nat} {t:TypeId} {v:Value} {as:List AVal} {fs:Array Field} (hu:P.underlying t=some (.struct fs)) (hv:Value.okWide P w r base t v) (h:CellsR w v.cells.toList as):VRel (g0 w) w v (.agg as):=by
 unfold Value.okWide at hv
 simp only [hu] at hv
 obtain ⟨cs,rfl,_⟩:=hv
 have hc:(Value.agg cs).cells=cs:=rfl
 rw [hc] at h
 refine .agg cs as (by simpa using h.1) (fun j u hj=>?_) fun j u c hj hc=>(h.2 (g0 w) (fun _ h=>h) j u c (by simpa using hj) hc).2
 have hjl:j<as.length:=by rw [<-h.1];simpa using (Array.getElem?_eq_some_iff.1 hj).1
 exact (h.2 (g0 w) (fun _ h=>h) j u _ (by simpa using hj) (List.getElem?_eq_getElem hjl)).1
inductive VAll (g:Ghost) (w:World):List Value->List AVal->Prop
 | nil:VAll g w [] []
 | cons {v:Value} {a:AVal} {vs:List Value} {as:List AVal} (h:VRel g w v a) (t:VAll g w vs as):VAll g w (v :: vs) (a :: as)
theorem VAll.rel {g:Ghost} {w:World} {vs:List Value} {as:List AVal} (h:VAll g w vs as):VRelL g w vs.toArray as:=by
 induction h with
 | nil=>exact ⟨rfl,fun j u a hu=>by simp at hu⟩
 | cons h t ih=>
   refine ⟨by simpa using ih.1,fun j u a hu ha=>?_⟩
   cases j with
   | zero=>simp at hu ha;subst hu ha;exact h
   | succ j=>exact ih.2 j u a (by simpa using hu) (by simpa using ha)
end
end Go.Sim
end
section
set_option linter.defProp false
namespace Go.Sim
open Go
abbrev o (d:Nat) (i:SI):SOp:=⟨some d,i,none⟩
theorem o_eq (d:Nat) (i:SI):o d i=⟨some d,i,none⟩:=rfl
def VC1:=(And.intro (And.intro (And.intro (And.intro (And.intro @vc_skip @vc_reg) (And.intro @vc_dreg @vc_seq)) (And.intro (And.intro @vc_cond @vc_block) (And.intro @vc_loop @vc_exit))) (And.intro (And.intro (And.intro @vc_range @setPs_cons) (And.intro @setPs_nil @roundK_normal)) (And.intro (And.intro @roundK_exit @roundK_ret) (And.intro @vc_ret @thenK_normal)))) @o_eq)
def VC2:=(And.intro (And.intro (And.intro (And.intro @thenK_exit @thenK_ret) (And.intro @blockK_normal @blockK_ret)) (And.intro (And.intro @blockK_exit @vcOps_nil) (And.intro @vcOps_cons @vcD_nil))) (And.intro (And.intro (And.intro @vcD_false @vcD_true) (And.intro @vcV_none @vcV_some)) (And.intro (And.intro @gateX_bool @gateX_tup) (And.intro @Sp_bool @Sp_tup))))
def VC3:=(And.intro (And.intro (And.intro (And.intro @retK_normalS @retK_retS) (And.intro @vcI_mv @vcI_pick)) (And.intro (And.intro @vcI_bin @vcI_eqs) (And.intro @vcI_eqb @vcI_un))) (And.intro (And.intro (And.intro @vcI_cvi @vcI_idc) (And.intro @vcI_fld @vcI_fldA)) (And.intro (And.intro @vcI_idxA @vcI_idxS) (And.intro @vcI_ld @vcI_ldm))))
def VC4:=(And.intro (And.intro (And.intro (And.intro @vcI_slS @vcI_slA) (And.intro @vcI_slM @vcI_ext)) (And.intro (And.intro @vcI_bld @vcI_bldF) (And.intro @vcI_len @vcI_lenS))) (And.intro (And.intro (And.intro @vcI_min2 @vcI_max2) (And.intro @vcI_mkf @vcI_isnil)) (And.intro (And.intro @vcI_bldR @vcI_box) (And.intro @vcI_boxF @vcI_new))))
def VC5:=(And.intro (And.intro (And.intro (And.intro @vcI_newnil @vcI_st) (And.intro @vcI_app @vcI_appS)) (And.intro (And.intro @vcI_appIn @vcI_appF) (And.intro @vcI_frz @vcI_slX))) (And.intro (And.intro (And.intro @vcI_mks @vcI_copy) (And.intro @vcI_clear @vcI_b2s)) (And.intro (And.intro @vcI_usd @vcI_ustr) (And.intro @vcI_call @vcI_pcall))))
def VC6:=(And.intro (And.intro (And.intro (And.intro @ev_t @ev_c) (And.intro @evO_some @evO_none)) (And.intro (And.intro @setD_some @setD_none) (And.intro @upd_apply @keepR_nil))) (And.intro (And.intro (And.intro @keepR_cons @dropR_nil) (And.intro @dropR_cons @List.contains_cons.{0})) (And.intro (And.intro @List.contains_nil.{0} @Bool.or_false) (And.intro @Bool.false_or @Bool.or_true))))
def VC7:=(And.intro (And.intro (And.intro (And.intro @Bool.true_or @Option.getD_some.{0}) (And.intro @upd_upd @TV)) (And.intro (And.intro @Bool.and_true @Bool.false_xor) (And.intro @Bool.true_xor @Bool.xor_false))) (And.intro (And.intro (And.intro @natCast_succ_sub @Int.toNat_natCast_add_one) (And.intro @List.map_cons.{0,0} @List.map_nil.{0,0})) (And.intro (And.intro @aLen_sl @okLen_sl) (And.intro @okIdxA_sl @aIdxA_sl))))
def VC8:=(And.intro (And.intro (And.intro (And.intro @aSlA_sl @okSlA_sl) (And.intro @Rd_sl @nil_sl)) (And.intro (And.intro @wrap_i64 @aBin_add) (And.intro @okBin_add @aBin_sub))) (And.intro (And.intro (And.intro @okBin_sub @aBin_mul) (And.intro @okBin_mul @aBin_quo)) (And.intro (And.intro @okBin_quo @aBin_rem) (And.intro @okBin_rem @aBin_shl))))
def VC9:=(And.intro (And.intro (And.intro (And.intro @okBin_shl @aBin_shr) (And.intro @okBin_shr @aBin_eql)) (And.intro (And.intro @okBin_eql @aBin_neq) (And.intro @okBin_neq @aBin_lss))) (And.intro (And.intro (And.intro @okBin_lss @aBin_leq) (And.intro @okBin_leq @aBin_gtr)) (And.intro (And.intro @okBin_gtr @aBin_geq) (And.intro @okBin_geq @aBin_and))))
def VC10:=(And.intro (And.intro (And.intro (And.intro @okBin_and @aBin_or) (And.intro @okBin_or @aBin_xor)) (And.intro (And.intro @okBin_xor @aBin_andNot) (And.intro @okBin_andNot @aBinS_add))) (And.intro (And.intro (And.intro @okBinS_add @aBinS_eql) (And.intro @okBinS_eql @aBinS_neq)) (And.intro (And.intro @okBinS_neq @aBinS_lss) (And.intro @okBinS_lss @aBinS_geq))))
def VC11:=(And.intro (And.intro (And.intro (And.intro @okBinS_geq @aBinS_gtr) (And.intro @okBinS_gtr @aBinS_leq)) (And.intro (And.intro @okBinS_leq @aUn_not) (And.intro @okUn_not @aUn_neg))) (And.intro (And.intro (And.intro @okUn_neg @aUn_xor) (And.intro @okUn_xor @aEqb_bool)) (And.intro (And.intro @okEqb_bool @aEqs_agg) (And.intro @okEqs_agg @aCvi_int))))
def VC12:=(And.intro (And.intro (And.intro (And.intro @okCvi_int @aPick_bool) (And.intro @okPick_bool @aFld_agg)) (And.intro (And.intro @okFld_agg @cutV_true) (And.intro @cutV_false @aFldA_pin))) (And.intro (And.intro (And.intro @okFldA_pin @aFldA_ptr) (And.intro @okFldA_ptr @deVp_vp)) (And.intro (And.intro @deVp_ptr @deVp_pin) (And.intro @aFldA_vp @okFldA_vp))))
def VC13:=(And.intro (And.intro (And.intro (And.intro @okLd_vp @aLd_vp) (And.intro @nil_vp @cells_vp)) (And.intro (And.intro @isV_vp @stE_vp) (And.intro @aIdxA_osl @okIdxA_osl))) (And.intro (And.intro (And.intro @aIdxA_slc @okIdxA_slc) (And.intro @aIdxS_str @okIdxS_str)) (And.intro (And.intro @aLd_pin @okLd_pin) (And.intro @okLd_ptr @aLd_ptr))))
def VC14:=(And.intro (And.intro (And.intro (And.intro @ldO_some @aExt_tup) (And.intro @okExt_tup @aLen_osl)) (And.intro (And.intro @okLen_osl @aLen_slc) (And.intro @okLen_slc @aLen_emp))) (And.intro (And.intro (And.intro @okLen_emp @aLenS_str) (And.intro @okLenS_str @aMin_int)) (And.intro (And.intro @aMax_int @ok2i_int) (And.intro @aSlS_str @okSlS_str))))
def VC15:=(And.intro (And.intro (And.intro (And.intro @loOf_int @loOf_none) (And.intro @hiOf_int @hiOf_none)) (And.intro (And.intro @okB_int @okB_none) (And.intro @aSlA_osl @okSlA_osl))) (And.intro (And.intro (And.intro @aSlA_emp @okSlA_emp) (And.intro @okSlM_osl @nil_slc)) (And.intro (And.intro @nil_emp @nil_osl) (And.intro @nil_snil @nil_ptr))))
def VC16:=(And.intro (And.intro (And.intro (And.intro @nil_pin @nil_pnil) (And.intro @nil_fn @nil_fnil)) (And.intro (And.intro @stE_ptr @stE_pin) (And.intro @aIdxG_pin @aR2s_int))) (And.intro (And.intro (And.intro @blockK_goto @gotoK_exit) (And.intro @gotoK_goto @gotoK_normal)) (And.intro (And.intro @gotoK_ret @noGoK_exit) (And.intro @noGoK_normal @noGoK_ret))))
def VC17:=(And.intro (And.intro (And.intro (And.intro @okIdxG_pin @thenK_goto) (And.intro @vcI_idxG @vcI_r2s)) (And.intro (And.intro @vc_goto @vc_label) (And.intro @vc_scope @appE_emp))) (And.intro (And.intro (And.intro @appE_osl @appFE_emp) (And.intro @appFE_osl @frzE_emp)) (And.intro (And.intro @frzE_slc @frzE_sl) (And.intro @frzE_osl @Rd_slc))))
def VC18:=(And.intro (And.intro (And.intro (And.intro @Rd_emp @cells_agg) (And.intro @cells_int @isV_int)) (And.intro (And.intro @cells_bool @isV_bool) (And.intro @cells_str @isV_str))) (And.intro (And.intro (And.intro @cells_slc @isV_slc) (And.intro @cells_emp @isV_emp)) (And.intro (And.intro @cells_osl @isV_osl) (And.intro @cells_ptr @isV_ptr))))
def VC19:=(And.intro (And.intro (And.intro (And.intro @cells_pin @isV_pin) (And.intro @cells_fn @isV_fn)) (And.intro (And.intro @isV_agg @cells_sl) (And.intro @isV_sl @callE_fn))) (And.intro (And.intro (And.intro @allOK_nil @allOK_cons) (And.intro @resOK_tmp @resOK_cell)) (And.intro (And.intro @resV_tmp @resV_cell) (And.intro @retV_one @retV_two))))
def VC20:=(And.intro (And.intro (And.intro (And.intro @retV_nil @initE_at) (And.intro @initE_gl @Br_true)) (And.intro (And.intro @Br_false @condOn_br) (And.intro @Rd_oslE @appInE_osl))) (And.intro (And.intro (And.intro @slXE_osl @mksE_int) (And.intro @copyE_osl @clearE_osl)) (And.intro (And.intro @usdE_emp @usdE_osl) (And.intro @ustrE_anyp @ustrE_ptr))))
def VC21:=(And.intro (And.intro (And.intro (And.intro @List.set_cons_zero.{0} @List.set_cons_succ.{0}) (And.intro @List.set_nil.{0} @List.getD_cons_zero.{0})) (And.intro (And.intro @List.getD_cons_succ.{0} @List.headD_cons.{0}) (And.intro @List.drop_zero.{0} @List.drop_succ_cons.{0}))) (And.intro (And.intro (And.intro @List.take_succ_cons.{0} @List.take_zero.{0}) (And.intro @List.length_cons.{0} @List.length_nil.{0})) (And.intro (And.intro @List.length_map.{0,0} @List.nil_append.{0}) (And.intro @List.cons_append.{0} @List.append_nil.{0}))))
def VC22:=(And.intro (And.intro (And.intro (And.intro @List.mem_cons.{0} @List.not_mem_nil.{0}) (And.intro @or_false @or_true)) (And.intro (And.intro @Int.toNat_zero @List.take_length.{0}) (And.intro @List.isEmpty_cons.{0} @List.isEmpty_nil.{0}))) (And.intro (And.intro (And.intro @Nat.le_refl @Int.toNat_natCast) (And.intro @true_and @and_true)) (And.intro (And.intro @Bool.true_eq_false @Bool.false_eq_true) (And.intro @Bool.not_true @Bool.not_false))))
def VC23:=(And.intro (And.intro (And.intro (And.intro @false_implies @true_implies) (And.intro @not_true_eq_false @not_false_eq_true)) (And.intro (And.intro @AVal.int.injEq @AVal.bool.injEq) (And.intro @AVal.str.injEq @Option.some.injEq.{0}))) (And.intro (And.intro (And.intro @imp_self @and_self) (And.intro @Nat.zero_add @Nat.add_zero)) (And.intro (And.intro @Nat.sub_zero @vcI_mkm) (And.intro @vcI_mup @vcI_lkp))))
def VC24:=(And.intro (And.intro (And.intro (And.intro @mupE_mpr @okLkp_mpr) (And.intro @aLkp_mpr @entsOf_some)) (And.intro (And.intro @isM_m @ents_m) (And.intro @setM_m @isKeyA_int))) (And.intro (And.intro (And.intro @isKeyA_str @isV_mpr) (And.intro @cells_mpr @aFound_int)) (And.intro (And.intro @aFound_int2 @aFound_set) (And.intro @all_eM @mFind_eM))))
def VC25:=(And.intro (And.intro (And.intro @mPut_eM @all_eMs) (And.intro @mFind_eMs (And.intro @mPut_eMs @OTy.lit))) (And.intro (And.intro @vcI_s2b (And.intro @s2bE_str @vcI_rng)) (And.intro @rngE_str (And.intro @vcI_nxt @nxtE_ptr))))
def VCA:=(And.intro (And.intro (And.intro (And.intro VC1 (And.intro VC2 VC3)) (And.intro VC4 (And.intro VC5 VC6))) (And.intro (And.intro VC7 (And.intro VC8 VC9)) (And.intro VC10 (And.intro VC11 VC12)))) (And.intro (And.intro (And.intro VC13 (And.intro VC14 VC15)) (And.intro VC16 (And.intro VC17 VC18))) (And.intro (And.intro VC19 (And.intro VC20 VC21)) (And.intro (And.intro VC22 VC23) (And.intro VC24 VC25)))))
section
variable {P:PG} {g:Ghost} {w:World} {h h0 h1:Q2}
def Ghost.frzs (g:Ghost) (h1:Q2):Ghost:={ g with fz:=fun b=>g.fz b \/ ∃ r o,h1 r=some o/\g.cap r≠0/\g.eta r=b }
theorem GS.frzs (H:HRel h g w) (hs:Sub h1 h):GS g w (g.frzs h1) w where
 nxt:=Nat.le_refl _
 eta _ _:=rfl
 bo _ _:=rfl
 cap _ _:=rfl
 sz _ _:=rfl
 fz b hb:=.inl hb
 keep _ _:=rfl
 os:=rfl
 tape:=rfl
 output:=rfl
 size:=Nat.le_refl _
 own _ _ _:=rfl
 new _ _ ho:=ho
 fzn b _ hn hf:=by
  rcases hf with hf | ⟨r,o,hr,hc,he⟩
  ·exact hf
  ·exact absurd ⟨r,(H.obj r o (hs r o hr)).lt,hc,he⟩ hn
 fzc b hf:=by
  rcases hf with hf | ⟨r,o,hr,hc,he⟩
  ·exact .inl hf
  ·refine .inr fun ⟨ob,hob,hcl⟩=>?_
   obtain ⟨cur,t,f,hw⟩:=H.ow b ⟨r,(H.obj r o (hs r o hr)).lt,hc,he⟩
   rw [hw] at hob
   cases hob
   simp [Obj.isCells] at hcl
theorem HRel.frzs (H:HRel h g w) (h0s:Sub h0 h) (h1s:Sub h1 h) (hd:∀ r o,h1 r=some o->h0 r=none):HRel h0 (g.frzs h1) w:=by
 have S:=GS.frzs H h1s
 refine ⟨fun r o hr=>?_,fun r r' o o' hr hr'=>H.inj r r' o o' (h0s r o hr) (h0s r' o' hr'),fun b hb=>?_,fun b hb=>H.ow b hb,H.mob.step S fun _ _ _ ⟨sz,cs,ht⟩=>⟨sz,cs,h0s _ _ ht⟩⟩
 ·have O:=H.obj r o (h0s r o hr)
  refine ⟨O.lt,O.sz,O.pos,O.len,O.le,?_⟩
  by_cases hc0:g.cap r=0
  ·exact .inl hc0
  rcases O.block with hc | ⟨hlt,hnf,cur,hcur,hsz,hcell⟩
  ·exact .inl hc
  ·refine .inr ⟨hlt,?_,cur,hcur,hsz,fun i j e a he ha=>?_⟩
   ·rintro (hf | ⟨r',o',hr',hc',he'⟩)
    ·exact hnf hf
    ·have e:=H.inj r' r o' o (h1s r' o' hr') (h0s r o hr) hc' hc0 he'
     subst e
     rw [hd r' o' hr'] at hr
     cases hr
   ·obtain ⟨u,hu,h1',h2⟩:=hcell i j e a he ha
    exact ⟨u,hu,h1',h2.step S.toGStep⟩
 ·rcases hb with hb | ⟨r,o,hr,hc,he⟩
  ·exact H.fz b hb
  ·rcases (H.obj r o (h1s r o hr)).block with h0 | ⟨hlt,_⟩
   ·exact absurd h0 hc
   ·rw [<-he];exact hlt
theorem Vw.relF (H:HRel h g w) (hs:Sub h1 h) {a b:AVal} (hv:Vw h1 a b):∀ {v:Value},VRel g w v a->VRel (g.frzs h1) w v b:=by
 have S:=GS.frzs H hs
 induction hv with
 | refl a=>intro v V;exact V.step S.toGStep
 | emp=>
   intro v V
   obtain ⟨A,rfl,_⟩:=V.emp_inv
   exact .slc0 A 0
 | agg as bs hl hh ih=>
   intro v V
   obtain ⟨vs,rfl,hvl,h1,h2⟩:=V.agg_inv
   refine .agg vs bs (hvl.trans hl) h1 fun j u b hu hb=>?_
   have hj:j<as.length:=by rw [hl];exact (List.getElem?_eq_some_iff.1 hb).1
   exact ih j _ b (List.getElem?_eq_getElem hj) hb (h2 j u _ hu (List.getElem?_eq_getElem hj))
 | slc es fs hl hle hh ih=>
   intro v V
   obtain ⟨A,c,rfl,hin⟩:=V.slc_inv
   by_cases hp:0<es.length
   ·obtain ⟨hc,ad,sz,rfl,hsp,hf,hsz,hcell⟩:=hin hp
    rw [hl]
    refine .slc_mk (sz:=sz) (by omega) (fun f hf'=>?_) hsp (.inl hf) fun i j f x hi hx=>?_
    ·obtain ⟨i,hi⟩:=List.mem_iff_getElem?.1 hf'
     have hil:i<es.length:=by rw [hl];exact (List.getElem?_eq_some_iff.1 hi).1
     rw [<-hle i _ f (List.getElem?_eq_getElem hil) hi]
     exact hsz _ (List.getElem_mem hil)
    ·have hil:i<es.length:=by rw [hl];exact (List.getElem?_eq_some_iff.1 hi).1
     have he:=List.getElem?_eq_getElem hil
     have hjl:j<es[i].length:=by rw [hle i _ f he hi];exact (List.getElem?_eq_some_iff.1 hx).1
     obtain ⟨u,hu,h1,h2⟩:=hcell i j _ _ he (List.getElem?_eq_getElem hjl)
     exact ⟨u,hu,h1,ih i j _ f _ x he hi (List.getElem?_eq_getElem hjl) hx h2⟩
   ·have h0:es.length=0:=by omega
    have hfs:fs=[]:=List.eq_nil_of_length_eq_zero (by omega)
    subst hfs
    rw [h0]
    exact .slc0 A c
 | osl r sz i n o fs hr hle hl hll hh ih=>
   intro v V
   obtain ⟨hrl,hsz,hc⟩:=V.osl_inv
   have O:=H.obj r o (hs r o hr)
   by_cases hn:n=0
   ·subst hn
    have hfs:fs=[]:=List.eq_nil_of_length_eq_zero hl
    subst hfs
    rcases hc with ⟨rfl,_⟩ | ⟨cap,off,rfl,_⟩
    ·exact .slc0 _ _
    ·exact .slc0 _ _
   ·rcases hc with ⟨_,_,h0,_⟩ | ⟨cap,off,rfl,hnc,hm,hi,hoff⟩
    ·exact absurd h0 hn
    ·have hof:=hoff (by omega)
     rcases O.block with h0 | ⟨hlt,_,cur,hcur,_,hcell⟩
     ·have:=O.le;omega
     ·rw [<-hl]
      refine .slc_mk (sz:=sz) (by omega) hll rfl (.inr ⟨r,o,hr,by have:=O.le;omega,rfl⟩) fun k j f x hk hx=>?_
      have hkn:k<n:=by rw [<-hl];exact (List.getElem?_eq_some_iff.1 hk).1
      have hki:i+k<o.es.length:=by omega
      have he:=List.getElem?_eq_getElem hki
      have hjl:j<o.es[i+k].length:=by
       rw [O.len _ (List.getElem_mem hki),<-O.sz,hsz,<-hll f (List.mem_of_getElem? hk)]
       exact (List.getElem?_eq_some_iff.1 hx).1
      obtain ⟨u,hu,h1,h2⟩:=hcell _ j _ _ he (List.getElem?_eq_getElem hjl)
      refine ⟨u,?_,h1,ih k j _ f _ x he hk (List.getElem?_eq_getElem hjl) hx h2⟩
      rw [Addr.add_lit,hcur.cell,<-hu,hof,<-O.sz,hsz,Nat.add_mul]
      congr 1;omega
 | ptr r i j o fs hr hi hl hh ih=>
   intro v V
   obtain ⟨hrl,rfl⟩:=V.ptr_inv
   have O:=H.obj r o (hs r o hr)
   have hcap:g.cap r≠0:=by have:=O.le;omega
   refine VRel.pin_mk rfl (.inr ⟨r,o,hr,hcap,rfl⟩) fun k b hb=>?_
   have hkl:k<((o.es.getD i []).drop j).length:=by
    have:=(List.getElem?_eq_some_iff.1 hb).1
    rw [List.length_drop]
    omega
   have hka:=List.getElem?_eq_getElem hkl
   obtain ⟨u,hu,h1,h2⟩:=O.cells hi j k _ hka
   exact ⟨u,hu,h1,ih k _ b hka hb h2⟩
 | vp r j b hh ih=>intro v V;exact ih V.deVp
inductive VwT (h:Q2):AVal->AVal->Prop
 | one (a b:AVal) (hv:Vw h a b):VwT h a b
 | tup (as bs:List AVal) (hl:as.length=bs.length) (hh:∀ (j:Nat) (a b:AVal),as[j]? = some a->bs[j]? = some b->Vw h a b):VwT h (.tup as) (.tup bs)
theorem VwT.relF (H:HRel h g w) (hs:Sub h1 h) {a b:AVal} (hv:VwT h1 a b) {v:Value} (V:VRel g w v a):VRel (g.frzs h1) w v b:=by
 cases hv with
 | one a b hv=>exact hv.relF H hs V
 | tup as bs hl hh=>
   obtain ⟨vs,rfl,hvl,h2⟩:=V.tup_inv
   refine .tup vs bs (hvl.trans hl) fun j u b hu hb=>?_
   have hj:j<as.length:=by rw [hl];exact (List.getElem?_eq_some_iff.1 hb).1
   exact (hh j _ b (List.getElem?_eq_getElem hj) hb).relF H hs (h2 j u _ hu (List.getElem?_eq_getElem hj))
theorem DCalls.outV {f:Nat} {args:List AVal} {K0 K:AVal->Q2->Prop} (hd:DCalls P f args h K0)
 (hk:∀ a h',K0 a h' -> ∃ h0 h1 b,Sub h0 h'/\Sub h1 h'/\(∀ r o,h1 r=some o->h0 r=none)/\VwT h1 a b/\K b h0):DCalls P f args h K:=by
 refine ⟨hd.1,fun g w vs H GR V=>(hd.2 g w vs H GR V).mono fun e w' ⟨v',a,h',g',he,k0,H',Va,S⟩=>?_⟩
 obtain ⟨h0,h1,b,s0,s1,hdj,hv,k⟩:=hk a h' k0
 exact ⟨v',b,h0,_,he,k,H'.frzs s0 s1 hdj,hv.relF H' s1 Va,S.trans (GS.frzs H' s1)⟩
def newH (h h':Q2):Q2:=fun r=>match h r with
 | none=>h' r
 | some _=>none
theorem UJ {h h':Q2} {r:Nat} (hr:h r=none):newH h h' r=h' r:=by unfold newH;rw [hr]
theorem newH_sub (h h':Q2):Sub (newH h h') h':=fun r o hr=>by
 unfold newH at hr
 cases hh:h r with
 | none=>rw [hh] at hr;exact hr
 | some x=>rw [hh] at hr;cases hr
theorem newH_disj (h h':Q2):∀ r o,newH h h' r=some o->h r=none:=fun r o hr=>by
 unfold newH at hr
 cases hh:h r with
 | none=>rfl
 | some x=>rw [hh] at hr;cases hr
theorem PCalls.outV {f:Nat} {args:List AVal} {v:AVal} (hd:∀ h,DCalls P f args h fun a h'=>Sub h h'/\VwT (newH h h') a v):PCalls P f args v:=fun h=>
 (hd h).outV fun _ h' ⟨S,hv⟩=>⟨h,newH h h',v,S,newH_sub h h',newH_disj h h',hv,rfl,rfl⟩
theorem Vw.agg' {as bs:List AVal} (hh:F2 (Vw h) as bs):Vw h (.agg as) (.agg bs):=.agg as bs hh.len hh.get
theorem VwT.tup' {as bs:List AVal} (hh:F2 (Vw h) as bs):VwT h (.tup as) (.tup bs):=.tup as bs hh.len hh.get
theorem Vw.osl0 {r sz n:Nat} {o:AObj} {fs:List (List AVal)} (hr:h r=some o) (hl:fs.length=n) (hle:n<=o.es.length) (hll:∀ f∈fs,f.length=sz) (hh:F2 (F2 (Vw h)) (o.es.take n) fs):Vw h (.osl r sz 0 n) (.slc fs):=by
 refine .osl r sz 0 n o fs hr (by omega) hl hll fun k j e f a b he hf ha hb=>?_
 rw [Nat.zero_add] at he
 have hk:k<n:=by rw [<-hl];exact (List.getElem?_eq_some_iff.1 hf).1
 have he':(o.es.take n)[k]? = some e:=by rw [List.getElem?_take,if_pos hk];exact he
 exact (hh.get k e f he' hf).get j a b ha hb
theorem F2.refl {α:Type} {R:α->α->Prop} (hr:∀ a,R a a):∀ l:List α,F2 R l l
 | []=>.nil
 | a :: l=>.cons (hr a) (F2.refl hr l)
end
end Go.Sim
end
