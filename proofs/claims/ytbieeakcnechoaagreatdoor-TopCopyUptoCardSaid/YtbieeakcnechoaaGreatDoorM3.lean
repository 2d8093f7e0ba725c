/- Texts of this claim, one behind the other. -/
import Derived.Test.YtbieeakcnechoaaGreatDoorM2
import Derived.ChangeArms
import Derived.RowKit3
import Derived.ReadAgain
import Derived.OpenShut
import Derived.JoinedCond
import Derived.Shelf.Vars
set_option maxHeartbeats 4000000
set_option maxRecDepth 100000
section
namespace Go.Sim
open Go
section
variable {P:PG} {e:Env} {h:Z2} {K:AVal->Z2->Prop}
def pcallE (P:PG) (f:Nat) (args:List AVal) (K:AVal->Prop):Prop:=∃ v,PCalls P f args v/\K v
inductive Wit {α:Sort _} (a:α):Type
 | mk:Wit a
inductive Wit2 (A B:Prop):Type
 | mk:Wit2 A B
def Hd {κ:Type} (F:(κ->Prop)) (K:κ) (_:Wit K):Prop:=F K
def condW (v:AVal) (A B:Prop) (_:Wit2 A B):Prop:=condOn v A B
def KK (v:AVal) (b:Bool) (A B:Prop) (_:Wit2 A B):Prop:=
 match JY v b with
 | some t=>if t=true then A else B
 | none=>False
theorem gateX_bool (t b:Bool) (A B:Prop) (w:Wit2 A B):KK (.bool t) b A B w=if t=b then A else B:=by
 simp [KK,JY]
theorem gateX_tup (as:List AVal) (b:Bool) (A B:Prop) (w:Wit2 A B):KK (.tup as) b A B w=B:=by
 simp [KK,JY]
variable {w:Wit K}
theorem vcI_mv (x:SX):Hd (vcI P (.mv x) e h) K w=(K (ev e x) h):=by simp [Hd,vcI,fok,fop]
theorem vcI_pick (c a b:SX):Hd (vcI P (.pick c a b) e h) K w=((okPick (ev e c)/\K (aPick (ev e c) (ev e a) (ev e b)) h)):=rfl
theorem vcI_bin (op:BinOp) (x y:SX):Hd (vcI P (.bin op x y) e h) K w=((V7 op (ev e x) (ev e y)/\K (QX op (ev e x) (ev e y)) h)):=rfl
theorem vcI_eqs (n:Bool) (ks:List Nat) (x y:SX):Hd (vcI P (.eqs n ks x y) e h) K w=((okEqs ks (ev e x) (ev e y)/\K (aEqs n (ev e x) (ev e y)) h)):=rfl
theorem vcI_eqb (n:Bool) (x y:SX):Hd (vcI P (.eqb n x y) e h) K w=((okEqb (ev e x) (ev e y)/\K (aEqb n (ev e x) (ev e y)) h)):=rfl
theorem vcI_un (op:UnOp) (x:SX):Hd (vcI P (.un op x) e h) K w=((okUn op (ev e x)/\K (aUn op (ev e x)) h)):=rfl
theorem vcI_r2s (x:SX):Hd (vcI P (.r2s x) e h) K w=((okCvi (ev e x)/\K (aR2s (ev e x)) h)):=rfl
theorem aR2s_int (k:IntKind) (r:Int):aR2s (.int k r)=.str (Utf8.encode r).data.toList:=rfl
theorem vcI_cvi (k:IntKind) (x:SX):Hd (vcI P (.cvi k x) e h) K w=((okCvi (ev e x)/\K (aCvi k (ev e x)) h)):=rfl
theorem vcI_idc (x:SX):Hd (vcI P (.idc x) e h) K w=(((∃ l,ev e x=.str l)/\K (ev e x) h)):=rfl
theorem vcI_fld (o s:Nat) (b:Bool) (x:SX):Hd (vcI P (.fld o s b x) e h) K w=((okFld o s b (ev e x)/\K (aFld o s b (ev e x)) h)):=rfl
theorem vcI_fldA (o:Nat) (x:SX):Hd (vcI P (.fldA o x) e h) K w=((okFldA (ev e x)/\K (aFldA o (ev e x)) h)):=rfl
theorem vcI_idxG (s:Nat) (x i:SX):Hd (vcI P (.idxG s x i) e h) K w=((okIdxG s (ev e x) (ev e i)/\K (aIdxG (ev e x) (ev e i)) h)):=rfl
theorem vcI_idxA (s:Nat) (x i:SX):Hd (vcI P (.idxA s x i) e h) K w=((okIdxA s (ev e x) (ev e i)/\K (aIdxA (ev e x) (ev e i)) h)):=rfl
theorem vcI_idxS (x i:SX):Hd (vcI P (.idxS x i) e h) K w=((okIdxS (ev e x) (ev e i)/\K (aIdxS (ev e x) (ev e i)) h)):=rfl
theorem vcI_ldm (t s:Nat) (b:Bool) (x:SX):Hd (vcI P (.ldm t s b x) e h) K w=(((okLd h s b (ev e x)/\aLd h s b (ev e x)=e t)/\K (aLd h s b (ev e x)) h)):=rfl
theorem vcI_ld (s:Nat) (b:Bool) (x:SX):Hd (vcI P (.ld s b x) e h) K w=((okLd h s b (ev e x)/\K (aLd h s b (ev e x)) h)):=rfl
theorem vcI_slS (x:SX) (lo hi:Option SX):Hd (vcI P (.slS x lo hi) e h) K w=((okSlS (ev e x) (evO e lo) (evO e hi)/\K (aSlS (ev e x) (evO e lo) (evO e hi)) h)):=rfl
theorem vcI_slA (s:Nat) (x:SX) (lo hi:Option SX):Hd (vcI P (.slA s x lo hi) e h) K w=((okSlA s (ev e x) (evO e lo) (evO e hi)/\K (aSlA (ev e x) (evO e lo) (evO e hi)) h)):=rfl
theorem vcI_slM (s:Nat) (x:SX) (lo hi mx:Option SX):Hd (vcI P (.slM s x lo hi mx) e h) K w=((okSlM (ev e x) (evO e lo) (evO e hi) (evO e mx)/\K .dead h)):=rfl
theorem vcI_ext (x:SX) (i:Nat):Hd (vcI P (.ext x i) e h) K w=((okExt i (ev e x)/\K (aExt i (ev e x)) h)):=rfl
theorem vcI_bld (z:List AVal) (ps:List (Nat×Nat×SX)):Hd (vcI P (.bld z ps) e h) K w=((Q7 z.length (ps.map fun p=>(p.1,p.2.1,ev e p.2.2))/\K (.agg (Q8 z (ps.map fun p=>(p.1,p.2.1,ev e p.2.2)))) h)):=rfl
theorem vcI_bldF (ty s:Nat) (ps:List SX):Hd (vcI P (.bldF ty s ps) e h) K w=((Q5 s e ps/\K (if ps.isEmpty then .emp else .slc (ps.map fun x=>cellsOf (ev e x))) h)):=rfl
theorem vcI_len (x:SX):Hd (vcI P (.len x) e h) K w=((okLen (ev e x)/\K (aLen (ev e x)) h)):=rfl
theorem vcI_lenS (x:SX):Hd (vcI P (.lenS x) e h) K w=((okLenS (ev e x)/\K (aLenS (ev e x)) h)):=rfl
theorem vcI_min2 (x y:SX):Hd (vcI P (.min2 x y) e h) K w=((ok2i (ev e x) (ev e y)/\K (aMin (ev e x) (ev e y)) h)):=rfl
theorem vcI_max2 (x y:SX):Hd (vcI P (.max2 x y) e h) K w=((ok2i (ev e x) (ev e y)/\K (aMax (ev e x) (ev e y)) h)):=rfl
theorem vcI_mkf (f:Nat) (a b:List SX):Hd (vcI P (.mkf f a b) e h) K w=(K (.fn f (a.map (ev e)) (b.map (ev e))) h):=by simp [Hd,vcI,fok,fop]
theorem vcI_isnil (k:Nat) (n:Bool) (x:SX):Hd (vcI P (.isnil k n x) e h) K w=(Hd (YK k n (ev e x)) (fun r=>K r h) .mk):=rfl
theorem vcI_bldR (ty s:Nat) (ps:List SX):Hd (vcI P (.bldR ty s ps) e h) K w=(Hd (litE ty s ps e h) K w):=rfl
theorem vcI_box (ty s:Nat) (x:SX):Hd (vcI P (.box ty s x) e h) K w=((isV (ev e x)=true/\(cellsOf (ev e x)).length=s /\ ∀ r,h r=none->K (.vp r 0) (upd h r (some ⟨ty,s,[cellsOf (ev e x)]⟩)))):=rfl
theorem vcI_boxF (ty s:Nat) (x:SX):Hd (vcI P (.boxF ty s x) e h) K w=(isV (ev e x)=true/\(cellsOf (ev e x)).length=s/\K (.pin (cellsOf (ev e x))) h):=rfl
theorem vcI_new (ty s:Nat) (z:List AVal):Hd (vcI P (.new ty s z) e h) K w=(∀ r,h r=none->K (.vp r 0) (upd h r (some ⟨ty,s,[z]⟩))):=rfl
theorem vcI_newnil (ty s:Nat):Hd (vcI P (.newnil ty s) e h) K w=(∀ r,h r=none->K (.osl r s 0 0) (upd h r (some ⟨ty,s,[]⟩))):=rfl
theorem vcI_st (s:Nat) (x v:SX):Hd (vcI P (.st s x v) e h) K w=(Hd (stE s (ev e x) (ev e v) h) K w):=rfl
theorem vcI_app (ty s b:Nat) (x y:SX):Hd (vcI P (.app ty s b x y) e h) K w=(∃ es2,Rd h s (ev e y) es2/\Hd (appE ty s b (ev e x) es2 h) K w):=rfl
theorem vcI_appS (ty b:Nat) (x y:SX):Hd (vcI P (.appS ty b x y) e h) K w=(∃ l,ev e y=.str l/\((ev e x=.emp/\l=[]/\K .emp h)\/Hd (appE ty 1 b (ev e x) (Y8 l) h) K w)):=rfl
theorem vcI_appF (ty s b:Nat) (x y:SX):Hd (vcI P (.appF ty s b x y) e h) K w=(∃ es2,Rd h s (ev e y) es2/\Hd (appFE ty s b (ev e x) es2 h) K w):=rfl
theorem vcI_frz (x:SX):Hd (vcI P (.frz x) e h) K w=Hd (frzE (ev e x) h) K w:=rfl
theorem vcI_appIn (ty s:Nat) (x y:SX):Hd (vcI P (.appIn ty s x y) e h) K w=(∃ es2,Rd h s (ev e y) es2/\Hd (appInE s (ev e x) es2 h) K w):=rfl
theorem vcI_slX (s:Nat) (x:SX) (lo hi:Option SX):Hd (vcI P (.slX s x lo hi) e h) K w=(Hd (slXE s (ev e x) (evO e lo) (evO e hi) h) K w):=rfl
theorem vcI_mks (ty s b:Nat) (z:List AVal) (n c:SX):Hd (vcI P (.mks ty s b z n c) e h) K w=(Hd (mksE ty s b z (ev e n) (ev e c) h) K w):=rfl
theorem vcI_copy (s:Nat) (x y:SX):Hd (vcI P (.copy s x y) e h) K w=(∃ es2,Rd h s (ev e y) es2/\Hd (W7 s (ev e x) es2 h) K w):=rfl
theorem vcI_clear (s:Nat) (z:List AVal) (x:SX):Hd (vcI P (.clear s z x) e h) K w=(Hd (clearE s z (ev e x) h) K w):=rfl
theorem vcI_call (f:SX) (args:List SX):Hd (vcI P (.call f args) e h) K w=(Hd (callE P (ev e f) (args.map (ev e)) h) K w):=rfl
theorem vcI_b2s (x:SX):Hd (vcI P (.b2s x) e h) K w=(∃ l,Rd h 1 (ev e x) (Y8 l)/\K (.str l) h):=rfl
theorem vcI_usd (x:SX):Hd (vcI P (.usd x) e h) K w=(Hd (usdE (ev e x) h) K w):=rfl
theorem vcI_ustr (ty:Nat) (x y:SX):Hd (vcI P (.ustr ty x y) e h) K w=(Hd (ustrE ty (ev e x) (ev e y) h) K w):=rfl
theorem vcI_pcall (f:Nat) (args:List SX):Hd (vcI P (.pcall f args) e h) K w=(Hd (pcallE P f (args.map (ev e))) (fun v=>K v h) .mk):=rfl
theorem vcI_s2b (ty:Nat) (x:SX):Hd (vcI P (.s2b ty x) e h) K w=Hd (s2bE ty (ev e x) h) K w:=rfl
theorem s2bE_str (ty:Nat) (l:List UInt8):Hd (s2bE ty (.str l) h) K w=(l.length<=140737488355328 /\ ∀ r,h r=none->K (.osl r 1 0 l.length) (upd h r (some ⟨.b ty,1,Y8 l⟩))):=rfl
theorem vcI_rng (x:SX):Hd (vcI P (.rng x) e h) K w=Hd (rngE (ev e x) h) K w:=rfl
theorem rngE_str (l:List UInt8):Hd (rngE (.str l) h) K w=(∀ r,h r=none->K (.ptr r 0 0) (upd h r (some (itO l 0)))):=rfl
theorem vcI_nxt (x:SX):Hd (vcI P (.nxt x) e h) K w=Hd (nxtE (ev e x) h) K w:=rfl
theorem nxtE_ptr (r:Nat):Hd (nxtE (.ptr r 0 0) h) K w=(∃ l p,h r=some (itO l p)/\(p<l.length->K (.tup [.bool true,Y0 p,.int .i32 (T8 l p).1]) (upd h r (some (itO l (p+(T8 l p).2)))))/\(l.length<=p->K (.tup [.bool false]) h)):=rfl
theorem vcI_mkm (ty:Nat):Hd (vcI P (.mkm ty) e h) K w=(∀ r,h r=none->K (.mpr r) (upd h r (some ⟨.m ty [],1,[]⟩))):=rfl
theorem vcI_mup (kt:Option IntKind) (m k v:SX):Hd (vcI P (.mup kt m k v) e h) K w=Hd (mupE kt (ev e m) (ev e k) (ev e v) h) K w:=rfl
theorem vcI_lkp (kt:Option IntKind) (ok:Bool) (z:AVal) (m k:SX):Hd (vcI P (.lkp kt ok z m k) e h) K w=(okLkp h kt (ev e m) (ev e k)/\K (aLkp h ok z (ev e m) (ev e k)) h):=rfl
theorem mupE_mpr (kt:Option IntKind) (r:Nat) (k v:AVal):Hd (mupE kt (.mpr r) k v h) K w=(∃ ob,h r=some ob/\ob.ty.isM=true/\U1 kt k=true/\ob.ty.ents.all (fun p=>U1 kt p.1)=true /\
 K .dead (upd h r (some { ob with ty:=ob.ty.setM (mPut k v ob.ty.ents) }))):=rfl
theorem vcV_none (d:Option Nat) (si:SI):Hd (vcV P ⟨d,si,none⟩ e h) K w=Hd (vcI P si e h) K w:=rfl
theorem gateP_X (v:AVal) (b:Bool) (ok:Prop) (f:AVal->Prop) (r:AVal) (w:Wit2 (ok/\f r) (f (.tup []))):WZ v b ok (f (gateV v b r))=KK v b (ok/\f r) (f (.tup [])) w:=by
 unfold WZ gateV KK
 cases JY v b with
 | none=>rfl
 | some t=>cases t <;> simp
theorem gateE_X (v:AVal) (b:Bool) (k1 k2:Prop) (w:Wit2 k1 k2):gateE v b k1 k2=KK v b k1 k2 w:=by
 unfold gateE KK
 cases JY v b with
 | none=>rfl
 | some t=>cases t <;> simp
theorem vcI_stable {si:SI} (hs:si.gated=true):vcI P si e h K=(fok si e h/\K (fop si e h) h):=by
 cases si <;> first | rfl | simp [SI.gated,SI.stable] at hs
theorem gateP_E (v:AVal) (b:Bool) (ok:AVal->Prop) (f:AVal->Prop) (w:Wit2 (∃ r,ok r/\f r) (f (.tup []))):(∃ r,WZ v b (ok r) (f (gateV v b r)))=KK v b (∃ r,ok r/\f r) (f (.tup [])) w:=by
 unfold WZ gateV KK
 cases JY v b with
 | none=>simp
 | some t=>
   cases t
   ·simp only [Bool.false_eq_true,false_implies,true_and,if_false,eq_iff_iff]
    exact ⟨fun ⟨_,h⟩=>h,fun h=>⟨.dead,h⟩⟩
   ·simp
theorem vcG_X (s:Nat) (b:Bool) (si:SI):vcG P s b si e h K=KK (e s) b (vcI P si e h K) (K (.tup []) h) .mk:=by
 by_cases hg:si.gated=true
 ·have hv:=vcI_stable (P:=P) (e:=e) (h:=h) (K:=K) hg
  have:=gateP_X (e s) b (fok si e h) (fun r=>K r h) (fop si e h) .mk
  have h2:KK (e s) b (vcI P si e h K) (K (.tup []) h) .mk=KK (e s) b (fok si e h/\K (fop si e h) h) (K (.tup []) h) .mk:=by
   unfold KK;rw [hv]
  rw [h2,<-this]
  cases si <;> first | (simp [SI.gated,SI.stable] at hg;done) | simp [vcG,SI.gated,SI.stable]
 ·cases si with
  | pcall f args=>exact gateP_E (e s) b (fun v=>PCalls P f (args.map (ev e)) v) (fun v=>K v h) .mk
  | _=>first | (exact absurd rfl hg) | (rw [<-gateE_X];rfl)
theorem vcV_some (d:Option Nat) (si:SI) (s:Nat) (b:Bool):Hd (vcV P ⟨d,si,some (s,b)⟩ e h) K w=KK (e s) b (Hd (vcI P si e h) K w) (K (.tup []) h) .mk:=vcG_X s b si
section
variable {L:Env->Z2->Prop} {wl:Wit L}
theorem vcOps_nil:Hd (vcOps P [] e h) L wl=L e h:=rfl
theorem vcOps_cons (op:SOp) (r:List SOp):Hd (vcOps P (op :: r) e h) L wl=Hd (vcV P op e h) (fun v h'=>Hd (vcOps P r (V3 e op.dst v) h') L wl) .mk:=rfl
theorem vcD_nil (rs:List (Nat×Nat)):Hd (vcD P [] rs e h) L wl=L e h:=rfl
theorem vcD_false (op:SOp) (r:List (SOp×Option (List Nat))) (rs:List (Nat×Nat)):Hd (vcD P ((op,none) :: r) rs e h) L wl=Hd (vcV P op e h) (fun v h'=>Hd (vcD P r (Z3 op e++rs) (V3 e op.dst v) h') L wl) .mk:=rfl
theorem vcD_true (op:SOp) (an:List Nat) (r:List (SOp×Option (List Nat))) (rs:List (Nat×Nat)):Hd (vcD P ((op,some an) :: r) rs e h) L wl=Hd (vcV P op e h) (fun v h'=>keepR (op.rd++an) rs h h'/\Hd (vcD P r (dropR (op.rd++an) rs) (V3 e op.dst v) h') L wl) .mk:=rfl
theorem keepR_nil (rd:List Nat) (h h':Z2):keepR rd [] h h'=True:=by simp [keepR]
theorem keepR_cons (rd:List Nat) (d t:Nat) (rs:List (Nat×Nat)) (h h':Z2):keepR rd ((d,t) :: rs) h h'=((rd.contains d=false->h' t=h t)/\keepR rd rs h h'):=by
 simp [keepR]
theorem dropR_nil (rd:List Nat):dropR rd []=[]:=rfl
theorem dropR_cons (rd:List Nat) (d t:Nat) (rs:List (Nat×Nat)):dropR rd ((d,t) :: rs)=if rd.contains d=true then dropR rd rs else (d,t) :: dropR rd rs:=by
 unfold dropR
 rw [List.filter_cons]
 cases rd.contains d <;> simp
def Sp (v:AVal) (K:AVal->Prop) (_:Wit K):Prop:=K v
theorem Q0 (d:Nat) (si:SI) (g:Option (Nat×Bool)) (r:List SOp):Hd (vcOps P (⟨some d,si,g⟩ :: r) e h) L wl=Hd (vcV P ⟨some d,si,g⟩ e h) (fun v h'=>Sp v (fun v'=>Hd (vcOps P r (upd e d v') h') L wl) .mk) .mk:=rfl
theorem Q2 (d:Nat) (si:SI) (g:Option (Nat×Bool)) (r:List (SOp×Option (List Nat))) (rs:List (Nat×Nat)):Hd (vcD P ((⟨some d,si,g⟩,none) :: r) rs e h) L wl=Hd (vcV P ⟨some d,si,g⟩ e h) (fun v h'=>Sp v (fun v'=>Hd (vcD P r (Z3 ⟨some d,si,g⟩ e++rs) (upd e d v') h') L wl) .mk) .mk:=rfl
end
variable {Q:SExit->Env->Z2->Prop}
theorem vc_skip:vc P .skip Q e h=Q .normal e h:=rfl
theorem vc_reg (ops:List SOp):vc P (.reg ops) Q e h=Hd (vcOps P ops e h) (Q .normal) .mk:=rfl
theorem vc_dreg (ops:List (SOp×Option (List Nat))):vc P (.dreg ops) Q e h=Hd (vcD P ops [] e h) (Q .normal) .mk:=rfl
theorem vc_seq (a b:SCode):vc P (.seq a b) Q e h=vc P a (WW (vc P b Q) Q) e h:=rfl
theorem vc_cond (x:SX) (a b:SCode):vc P (.cond x a b) Q e h=condW (ev e x) (vc P a Q e h) (vc P b Q e h) .mk:=rfl
theorem vc_block (id:Nat) (c:SCode):vc P (.block id c) Q e h=vc P c (TU id Q) e h:=rfl
theorem vc_loop (c:SCode):vc P (.loop c) Q e h=LoopVC (vc P c) Q e h:=rfl
theorem vc_range (f:SX) (ps:List Nat) (a b:SCode):vc P (.range f ps a b) Q e h=RangeVC P f ps (vc P a) (vc P b) Q e h:=rfl
theorem setPs_cons (p:Nat) (ps:List Nat) (v:AVal) (vs:List AVal):setPs e (p :: ps) (v :: vs)=setPs (upd e p v) ps vs:=rfl
theorem setPs_nil:setPs e [] []=e:=rfl
theorem roundK_normal {X:Type} (I:List X->Z2->Prop) (Ix:SExit->List X->Z2->Prop) (pre:List X):roundK I Ix pre .normal e h=I pre h:=rfl
theorem roundK_exit {X:Type} (I:List X->Z2->Prop) (Ix:SExit->List X->Z2->Prop) (pre:List X) (id:Nat):roundK I Ix pre (.exit id) e h=Ix (.exit id) pre h:=rfl
theorem roundK_ret {X:Type} (I:List X->Z2->Prop) (Ix:SExit->List X->Z2->Prop) (pre:List X):roundK I Ix pre .ret e h=Ix .ret pre h:=rfl
theorem RangeVC.intro {f:SX} {ps:List Nat} {va vb:(SExit->Env->Z2->Prop)->Env->Z2->Prop} {X:Type} {enc:X->List AVal} {xs:List X} {N k:Nat} {cap:List AVal}
 (hit:IterV P k cap enc xs N) (hf:ev e f=.fn k [] cap) (hl:∀ x,(enc x).length=ps.length) (I:List X->Z2->Prop) (Ix:SExit->List X->Z2->Prop) (h0:I [] h)
 (hb:∀ pre x h',I pre h'->pre.length<N->va (WW (vb (roundK I Ix (pre++[x]))) fun _ _ _=>False) (setPs e ps (enc x)) h') (hq:∀ h',I xs h'->Q .normal e h')
 (hx:∀ ex pre h',ex≠.normal->pre <+: xs->Ix ex pre h'->Q ex e h') (hs:(∀ pre,Strp h (I pre)) /\ ∀ ex pre,Strp h (Ix ex pre)):RangeVC P f ps va vb Q e h:=.inl ⟨X,enc,xs,N,k,cap,hf,hit,hl,I,Ix,⟨fun pre=>(hs.1 pre).toM,fun ex pre=>(hs.2 ex pre).toM⟩,h0,hb,hq,hx⟩
theorem vc_goto (l:Nat):vc P (.goto l) Q e h=Q (.goto l) e h:=rfl
theorem vc_label (l:Nat):vc P (.label l) Q e h=Q .normal e h:=rfl
theorem vc_scope (l:Nat) (c r:SCode):vc P (.scope l c r) Q e h=vc P c (gotoK l (vc P r (noGoK Q)) Q) e h:=rfl
theorem gotoK_goto (l j:Nat) (N:Env->Z2->Prop):gotoK l N Q (.goto j) e h=(j=l/\N e h):=rfl
theorem gotoK_normal (l:Nat) (N:Env->Z2->Prop):gotoK l N Q .normal e h=Q .normal e h:=rfl
theorem gotoK_exit (l id:Nat) (N:Env->Z2->Prop):gotoK l N Q (.exit id) e h=Q (.exit id) e h:=rfl
theorem gotoK_ret (l:Nat) (N:Env->Z2->Prop):gotoK l N Q .ret e h=Q .ret e h:=rfl
theorem noGoK_normal:noGoK Q .normal e h=Q .normal e h:=rfl
theorem noGoK_exit (id:Nat):noGoK Q (.exit id) e h=Q (.exit id) e h:=rfl
theorem noGoK_ret:noGoK Q .ret e h=Q .ret e h:=rfl
theorem thenK_goto (N:Env->Z2->Prop) (l:Nat):WW N Q (.goto l) e h=Q (.goto l) e h:=rfl
theorem blockK_goto (id l:Nat):TU id Q (.goto l) e h=Q (.goto l) e h:=rfl
theorem vc_exit (id:Nat):vc P (.exit id) Q e h=Q (.exit id) e h:=rfl
theorem vc_ret:vc P .ret Q e h=Q .ret e h:=rfl
variable {N:Env->Z2->Prop}
theorem thenK_normal:WW N Q .normal e h=N e h:=rfl
theorem thenK_exit (id:Nat):WW N Q (.exit id) e h=Q (.exit id) e h:=rfl
theorem thenK_ret:WW N Q .ret e h=Q .ret e h:=rfl
theorem blockK_normal (id:Nat):TU id Q .normal e h=Q .normal e h:=rfl
theorem blockK_ret (id:Nat):TU id Q .ret e h=Q .ret e h:=rfl
theorem blockK_exit (id j:Nat):TU id Q (.exit j) e h=if j=id then Q .normal e h else Q (.exit j) e h:=rfl
variable {rs:List SRes} {R:AVal->Z2->Prop}
theorem ev_t (n:Nat):ev e (.t n)=e n:=rfl
theorem ev_c (v:AVal):ev e (.c v)=v:=rfl
theorem evO_some (x:SX):evO e (some x)=some (ev e x):=rfl
theorem evO_none:evO e none=none:=rfl
theorem setD_some (d:Nat) (v:AVal):V3 e (some d) v=upd e d v:=rfl
theorem setD_none (v:AVal):V3 e none v=e:=rfl
theorem LoopVC.intro {b:(SExit->Env->Z2->Prop)->Env->Z2->Prop} (I:Nat->Env->Z2->Prop) (m:Nat) (h0:I m e h) (hr:∀ m e h,I m e h->b (WW (fun e' h'=>∃ m',m'<m/\I m' e' h') Q) e h):LoopVC b Q e h:=
 ⟨I,⟨m,h0⟩,hr⟩
end
class LenE {α:Type} (enc:α->List AVal) (sz:outParam Nat):Prop where
 len:∀ x,(enc x).length=sz
def sl {α:Type} (enc:α->List AVal) (l:List α):AVal:=.slc (l.map enc)
def nth {α:Type} [Inhabited α] (l:List α) (i:Nat):α:=l.getD i default
theorem K4 {α:Type} [Inhabited α] {l:List α} {i:Nat} (h:i<l.length):l[i]? = some (nth l i):=U6 l i default h
section
set_option linter.unusedSectionVars false
variable {α:Type} [Inhabited α] {enc:α->List AVal} {l:List α} {sz:Nat}
theorem aLen_sl:aLen (sl enc l)=Y0 l.length:=by simp [aLen,sl]
theorem okLen_sl:okLen (sl enc l)=True:=rfl
theorem okIdxA_sl [LenE enc sz] {s:Nat} {k:IntKind} {n:Int}:okIdxA s (sl enc l) (.int k n)=(0<=n/\n<l.length/\sz=s):=by
 simp only [okIdxA,sl,List.length_map,eq_iff_iff]
 refine and_congr_right fun h0=>and_congr_right fun h1=>?_
 have:((l.map enc).getD n.toNat [])=enc (nth l n.toNat):=by
  rw [List.getD_eq_getElem?_getD,List.getElem?_map,K4 (by omega)]
  rfl
 rw [this,LenE.len (enc:=enc)]
theorem aIdxA_sl {k:IntKind} {n:Int} (h0:0<=n) (h1:n<l.length):aIdxA (sl enc l) (.int k n)=.pin (enc (nth l n.toNat)):=by
 simp only [aIdxA,sl]
 rw [List.getD_eq_getElem?_getD,List.getElem?_map,K4 (by omega)]
 rfl
end
def Z7 (n:Int):List AVal:=[.int .i64 n]
instance:LenE Z7 1:=⟨fun _=>rfl⟩
theorem wrap_i64 {n:Int} (h0:-9223372036854775808<=n) (h1:n<=9223372036854775807):IntKind.i64.wrap n=n:=by
 rw [IntKind.wrap_i64];omega
theorem aBin_add (k k':IntKind) (a b:Int):QX .add (.int k a) (.int k' b)=.int k (k.wrap (a+b)):=rfl
theorem okBin_add (k k':IntKind) (a b:Int):V7 .add (.int k a) (.int k' b)=(k=k'):=rfl
theorem aBin_sub (k k':IntKind) (a b:Int):QX .sub (.int k a) (.int k' b)=.int k (k.wrap (a-b)):=rfl
theorem okBin_sub (k k':IntKind) (a b:Int):V7 .sub (.int k a) (.int k' b)=(k=k'):=rfl
theorem aBin_mul (k k':IntKind) (a b:Int):QX .mul (.int k a) (.int k' b)=.int k (k.wrap (a*b)):=rfl
theorem okBin_mul (k k':IntKind) (a b:Int):V7 .mul (.int k a) (.int k' b)=(k=k'):=rfl
theorem aBin_quo (k k':IntKind) (a b:Int):QX .quo (.int k a) (.int k' b)=.int k (k.wrap (a.tdiv b)):=rfl
theorem okBin_quo (k k':IntKind) (a b:Int):V7 .quo (.int k a) (.int k' b)=(k=k'/\b≠0):=rfl
theorem aBin_rem (k k':IntKind) (a b:Int):QX .rem (.int k a) (.int k' b)=.int k (a.tmod b):=rfl
theorem okBin_rem (k k':IntKind) (a b:Int):V7 .rem (.int k a) (.int k' b)=(k=k'/\b≠0):=rfl
theorem aBin_shl (k k':IntKind) (a b:Int):QX .shl (.int k a) (.int k' b)=.int k (k.wrap (a*2 ^ (min b.toNat k.bits))):=rfl
theorem okBin_shl (k k':IntKind) (a b:Int):V7 .shl (.int k a) (.int k' b)=(0<=b):=rfl
theorem aBin_shr (k k':IntKind) (a b:Int):QX .shr (.int k a) (.int k' b)=.int k (a.fdiv (2 ^ (min b.toNat k.bits))):=rfl
theorem okBin_shr (k k':IntKind) (a b:Int):V7 .shr (.int k a) (.int k' b)=(0<=b):=rfl
theorem aBin_eql (k k':IntKind) (a b:Int):QX .eql (.int k a) (.int k' b)=.bool (a==b):=rfl
theorem okBin_eql (k k':IntKind) (a b:Int):V7 .eql (.int k a) (.int k' b)=(k=k'):=rfl
theorem aBin_neq (k k':IntKind) (a b:Int):QX .neq (.int k a) (.int k' b)=.bool (a != b):=rfl
theorem okBin_neq (k k':IntKind) (a b:Int):V7 .neq (.int k a) (.int k' b)=(k=k'):=rfl
theorem aBin_lss (k k':IntKind) (a b:Int):QX .lss (.int k a) (.int k' b)=.bool (decide (a<b)):=rfl
theorem okBin_lss (k k':IntKind) (a b:Int):V7 .lss (.int k a) (.int k' b)=(k=k'):=rfl
theorem aBin_leq (k k':IntKind) (a b:Int):QX .leq (.int k a) (.int k' b)=.bool (decide (a<=b)):=rfl
theorem okBin_leq (k k':IntKind) (a b:Int):V7 .leq (.int k a) (.int k' b)=(k=k'):=rfl
theorem aBin_gtr (k k':IntKind) (a b:Int):QX .gtr (.int k a) (.int k' b)=.bool (decide (b<a)):=rfl
theorem okBin_gtr (k k':IntKind) (a b:Int):V7 .gtr (.int k a) (.int k' b)=(k=k'):=rfl
theorem aBin_geq (k k':IntKind) (a b:Int):QX .geq (.int k a) (.int k' b)=.bool (decide (b<=a)):=rfl
theorem okBin_geq (k k':IntKind) (a b:Int):V7 .geq (.int k a) (.int k' b)=(k=k'):=rfl
theorem aBin_and (k k':IntKind) (a b:Int):QX .and (.int k a) (.int k' b)=.int k (QK .and k a b):=rfl
theorem okBin_and (k k':IntKind) (a b:Int):V7 .and (.int k a) (.int k' b)=(k=k'):=rfl
theorem aBin_or (k k':IntKind) (a b:Int):QX .or (.int k a) (.int k' b)=.int k (QK .or k a b):=rfl
theorem okBin_or (k k':IntKind) (a b:Int):V7 .or (.int k a) (.int k' b)=(k=k'):=rfl
theorem aBin_xor (k k':IntKind) (a b:Int):QX .xor (.int k a) (.int k' b)=.int k (QK .xor k a b):=rfl
theorem okBin_xor (k k':IntKind) (a b:Int):V7 .xor (.int k a) (.int k' b)=(k=k'):=rfl
theorem aBin_andNot (k k':IntKind) (a b:Int):QX .andNot (.int k a) (.int k' b)=.int k (QK .andNot k a b):=rfl
theorem okBin_andNot (k k':IntKind) (a b:Int):V7 .andNot (.int k a) (.int k' b)=(k=k'):=rfl
theorem aBinS_add (a b:List UInt8):QX .add (.str a) (.str b)=.str (a++b):=rfl
theorem okBinS_add (a b:List UInt8):V7 .add (.str a) (.str b)=(a.length+b.length<=9223372036854775807):=rfl
theorem aBinS_eql (a b:List UInt8):QX .eql (.str a) (.str b)=.bool (a==b):=rfl
theorem okBinS_eql (a b:List UInt8):V7 .eql (.str a) (.str b)=True:=rfl
theorem aBinS_neq (a b:List UInt8):QX .neq (.str a) (.str b)=.bool (a != b):=rfl
theorem okBinS_neq (a b:List UInt8):V7 .neq (.str a) (.str b)=True:=rfl
theorem aBinS_lss (a b:List UInt8):QX .lss (.str a) (.str b)=.bool (Op.bytesLess a b):=rfl
theorem okBinS_lss (a b:List UInt8):V7 .lss (.str a) (.str b)=True:=rfl
theorem aBinS_geq (a b:List UInt8):QX .geq (.str a) (.str b)=.bool (!Op.bytesLess a b):=rfl
theorem okBinS_geq (a b:List UInt8):V7 .geq (.str a) (.str b)=True:=rfl
theorem aBinS_gtr (a b:List UInt8):QX .gtr (.str a) (.str b)=.bool (!(Op.bytesLess a b||a==b)):=rfl
theorem okBinS_gtr (a b:List UInt8):V7 .gtr (.str a) (.str b)=True:=rfl
theorem aBinS_leq (a b:List UInt8):QX .leq (.str a) (.str b)=.bool (Op.bytesLess a b||a==b):=rfl
theorem okBinS_leq (a b:List UInt8):V7 .leq (.str a) (.str b)=True:=rfl
theorem aUn_not (b:Bool):aUn .not (.bool b)=.bool (!b):=rfl
theorem okUn_not (b:Bool):okUn .not (.bool b)=(UnOp.not=UnOp.not):=rfl
theorem aUn_neg (k:IntKind) (n:Int):aUn .neg (.int k n)=.int k (k.wrap (0-n)):=rfl
theorem okUn_neg (k:IntKind) (n:Int):okUn .neg (.int k n)=True:=by simp [okUn]
theorem okUn_xor (k:IntKind) (n:Int):okUn .xor (.int k n)=True:=by simp [okUn]
theorem bitF_not (n:Int) (h1:-9223372036854775808<=n) (h2:n<=9223372036854775807):QK .xor .i64 (-1) n = -1-n:=by
 unfold QK
 have e:(BitVec.ofInt IntKind.i64.bits (-1) ^^^ BitVec.ofInt IntKind.i64.bits n) = ~~~ (BitVec.ofInt 64 n):=by
  rw [BitVec.not_def];rfl
 have e2:(BitVec.ofInt 64 n).toNat=(n % 18446744073709551616).toNat:=BitVec.toNat_ofInt ..
 have e3:(~~~ (BitVec.ofInt 64 n)).toNat=18446744073709551615-(n % 18446744073709551616).toNat:=by rw [BitVec.toNat_not,e2]
 simp only [e]
 have e4:∀ y:BitVec 64,IntKind.i64.wrap ((y.toNat:Nat):Int)=(y.toNat+9223372036854775808) % 18446744073709551616-9223372036854775808:=fun y=>IntKind.wrap_i64 _
 refine (e4 _).trans ?_
 rw [e3]
 omega
theorem aUn_xor (n:Int) (h1:-9223372036854775808<=n) (h2:n<=9223372036854775807):aUn .xor (.int .i64 n)=.int .i64 (-1-n):=by
 show AVal.int .i64 (QK .xor .i64 (-1) n)=_
 rw [bitF_not n h1 h2]
theorem aEqb_bool (n a b:Bool):aEqb n (.bool a) (.bool b)=.bool (xor n (a==b)):=rfl
theorem okEqb_bool (a b:Bool):okEqb (.bool a) (.bool b)=True:=rfl
theorem aEqs_agg (n:Bool) (as bs:List AVal):aEqs n (.agg as) (.agg bs)=.bool (xor n (Q4 as bs)):=rfl
theorem okEqs_agg (ks:List Nat) (as bs:List AVal):okEqs ks (.agg as) (.agg bs)=Q1 ks as bs:=rfl
theorem aCvi_int (k k':IntKind) (n:Int):aCvi k (.int k' n)=.int k (k.wrap n):=rfl
theorem okCvi_int (k':IntKind) (n:Int):okCvi (.int k' n)=True:=rfl
theorem aPick_bool (c:Bool) (a b:AVal):aPick (.bool c) a b=if c then a else b:=rfl
theorem okPick_bool (c:Bool):okPick (.bool c)=True:=rfl
theorem aFld_agg (o s:Nat) (b:Bool) (cs:List AVal):aFld o s b (.agg cs)=cutV s b (cs.drop o):=rfl
theorem okFld_agg (o s:Nat) (b:Bool) (cs:List AVal):okFld o s b (.agg cs)=(o+s<=cs.length/\(b=false->s=1)):=rfl
theorem cutV_true (s:Nat) (cs:List AVal):cutV s true cs=.agg (cs.take s):=rfl
theorem cutV_false (s:Nat) (cs:List AVal):cutV s false cs=cs.headD .dead:=rfl
theorem aFldA_pin (o:Nat) (cs:List AVal):aFldA o (.pin cs)=.pin (cs.drop o):=rfl
theorem okFldA_pin (cs:List AVal):okFldA (.pin cs)=True:=rfl
theorem deVp_vp (r j:Nat):deVp (.vp r j)=.ptr r 0 j:=rfl
theorem deVp_ptr (r i j:Nat):deVp (.ptr r i j)=.ptr r i j:=rfl
theorem deVp_pin (cs:List AVal):deVp (.pin cs)=.pin cs:=rfl
theorem aFldA_vp (o r j:Nat):aFldA o (.vp r j)=.vp r (j+o):=rfl
theorem okFldA_vp (r j:Nat):okFldA (.vp r j)=True:=rfl
theorem aFldA_ptr (o r i j:Nat):aFldA o (.ptr r i j)=.ptr r i (j+o):=rfl
theorem okFldA_ptr (r i j:Nat):okFldA (.ptr r i j)=True:=rfl
theorem aIdxA_osl (r sz i n:Nat) (k:IntKind) (m:Int):aIdxA (.osl r sz i n) (.int k m)=.ptr r (i+m.toNat) 0:=rfl
theorem okIdxA_osl (s r sz i n:Nat) (k:IntKind) (m:Int):okIdxA s (.osl r sz i n) (.int k m)=(sz=s/\0<=m/\m<n):=rfl
theorem aIdxG_pin (cs:List AVal) (k:IntKind) (m:Int):aIdxG (.pin cs) (.int k m)=.pin (cs.drop m.toNat):=rfl
theorem okIdxG_pin (s:Nat) (cs:List AVal) (k:IntKind) (m:Int):okIdxG s (.pin cs) (.int k m)=(0<=m/\m<s):=rfl
theorem aIdxA_slc (es:List (List AVal)) (k:IntKind) (m:Int):aIdxA (.slc es) (.int k m)=.pin (es.getD m.toNat []):=rfl
theorem okIdxA_slc (s:Nat) (es:List (List AVal)) (k:IntKind) (m:Int):okIdxA s (.slc es) (.int k m)=(0<=m/\m<es.length/\(es.getD m.toNat []).length=s):=rfl
theorem aIdxS_str (l:List UInt8) (k:IntKind) (m:Int):aIdxS (.str l) (.int k m)=.int .u8 (l.getD m.toNat 0).toNat:=rfl
theorem okIdxS_str (l:List UInt8) (k:IntKind) (m:Int):okIdxS (.str l) (.int k m)=(0<=m/\m<l.length):=rfl
theorem aLd_pin (h:Z2) (s:Nat) (b:Bool) (cs:List AVal):aLd h s b (.pin cs)=cutV s b cs:=rfl
theorem okLd_pin (h:Z2) (s:Nat) (b:Bool) (cs:List AVal):okLd h s b (.pin cs)=(s<=cs.length/\(b=false->s=1)):=rfl
theorem okLd_ptr (h:Z2) (s:Nat) (b:Bool) (r i j:Nat):okLd h s b (.ptr r i j) = ∃ o,h r=some o/\i<o.es.length/\j+s<=(o.es.getD i []).length/\(b=false->s=1):=rfl
def ldO (o:Option AObj) (i j s:Nat) (b:Bool):AVal:=match o with | some o=>cutV s b ((o.es.getD i []).drop j) | none=>.dead
theorem aLd_ptr (h:Z2) (s:Nat) (b:Bool) (r i j:Nat):aLd h s b (.ptr r i j)=ldO (h r) i j s b:=rfl
theorem okLd_vp (h:Z2) (s:Nat) (b:Bool) (r j:Nat):okLd h s b (.vp r j) = ∃ o,h r=some o/\0<o.es.length/\j+s<=(o.es.getD 0 []).length/\(b=false->s=1):=rfl
theorem aLd_vp (h:Z2) (s:Nat) (b:Bool) (r j:Nat):aLd h s b (.vp r j)=ldO (h r) 0 j s b:=rfl
theorem ldO_some (o:AObj) (i j s:Nat) (b:Bool):ldO (some o) i j s b=cutV s b ((o.es.getD i []).drop j):=rfl
theorem aExt_tup (i:Nat) (vs:List AVal):aExt i (.tup vs)=vs.getD i .dead:=rfl
theorem okExt_tup (i:Nat) (vs:List AVal):okExt i (.tup vs)=(i<vs.length):=rfl
theorem aLen_osl (r sz i n:Nat):aLen (.osl r sz i n)=Y0 n:=rfl
theorem okLen_osl (r sz i n:Nat):okLen (.osl r sz i n)=True:=rfl
theorem aLen_slc (es:List (List AVal)):aLen (.slc es)=Y0 es.length:=rfl
theorem okLen_slc (es:List (List AVal)):okLen (.slc es)=True:=rfl
theorem aLen_emp  : aLen .emp=Y0 0:=rfl
theorem okLen_emp  : okLen .emp=True:=rfl
theorem aLenS_str (l:List UInt8):aLenS (.str l)=Y0 l.length:=rfl
theorem okLenS_str (l:List UInt8):okLenS (.str l)=True:=rfl
theorem aMin_int (k k':IntKind) (a b:Int):aMin (.int k a) (.int k' b)=.int k (min a b):=rfl
theorem aMax_int (k k':IntKind) (a b:Int):aMax (.int k a) (.int k' b)=.int k (max a b):=rfl
theorem ok2i_int (k k':IntKind) (a b:Int):ok2i (.int k a) (.int k' b)=(k=k'):=rfl
theorem aSlS_str (l:List UInt8) (lo hi:Option AVal):aSlS (.str l) lo hi=.str ((l.take (X4 l.length hi).toNat).drop (X2 lo).toNat):=rfl
theorem okSlS_str (l:List UInt8) (lo hi:Option AVal):okSlS (.str l) lo hi=(okB lo/\okB hi/\0<=X2 lo/\X2 lo<=X4 l.length hi/\X4 l.length hi<=l.length):=rfl
theorem loOf_int (k:IntKind) (n:Int):X2 (some (.int k n))=n:=rfl
theorem loOf_none  : X2 none=0:=rfl
theorem hiOf_int (m:Nat) (k:IntKind) (n:Int):X4 m (some (.int k n))=n:=rfl
theorem hiOf_none (m:Nat):X4 m none=m:=rfl
theorem okB_int (k:IntKind) (n:Int):okB (some (.int k n))=True:=rfl
theorem okB_none  : okB none=True:=rfl
theorem aSlA_osl (r sz i n:Nat) (lo hi:Option AVal):aSlA (.osl r sz i n) lo hi=.osl r sz (i+(X2 lo).toNat) ((X4 n hi).toNat-(X2 lo).toNat):=rfl
theorem okSlA_osl (s r sz i n:Nat) (lo hi:Option AVal):okSlA s (.osl r sz i n) lo hi=(sz=s/\okB lo/\okB hi/\0<=X2 lo/\X2 lo<=X4 n hi/\X4 n hi<=n):=rfl
theorem aSlA_emp (lo hi:Option AVal):aSlA .emp lo hi=.emp:=rfl
theorem okSlA_emp (s:Nat) (lo hi:Option AVal):okSlA s .emp lo hi=(okB lo/\okB hi/\X2 lo=0/\X4 0 hi=0):=rfl
theorem okSlM_osl (r sz i n:Nat) (lo hi mx:Option AVal):okSlM (.osl r sz i n) lo hi mx=(True/\okB lo/\okB hi/\okB mx/\0<=X2 lo/\X2 lo<=X4 n hi/\X4 n hi<=X4 n mx/\X4 n mx<=n):=rfl
theorem nil_slc (n:Bool) (es:List (List AVal)) (K:AVal->Prop) (w:Wit K):Hd (YK 0 n (.slc es)) K w=(∀ b:Bool,(b=true->es=[])->K (.bool (xor n b))):=rfl
theorem nil_emp (n:Bool) (K:AVal->Prop) (w:Wit K):Hd (YK 0 n .emp) K w=(∀ b:Bool,K (.bool (xor n b))):=rfl
theorem nil_osl (n:Bool) (r sz i m:Nat) (K:AVal->Prop) (w:Wit K):Hd (YK 0 n (.osl r sz i m)) K w=(∀ b:Bool,(b=true->m=0)->K (.bool (xor n b))):=rfl
theorem nil_snil (n:Bool) (K:AVal->Prop) (w:Wit K):Hd (YK 0 n (.prim (.slice none 0 0))) K w=(K (.bool (!n))):=rfl
theorem nil_vp (n:Bool) (r j:Nat) (K:AVal->Prop) (w:Wit K):Hd (YK 1 n (.vp r j)) K w=(K (.bool n)):=rfl
theorem cells_vp (r j:Nat):cellsOf (.vp r j)=[.vp r j]:=rfl
theorem isV_vp (r j:Nat):isV (.vp r j)=true:=rfl
theorem stE_vp (s r j:Nat) (v:AVal) (h:Z2) (K:AVal->Z2->Prop) (w:Wit K):Hd (stE s (.vp r j) v h) K w=Hd (stE s (.ptr r 0 j) v h) K w:=rfl
theorem nil_ptr (n:Bool) (r i j:Nat) (K:AVal->Prop) (w:Wit K):Hd (YK 1 n (.ptr r i j)) K w=(K (.bool n)):=rfl
theorem nil_pin (n:Bool) (cs:List AVal) (K:AVal->Prop) (w:Wit K):Hd (YK 1 n (.pin cs)) K w=(K (.bool n)):=rfl
theorem nil_pnil (n:Bool) (K:AVal->Prop) (w:Wit K):Hd (YK 1 n (.prim (.pointer none))) K w=(K (.bool (!n))):=rfl
theorem nil_fn (n:Bool) (f:Nat) (a b:List AVal) (K:AVal->Prop) (w:Wit K):Hd (YK 2 n (.fn f a b)) K w=(K (.bool n)):=rfl
theorem nil_fnil (n:Bool) (K:AVal->Prop) (w:Wit K):Hd (YK 2 n (.prim .nilFunc)) K w=(K (.bool (!n))):=rfl
theorem stE_pin (s:Nat) (cs:List AVal) (v:AVal) (h:Z2) (K:AVal->Z2->Prop) (w:Wit K):Hd (stE s (.pin cs) v h) K w=(s=0/\isV v=true/\cellsOf v=[]/\K .dead h):=rfl
theorem stE_ptr (s r i j:Nat) (v:AVal) (h:Z2) (K:AVal->Z2->Prop) (w:Wit K):Hd (stE s (.ptr r i j) v h) K w=(∃ ob,h r=some ob/\i<ob.es.length/\j+s<=(ob.es.getD i []).length/\isV v=true/\(cellsOf v).length=s/\K .dead (upd h r (some { ob with es:=ob.es.set i (Z0 (ob.es.getD i []) j (cellsOf v)) }))):=rfl
theorem appE_emp (ty sz b:Nat) (es2:List (List AVal)) (h:Z2) (K:AVal->Z2->Prop) (w:Wit K):Hd (appE ty sz b .emp es2 h) K w=((es2.length*b<=140737488355328/\es2.length<=140737488355328 /\ ∀ r,h r=none->K (.osl r sz 0 es2.length) (upd h r (some ⟨ty,sz,es2⟩)))):=rfl
theorem appE_osl (ty sz b r sz' i m:Nat) (es2:List (List AVal)) (h:Z2) (K:AVal->Z2->Prop) (w:Wit K):Hd (appE ty sz b (.osl r sz' i m) es2 h) K w=((sz'=sz /\ ∃ ob,h r=some ob/\ob.ty=ty/\i+m<=ob.es.length/\(m+es2.length)*b<=140737488355328/\m+es2.length<=140737488355328 /\ ∀ r',del h r r'=none->K (.osl r' sz 0 (m+es2.length)) (upd (del h r) r' (some ⟨ty,sz,(ob.es.drop i).take m++es2⟩)))):=rfl
theorem appFE_emp (ty sz b:Nat) (es2:List (List AVal)) (h:Z2) (K:AVal->Z2->Prop) (w:Wit K):Hd (appFE ty sz b .emp es2 h) K w=(es2.length*b<=140737488355328/\es2.length<=140737488355328/\K (.slc es2) h):=rfl
theorem appFE_osl (ty sz b r sz' i m:Nat) (es2:List (List AVal)) (h:Z2) (K:AVal->Z2->Prop) (w:Wit K):Hd (appFE ty sz b (.osl r sz' i m) es2 h) K w=(sz'=sz /\ ∃ ob,h r=some ob/\ob.ty=ty/\i+m<=ob.es.length/\(m+es2.length)*b<=140737488355328/\m+es2.length<=140737488355328/\K (.slc ((ob.es.drop i).take m++es2)) (del h r)):=rfl
theorem frzE_emp (h:Z2) (K:AVal->Z2->Prop) (w:Wit K):Hd (frzE .emp h) K w=K (.slc []) h:=rfl
theorem frzE_slc (es:List (List AVal)) (h:Z2) (K:AVal->Z2->Prop) (w:Wit K):Hd (frzE (.slc es) h) K w=K (.slc es) h:=rfl
theorem frzE_sl {α:Type} (enc:α->List AVal) (l:List α) (h:Z2) (K:AVal->Z2->Prop) (w:Wit K):Hd (frzE (sl enc l) h) K w=K (sl enc l) h:=rfl
theorem frzE_osl (r sz i m:Nat) (h:Z2) (K:AVal->Z2->Prop) (w:Wit K):Hd (frzE (.osl r sz i m) h) K w=(∃ ob,h r=some ob/\i+m<=ob.es.length/\K (.slc ((ob.es.drop i).take m)) (del h r)):=rfl
theorem Rd_slc (h:Z2) (s:Nat) (es l:List (List AVal)):Rd h s (.slc es) l=(l=es /\ ∀ e∈es,e.length=s):=rfl
theorem Rd_emp (h:Z2) (s:Nat) (l:List (List AVal)):Rd h s .emp l=(l=[]):=rfl
theorem cells_agg (cs:List AVal):cellsOf (.agg cs)=cs:=rfl
theorem cells_int (k:IntKind) (n:Int):cellsOf (.int k n)=[.int k n]:=rfl
theorem isV_int (k:IntKind) (n:Int):isV (.int k n)=true:=rfl
theorem cells_bool (b:Bool):cellsOf (.bool b)=[.bool b]:=rfl
theorem isV_bool (b:Bool):isV (.bool b)=true:=rfl
theorem cells_str (l:List UInt8):cellsOf (.str l)=[.str l]:=rfl
theorem isV_str (l:List UInt8):isV (.str l)=true:=rfl
theorem cells_slc (es:List (List AVal)):cellsOf (.slc es)=[.slc es]:=rfl
theorem isV_slc (es:List (List AVal)):isV (.slc es)=true:=rfl
theorem cells_emp  : cellsOf (.emp )=[.emp ]:=rfl
theorem isV_emp  : isV (.emp )=true:=rfl
theorem cells_osl (r sz i n:Nat):cellsOf (.osl r sz i n)=[.osl r sz i n]:=rfl
theorem isV_osl (r sz i n:Nat):isV (.osl r sz i n)=true:=rfl
theorem cells_ptr (r i j:Nat):cellsOf (.ptr r i j)=[.ptr r i j]:=rfl
theorem isV_ptr (r i j:Nat):isV (.ptr r i j)=true:=rfl
theorem cells_pin (cs:List AVal):cellsOf (.pin cs)=[.pin cs]:=rfl
theorem isV_pin (cs:List AVal):isV (.pin cs)=true:=rfl
theorem cells_fn (f:Nat) (a b:List AVal):cellsOf (.fn f a b)=[.fn f a b]:=rfl
theorem isV_fn (f:Nat) (a b:List AVal):isV (.fn f a b)=true:=rfl
theorem isV_agg (cs:List AVal):isV (.agg cs)=true:=rfl
theorem cells_sl {α:Type} (enc:α->List AVal) (l:List α):cellsOf (sl enc l)=[sl enc l]:=rfl
theorem isV_sl {α:Type} (enc:α->List AVal) (l:List α):isV (sl enc l)=true:=rfl
theorem callE_fn {P:PG} (f:Nat) (a b args:List AVal) (h:Z2) (K:AVal->Z2->Prop) (w:Wit K):Hd (callE P (.fn f a b) args h) K w=(Hd (DCalls P f (a++(args++b)) h) K w):=rfl
theorem allOK_nil (e:Env) (h:Z2):allOK e h []=True:=rfl
theorem allOK_cons (e:Env) (h:Z2) (r:SRes) (l:List SRes):allOK e h (r :: l)=(resOK e h r/\allOK e h l):=rfl
theorem resOK_tmp (e:Env) (h:Z2) (t:Nat):resOK e h (.tmp t)=True:=rfl
theorem resOK_cell (e:Env) (h:Z2) (t s:Nat) (b:Bool):resOK e h (.cell t s b)=okLd h s b (e t):=rfl
theorem resV_tmp (e:Env) (h:Z2) (t:Nat):resV e h (.tmp t)=e t:=rfl
theorem resV_cell (e:Env) (h:Z2) (t s:Nat) (b:Bool):resV e h (.cell t s b)=aLd h s b (e t):=rfl
theorem retV_one (e:Env) (h:Z2) (r:SRes):retV e h [r]=resV e h r:=rfl
theorem retV_two (e:Env) (h:Z2) (r s:SRes) (l:List SRes):retV e h (r :: s :: l)=.tup ((r :: s :: l).map (resV e h)):=rfl
theorem retV_nil (e:Env) (h:Z2):retV e h []=.tup []:=rfl
theorem initE_at (G:U5) (args:List AVal) (t:Nat) (h:t<1000000):T5 G args t=args.getD t .dead:=if_pos h
theorem initE_gl (G:U5) (args:List AVal) (t:Nat) (h:1000000<=t):T5 G args t=G (t-1000000):=if_neg (by omega)
def Br (t:Bool) (A B:Prop) (_:Wit2 A B):Prop:=(t=true->A)/\(t=false->B)
section
variable {A B:Prop} {w:Wit2 A B}
theorem Br_true:Br true A B w=A:=by simp [Br]
theorem Br_false:Br false A B w=B:=by simp [Br]
theorem condOn_br (t:Bool):condW (.bool t) A B w=Br t A B .mk:=rfl
theorem Br.intro {t:Bool} (h1:t=true->A) (h2:t=false->B):Br t A B .mk:=⟨h1,h2⟩
theorem Br.dec {p:Prop} [Decidable p] (h1:p->A) (h2:¬ p->B):Br (decide p) A B .mk:=⟨fun h=>h1 (by simpa using h),fun h=>h2 (by simpa using h)⟩
theorem Br.eq {α:Type} [BEq α] [LawfulBEq α] {a b:α} (h1:a=b->A) (h2:a≠b->B):Br (a==b) A B .mk:=⟨fun h=>h1 (by simpa using h),fun h=>h2 (by simpa using h)⟩
theorem Br.ne {α:Type} [BEq α] [LawfulBEq α] {a b:α} (h1:a≠b->A) (h2:a=b->B):Br (a != b) A B .mk:=⟨fun h=>h1 (by simpa using h),fun h=>h2 (by simpa using h)⟩
end
theorem Sp_tup (l:List AVal) (K:AVal->Prop) (w:Wit K):Sp (.tup l) K w=K (.tup l):=rfl
theorem Sp_bool (t:Bool) (K:AVal->Prop) (w:Wit K):Sp (.bool t) K w=Br t (K (.bool true)) (K (.bool false)) .mk:=by
 cases t <;> simp [Sp,Br]
theorem okLkp_mpr (h:Z2) (kt:Option IntKind) (r:Nat) (k:AVal):okLkp h kt (.mpr r) k = ∃ o,h r=some o/\o.ty.isM=true/\U1 kt k=true/\o.ty.ents.all (fun p=>U1 kt p.1)=true:=rfl
theorem aLkp_mpr (h:Z2) (ok:Bool) (z:AVal) (r:Nat) (k:AVal):aLkp h ok z (.mpr r) k=TY ok z (KU k (entsOf (h r))):=rfl
theorem entsOf_some (o:AObj):entsOf (some o)=o.ty.ents:=rfl
theorem isM_m (n:Nat) (es:List (AVal×AVal)):(OTy.m n es).isM=true:=rfl
theorem ents_m (n:Nat) (es:List (AVal×AVal)):(OTy.m n es).ents=es:=rfl
theorem setM_m (n:Nat) (es es':List (AVal×AVal)):(OTy.m n es).setM es'=.m n es':=rfl
theorem isKeyA_int (k:IntKind) (n:Int):U1 (some k) (.int k n)=true:=by simp [U1]
theorem isKeyA_str (l:List UInt8):U1 none (.str l)=true:=rfl
theorem isV_mpr (r:Nat):isV (.mpr r)=true:=rfl
theorem cells_mpr (r:Nat):cellsOf (.mpr r)=[.mpr r]:=rfl
def eM (l:List (Int×Int)):List (AVal×AVal):=l.map fun p=>(Y0 p.1,Y0 p.2)
def findI (l:List (Int×Int)) (k:Int):Option Int:=(l.find? fun p=>p.1==k).map (·.2)
def putI (k v:Int):List (Int×Int)->List (Int×Int)
 | []=>[(k,v)]
 | p :: r=>if p.1=k then (p.1,v) :: r else p :: putI k v r
theorem all_eM (l:List (Int×Int)):((eM l).all fun p=>U1 (some .i64) p.1)=true:=by
 simp [eM,U1]
theorem keyEq_aInt (a b:Int):YX (Y0 a) (Y0 b)=(a==b):=by simp [YX]
theorem mFind_eM (l:List (Int×Int)) (k:Int):KU (Y0 k) (eM l)=(findI l k).map Y0:=by
 induction l with
 | nil=>rfl
 | cons p r ih=>
   simp only [eM,List.map_cons,KU,keyEq_aInt,findI,List.find?_cons]
   by_cases h:p.1=k
   ·simp [h]
   ·have:(p.1==k)=false:=by simpa using h
    rw [this]
    simpa [eM,findI] using ih
theorem mPut_eM (l:List (Int×Int)) (k v:Int):mPut (Y0 k) (Y0 v) (eM l)=eM (putI k v l):=by
 induction l with
 | nil=>rfl
 | cons p r ih=>
   simp only [eM,List.map_cons,mPut,keyEq_aInt,putI]
   by_cases h:p.1=k
   ·simp [h]
   ·have:(p.1==k)=false:=by simpa using h
    rw [this,if_neg h]
    simpa [eM] using ih
theorem aFound_int (z:Int) (o:Option Int):TY false (Y0 z) (o.map Y0)=Y0 (o.getD z):=by cases o <;> rfl
theorem aFound_int2 (z:Int) (o:Option Int):TY true (Y0 z) (o.map Y0)=.tup [Y0 (o.getD z),.bool o.isSome]:=by cases o <;> rfl
theorem findI_put (l:List (Int×Int)) (k v x:Int):findI (putI k v l) x=if x=k then some v else findI l x:=by
 induction l with
 | nil=>
   by_cases h:k=x
   ·subst h;simp [putI,findI]
   ·have h1:(k==x)=false:=by simpa using h
    have h2:¬ x=k:=fun q=>h q.symm
    simp [putI,findI,h1,h2]
 | cons p r ih=>
   simp only [putI]
   by_cases h:p.1=k
   ·simp only [h,if_true,findI,List.find?_cons]
    by_cases hx:k=x
    ·simp [hx]
    ·have h1:(k==x)=false:=by simpa using hx
     have h2:¬ x=k:=fun q=>hx q.symm
     simp [h1,h2]
   ·simp only [if_neg h,findI,List.find?_cons] at ih ⊢
    by_cases hx:p.1=x
    ·have h2:¬ x=k:=fun q=>h (hx.trans q)
     simp [hx,h2]
    ·have h1:(p.1==x)=false:=by simpa using hx
     simp only [h1];exact ih
def eMs (l:List (List UInt8)):List (AVal×AVal):=l.map fun s=>(.str s,.agg [])
def putS (s:List UInt8) (l:List (List UInt8)):List (List UInt8):=if s∈l then l else l++[s]
theorem all_eMs (l:List (List UInt8)):((eMs l).all fun p=>U1 none p.1)=true:=by simp [eMs,U1]
theorem eMs_cons (p:List UInt8) (r:List (List UInt8)):eMs (p :: r)=(.str p,.agg []) :: eMs r:=rfl
theorem mFind_cons (k x v:AVal) (r:List (AVal×AVal)):KU k ((x,v) :: r)=if YX x k=true then some v else KU k r:=rfl
theorem mPut_cons (k v x y:AVal) (r:List (AVal×AVal)):mPut k v ((x,y) :: r)=if YX x k=true then (x,v) :: r else (x,y) :: mPut k v r:=rfl
theorem mFind_eMs (l:List (List UInt8)) (s:List UInt8):KU (.str s) (eMs l)=if s∈l then some (.agg []) else none:=by
 induction l with
 | nil=>rfl
 | cons p r ih=>
   rw [eMs_cons,mFind_cons]
   by_cases h:p=s
   ·subst h;rw [if_pos (by simp [YX]),if_pos (by simp)]
   ·rw [if_neg (by simpa [YX] using h),ih]
    have h2:¬ s=p:=fun q=>h q.symm
    simp [h2]
theorem mPut_eMs (l:List (List UInt8)) (s:List UInt8):mPut (.str s) (.agg []) (eMs l)=eMs (putS s l):=by
 unfold putS
 induction l with
 | nil=>rfl
 | cons p r ih=>
   rw [eMs_cons,mPut_cons]
   by_cases h:p=s
   ·subst h;rw [if_pos (by simp [YX]),if_pos (by simp)];rfl
   ·have h2:¬ s=p:=fun q=>h q.symm
    rw [if_neg (by simpa [YX] using h),ih]
    by_cases h3:s∈r
    ·rw [if_pos h3,if_pos (by simp [h3])];rfl
    ·rw [if_neg h3,if_neg (by simp [h2,h3])];rfl
theorem aFound_set (c:Prop) [Decidable c] (z v:AVal):TY true z (if c then some v else none)=if c then .tup [v,.bool true] else .tup [z,.bool false]:=by split <;> rfl
end Go.Sim
end
section
namespace Go.Sim
open Go
inductive Vw (h:Z2):AVal->AVal->Prop
 | refl (a:AVal):Vw h a a
 | emp:Vw h .emp (.slc [])
 | agg (as bs:List AVal) (hl:as.length=bs.length) (hh:∀ (j:Nat) (a b:AVal),as[j]? = some a->bs[j]? = some b->Vw h a b):Vw h (.agg as) (.agg bs)
 | slc (es fs:List (List AVal)) (hl:es.length=fs.length) (hle:∀ (i:Nat) (e f:List AVal),es[i]? = some e->fs[i]? = some f->e.length=f.length)
    (hh:∀ (i j:Nat) (e f:List AVal) (a b:AVal),es[i]? = some e->fs[i]? = some f->e[j]? = some a->f[j]? = some b->Vw h a b):Vw h (.slc es) (.slc fs)
 | osl (r sz i n:Nat) (o:AObj) (fs:List (List AVal)) (hr:h r=some o) (hle:i+n<=o.es.length) (hl:fs.length=n) (hll:∀ f∈fs,f.length=sz)
    (hh:∀ (k j:Nat) (e f:List AVal) (a b:AVal),o.es[i+k]? = some e->fs[k]? = some f->e[j]? = some a->f[j]? = some b->Vw h a b):Vw h (.osl r sz i n) (.slc fs)
 | ptr (r i j:Nat) (o:AObj) (fs:List AVal) (hr:h r=some o) (hi:i<o.es.length) (hl:fs.length<=(o.es.getD i []).length-j)
    (hh:∀ (k:Nat) (a b:AVal),((o.es.getD i []).drop j)[k]? = some a->fs[k]? = some b->Vw h a b):Vw h (.ptr r i j) (.pin fs)
 | vp (r j:Nat) (b:AVal) (hh:Vw h (.ptr r 0 j) b):Vw h (.vp r j) b
inductive Scal:AVal->Prop
 | int (k:IntKind) (n:Int):Scal (.int k n)
 | bool (b:Bool):Scal (.bool b)
 | str (l:List UInt8):Scal (.str l)
 | tup (as:List AVal) (hh:∀ (j:Nat) (a:AVal),as[j]? = some a->Scal a):Scal (.tup as)
 | agg (as:List AVal) (hh:∀ (j:Nat) (a:AVal),as[j]? = some a->Scal a):Scal (.agg as)
section
variable {P:PG} {g:Ghost} {w:World} {h:Z2}
theorem Scal.any {v:Value} {a:AVal} (hs:Scal a):VRel g w v a -> ∀ (g':Ghost) (w':World),VRel g' w' v a:=by
 induction hs generalizing v with
 | int k n=>intro hv g' w';rw [hv.int_inv];exact .int k n
 | bool b=>intro hv g' w';rw [hv.bool_inv];exact .bool b
 | str l=>intro hv g' w';rw [hv.str_inv'];exact VRel.str_mk g' w' l
 | tup as hh ih=>
   intro hv g' w'
   obtain ⟨vs,rfl,hl,hh'⟩:=hv.tup_inv
   exact .tup vs as hl fun j u x hu hx=>ih j x hx (hh' j u x hu hx) g' w'
 | agg as hh ih=>
   intro hv g' w'
   obtain ⟨vs,rfl,hl,h1,hh'⟩:=hv.agg_inv
   exact .agg vs as hl h1 fun j u x hu hx=>ih j x hx (hh' j u x hu hx) g' w'
inductive Fz (r:Nat) (es:List (List AVal)):AVal->AVal->Prop
 | refl (a:AVal):Fz r es a a
 | osl (sz i n:Nat) (hle:i+n<=es.length):Fz r es (.osl r sz i n) (.slc ((es.drop i).take n))
 | agg (as bs:List AVal) (hl:as.length=bs.length) (hh:∀ (j:Nat) (a b:AVal),as[j]? = some a->bs[j]? = some b->Fz r es a b):Fz r es (.agg as) (.agg bs)
 | tup (as bs:List AVal) (hl:as.length=bs.length) (hh:∀ (j:Nat) (a b:AVal),as[j]? = some a->bs[j]? = some b->Fz r es a b):Fz r es (.tup as) (.tup bs)
theorem Fz.rel {r:Nat} {o:AObj} (H:HRel h g w) (hr:h r=some o) {g':Ghost} (S:GS g w g' w) (hf:g.cap r≠0->g'.fz (g.eta r)) {a b:AVal} (hz:Fz r o.es a b):∀ {v:Value},VRel g w v a->VRel g' w v b:=by
 induction hz with
 | refl a=>intro v V;exact V.step S
 | osl sz i n hle=>
   intro v V
   obtain ⟨hrl,hsz,hc⟩:=V.osl_inv
   have O:=H.obj r o hr
   have hl:((o.es.drop i).take n).length=n:=by simp;omega
   by_cases hn:n=0
   ·subst hn
    rcases hc with ⟨rfl,_⟩ | ⟨cap,off,rfl,_⟩
    ·simpa using VRel.slc0 (g:=g') (w:=w) none 0
    ·simpa using VRel.slc0 (g:=g') (w:=w) (some ⟨g.eta r,off,none⟩) cap
   ·rcases hc with ⟨_,_,h0,_⟩ | ⟨cap,off,rfl,hnc,hm,hi,hoff⟩
    ·exact absurd h0 hn
    ·have hof:=hoff (by omega)
     rcases O.block with h0 | ⟨hlt,_,cur,hcur,_,hcell⟩
     ·have:=O.le;omega
     ·have key:=VRel.slc_mk (g:=g') (w:=w) (ad:=⟨g.eta r,off,none⟩) (c:=cap) (sz:=sz) (es:=(o.es.drop i).take n) (by rw [hl];exact hnc)
       (fun f hf'=>by rw [O.len f (List.mem_of_mem_drop (List.mem_of_mem_take hf')),<-O.sz,hsz]) rfl (hf (by omega)) (fun k j f x hk hx=>by
       obtain ⟨hkn,hk'⟩:=ZZ _ _ _ _ _ hk
       obtain ⟨u,hu,h1,h2⟩:=hcell _ j _ _ hk' hx
       refine ⟨u,?_,h1,h2.step S⟩
       rw [Addr.add_lit,hcur.cell,<-hu,hof,<-O.sz,hsz,Nat.add_mul]
       congr 1;omega)
      rw [hl] at key
      exact key
 | agg as bs hl hh ih=>
   intro v V
   obtain ⟨vs,rfl,hvl,h1,h2⟩:=V.agg_inv
   refine .agg vs bs (hvl.trans hl) h1 fun j u b hu hb=>?_
   have hj:j<as.length:=by rw [hl];exact (List.getElem?_eq_some_iff.1 hb).1
   exact ih j _ b (List.getElem?_eq_getElem hj) hb (h2 j u _ hu (List.getElem?_eq_getElem hj))
 | tup as bs hl hh ih=>
   intro v V
   obtain ⟨vs,rfl,hvl,h2⟩:=V.tup_inv
   refine .tup vs bs (hvl.trans hl) fun j u b hu hb=>?_
   have hj:j<as.length:=by rw [hl];exact (List.getElem?_eq_some_iff.1 hb).1
   exact ih j _ b (List.getElem?_eq_getElem hj) hb (h2 j u _ hu (List.getElem?_eq_getElem hj))
inductive Wk:AVal->AVal->Prop
 | refl (a:AVal):Wk a a
 | emp:Wk .emp (.slc [])
 | agg (as bs:List AVal) (hl:as.length=bs.length) (hh:∀ (j:Nat) (a b:AVal),as[j]? = some a->bs[j]? = some b->Wk a b):Wk (.agg as) (.agg bs)
 | tup (as bs:List AVal) (hl:as.length=bs.length) (hh:∀ (j:Nat) (a b:AVal),as[j]? = some a->bs[j]? = some b->Wk a b):Wk (.tup as) (.tup bs)
 | slc (es fs:List (List AVal)) (hl:es.length=fs.length) (hle:∀ (i:Nat) (e f:List AVal),es[i]? = some e->fs[i]? = some f->e.length=f.length)
    (hh:∀ (i j:Nat) (e f:List AVal) (a b:AVal),es[i]? = some e->fs[i]? = some f->e[j]? = some a->f[j]? = some b->Wk a b):Wk (.slc es) (.slc fs)
theorem Wk.rel {a b:AVal} (hv:Wk a b):∀ {v:Value},VRel g w v a->VRel g w v b:=by
 induction hv with
 | refl a=>intro v V;exact V
 | emp=>
   intro v V
   obtain ⟨A,rfl,_⟩:=V.emp_inv
   exact .slc0 A 0
 | agg as bs hl hh ih=>
   intro v V
   obtain ⟨vs,rfl,hvl,h1,h2⟩:=V.agg_inv
   refine .agg vs bs (hvl.trans hl) h1 fun j u b hu hb=>?_
   have hj:j<as.length:=by rw [hl];exact (List.getElem?_eq_some_iff.1 hb).1
   exact ih j _ b (List.getElem?_eq_getElem hj) hb (h2 j u _ hu (List.getElem?_eq_getElem hj))
 | tup as bs hl hh ih=>
   intro v V
   obtain ⟨vs,rfl,hvl,h2⟩:=V.tup_inv
   refine .tup vs bs (hvl.trans hl) fun j u b hu hb=>?_
   have hj:j<as.length:=by rw [hl];exact (List.getElem?_eq_some_iff.1 hb).1
   exact ih j _ b (List.getElem?_eq_getElem hj) hb (h2 j u _ hu (List.getElem?_eq_getElem hj))
 | slc es fs hl hle hh ih=>
   intro v V
   obtain ⟨A,c,rfl,hin⟩:=V.slc_inv
   by_cases hp:0<es.length
   ·obtain ⟨hc,ad,sz,rfl,hsp,hf,hsz,hcell⟩:=hin hp
    rw [hl]
    refine .slc_mk (sz:=sz) (by omega) (fun f hf'=>?_) hsp hf fun i j f x hi hx=>?_
    ·obtain ⟨i,hi⟩:=List.mem_iff_getElem?.1 hf'
     have hil:i<es.length:=by rw [hl];exact (List.getElem?_eq_some_iff.1 hi).1
     rw [<-hle i _ f (List.getElem?_eq_getElem hil) hi]
     exact hsz _ (List.getElem_mem hil)
    ·have hil:i<es.length:=by rw [hl];exact (List.getElem?_eq_some_iff.1 hi).1
     have he:=List.getElem?_eq_getElem hil
     have hjl:j<es[i].length:=by rw [hle i _ f he hi];exact (List.getElem?_eq_some_iff.1 hx).1
     obtain ⟨u,hu,h1,h2⟩:=hcell i j _ _ he (List.getElem?_eq_getElem hjl)
     exact ⟨u,hu,h1,ih i j _ f _ x he hi (List.getElem?_eq_getElem hjl) hx h2⟩
   ·have h0:es.length=0:=by omega
    have hfs:fs=[]:=List.eq_nil_of_length_eq_zero (by omega)
    subst hfs
    rw [h0]
    exact .slc0 A c
end
end Go.Sim
end
section
set_option linter.unusedSectionVars false
set_option linter.unusedSimpArgs false
namespace Go.Sim
open Go
section
variable {P:PG} {e:Env} {h:Z2} {K:AVal->Z2->Prop}
theorem natCast_succ_sub (n:Nat):((n+1:Nat):Int)-1=n:=by omega
theorem upd_id {h:Z2} {r:Nat} {o:AObj} (hr:h r=some o):upd h r (some o)=h:=by
 funext t;unfold upd;by_cases ht:t=r
 ·subst ht;rw [if_pos rfl,hr]
 ·rw [if_neg ht]
theorem Rd_oslE (s r sz i n:Nat) (F:List (List AVal)->Prop):(∃ l,Rd h s (.osl r sz i n) l/\F l)=(∃ o,h r=some o/\sz=s/\i+n<=o.es.length/\F ((o.es.drop i).take n)):=by
 rw [eq_iff_iff]
 constructor
 ·rintro ⟨l,⟨h1,o,h2,h3,rfl⟩,hF⟩
  exact ⟨o,h2,h1,h3,hF⟩
 ·rintro ⟨o,h2,h1,h3,hF⟩
  exact ⟨_,⟨h1,o,h2,h3,rfl⟩,hF⟩
theorem appInE_osl (s r sz' i m:Nat) (es2:List (List AVal)) (w:Wit K):Hd (appInE s (.osl r sz' i m) es2 h) K w=(sz'=s /\ ∃ ob,h r=some ob/\i+m+es2.length<=ob.es.length /\
 K (.osl r s i (m+es2.length)) (upd h r (some { ob with es:=ob.es.take (i+m)++es2++ob.es.drop (i+m+es2.length) }))):=rfl
theorem slXE_osl (s r sz' i m:Nat) (lo hi:Option AVal) (w:Wit K):Hd (slXE s (.osl r sz' i m) lo hi h) K w=(sz'=s /\ ∃ ob,h r=some ob/\okB lo/\okB hi/\0<=X2 lo/\X2 lo<=X4 m hi/\i+(X4 m hi).toNat<=ob.es.length /\
 K (.osl r s (i+(X2 lo).toNat) ((X4 m hi).toNat-(X2 lo).toNat)) h):=rfl
theorem mksE_int (ty s b:Nat) (z:List AVal) (k k':IntKind) (l c:Int) (w:Wit K):Hd (mksE ty s b z (.int k l) (.int k' c) h) K w=(0<=l/\l<=c/\c*b<=140737488355328/\c<=140737488355328 /\ ∀ r,h r=none->K (.osl r s 0 l.toNat) (upd h r (some ⟨ty,s,List.replicate c.toNat z⟩))):=rfl
theorem copyE_osl (s r sz' i m:Nat) (es2:List (List AVal)) (w:Wit K):Hd (W7 s (.osl r sz' i m) es2 h) K w=(sz'=s /\ ∃ ob,h r=some ob/\i+m<=ob.es.length /\
 K (Y0 (min es2.length m:Nat)) (upd h r (some { ob with es:=ob.es.take i++es2.take (min es2.length m)++ob.es.drop (i+min es2.length m) }))):=rfl
theorem usdE_emp (w:Wit K):Hd (usdE .emp h) K w=K .anyp h:=rfl
theorem usdE_osl (r s i m:Nat) (w:Wit K):Hd (usdE (.osl r s i m) h) K w=(0<m/\K (.ptr r i 0) h):=rfl
theorem ustrE_anyp (ty:Nat) (m:Int) (w:Wit K):Hd (ustrE ty .anyp (.int .i64 m) h) K w=(m=0/\K (.str []) h):=rfl
theorem ustrE_ptr (ty r i j:Nat) (m:Int) (w:Wit K):Hd (ustrE ty (.ptr r i j) (.int .i64 m) h) K w=(j=0 /\ ∃ (l:List UInt8) (ob:AObj),h r=some ob/\ob.ty=ty/\ob.sz=1/\i+l.length<=ob.es.length/\(ob.es.drop i).take l.length=Y8 l/\m=l.length/\l≠[]/\l.length<=9223372036854775807/\K (.str l) (del h r)):=rfl
theorem clearE_osl (s r sz' i m:Nat) (z:List AVal) (w:Wit K):Hd (clearE s z (.osl r sz' i m) h) K w=(sz'=s /\ ∃ ob,h r=some ob/\i+m<=ob.es.length/\K .dead (upd h r (some { ob with es:=ob.es.take i++List.replicate m z++ob.es.drop (i+m) }))):=rfl
theorem upd_upd {β:Type} (f:Nat->β) (r:Nat) (x y:β):upd (upd f r x) r y=upd f r y:=by
 funext t;unfold upd;by_cases ht:t=r <;> simp [ht]
inductive F2 {α:Type} (R:α->α->Prop):List α->List α->Prop
 | nil:F2 R [] []
 | cons {a b:α} {as bs:List α} (h:R a b) (t:F2 R as bs):F2 R (a :: as) (b :: bs)
theorem F2.len {α:Type} {R:α->α->Prop} {as bs:List α} (h:F2 R as bs):as.length=bs.length:=by
 induction h with
 | nil=>rfl
 | cons _ _ ih=>simp [ih]
theorem F2.get {α:Type} {R:α->α->Prop} {as bs:List α} (h:F2 R as bs):∀ (j:Nat) (a b:α),as[j]? = some a->bs[j]? = some b->R a b:=by
 induction h with
 | nil=>intro j a b ha;simp at ha
 | cons h _ ih=>
   intro j a b ha hb
   cases j with
   | zero=>simp only [List.getElem?_cons_zero,Option.some.injEq] at ha hb;subst ha hb;exact h
   | succ j=>simp only [List.getElem?_cons_succ] at ha hb;exact ih j a b ha hb
theorem pcallE.of {f:Nat} {args:List AVal} {v:AVal} {K:AVal->Prop} (hp:PCalls P f args v) (hk:K v):Hd (pcallE P f args) K .mk:=⟨v,hp,hk⟩
theorem DCalls.of {f:Nat} {args:List AVal} {K0:AVal->Z2->Prop} (hd:DCalls P f args h K0) (hk:∀ r h',K0 r h'->K r h'):Hd (DCalls P f args h) K .mk:=hd.mono hk
theorem PCalls.of {f:Nat} {args:List AVal} {v:AVal} (hp:PCalls P f args v) (hk:K v h):Hd (DCalls P f args h) K .mk:=hp.d hk
theorem Q3 {r t:Nat} {o:AObj}:(upd h r (some o) t=none)=(t≠r/\h t=none):=by
 unfold upd;by_cases ht:t=r <;> simp [ht]
theorem DCalls.froze {f:Nat} {args:List AVal} {K0:AVal->Z2->Prop} (hd:DCalls P f args h K0)
 (hk:∀ a h',K0 a h'->(∃ b,Wk a b/\K b h') \/ ∃ r o b,h' r=some o/\Fz r o.es a b/\K b (del h' r)):DCalls P f args h K:=by
 refine ⟨hd.1,fun g w vs H GR V=>(hd.2 g w vs H GR V).mono fun e w' ⟨v',a,h',g',he,k0,H',Va,S⟩=>?_⟩
 rcases hk a h' k0 with ⟨b,hz,hkb⟩ | ⟨r,o,b,hr,hz,hkb⟩
 ·exact ⟨v',b,h',g',he,hkb,H',hz.rel Va,S⟩
 ·by_cases hc:g'.cap r=0
  ·exact ⟨v',b,del h' r,g',he,hkb,H'.del r,hz.rel H' hr (GS.refl g' w') (fun h=>absurd hc h) Va,S⟩
  ·obtain ⟨S2,H2⟩:=H'.freeze hr hc
   exact ⟨v',b,del h' r,_,he,hkb,H2,hz.rel H' hr S2 (fun _=>.inr rfl) Va,S.trans S2⟩
def Sub (h h':Z2):Prop:=∀ t o,h t=some o->h' t=some o
theorem Sub.refl (h:Z2):Sub h h:=fun _ _ h=>h
theorem Sub.trans {h h' h'':Z2} (a:Sub h h') (b:Sub h' h''):Sub h h'':=fun t o ht=>b t o (a t o ht)
theorem Sub.upd {h h':Z2} {r:Nat} {x:Option AObj} (hs:Sub h h') (hr:h r=none):Sub h (upd h' r x):=fun t o ht=>by
 rw [J7 _ _ (fun e=>by rw [e,hr] at ht;cases ht)];exact hs t o ht
theorem Sub.del {h h':Z2} {r:Nat} (hs:Sub h h') (hr:h r=none):Sub h (del h' r):=fun t o ht=>by
 unfold Sim.del;rw [if_neg (fun e=>by rw [e,hr] at ht;cases ht)];exact hs t o ht
theorem Sub.none {h h':Z2} {r:Nat} (hs:Sub h h') (hr:h' r=none):h r=none:=by
 cases hh:h r with
 | none=>rfl
 | some o=>rw [hs r o hh] at hr;cases hr
theorem Sub.put {h h':Z2} {r:Nat} {o:AObj} (hs:Sub h h') (hr:h' r=some o):Sub (Sim.upd h r (some o)) h':=fun t ob ht=>by
 by_cases e:t=r
 ·subst e;rw [Z9] at ht;cases ht;exact hr
 ·rw [J7 _ _ e] at ht;exact hs t ob ht
theorem retK_normalS {rs:List SRes} {R:AVal->Z2->Prop}:retK rs R .normal e h=(allOK e h rs /\ ∃ h',Sub h' h/\R (retV e h rs) h'):=rfl
theorem retK_retS {rs:List SRes} {R:AVal->Z2->Prop}:retK rs R .ret e h=(allOK e h rs /\ ∃ h',Sub h' h/\R (retV e h rs) h'):=rfl
def Out (sz:Nat) (cells:List (List AVal)) (h:Z2) (a:AVal) (h':Z2):Prop:=
 (cells=[]/\a=.emp/\h'=h) \/ ∃ r o i n,h r=none/\a=.osl r sz i n/\h'=upd h r (some o)/\i+n<=o.es.length/\(o.es.drop i).take n=cells
theorem del_upd {h:Z2} {r:Nat} {o:Option AObj} (hr:h r=none):del (upd h r o) r=h:=by
 funext t;unfold del upd;by_cases ht:t=r
 ·subst ht;simp [hr]
 ·simp [ht]
theorem PCalls.out {f sz:Nat} {args:List AVal} {cells:List (List AVal)} (hd:∀ h,DCalls P f args h (Out sz cells h)):PCalls P f args (.slc cells):=fun h=>
 (hd h).froze fun a h' hk=>by
   rcases hk with ⟨rfl,rfl,rfl⟩ | ⟨r,o,i,n,hr,rfl,rfl,hle,rfl⟩
   ·exact .inl ⟨_,.emp,rfl,rfl⟩
   ·exact .inr ⟨r,o,_,Z9 _ _ _,.osl sz i n hle,rfl,del_upd hr⟩
def Acc (h:Z2) (ty:TypeId) (sz:Nat) (cells:List (List AVal)) (a:AVal) (h':Z2):Prop:=
 (cells=[]/\a=.emp) \/ ∃ r,h r=none/\h' r=some ⟨ty,sz,cells⟩/\a=.osl r sz 0 cells.length
theorem Acc.nil {h h':Z2} {ty:TypeId} {sz:Nat}:Acc h ty sz [] .emp h':=.inl ⟨rfl,rfl⟩
theorem Acc.root {h h':Z2} {ty:TypeId} {sz r:Nat} {cells:List (List AVal)} (h0:h r=none) (h1:h' r=some ⟨ty,sz,cells⟩):Acc h ty sz cells (.osl r sz 0 cells.length) h':=.inr ⟨r,h0,h1,rfl⟩
theorem Acc.app {h h':Z2} {ty:TypeId} {sz b:Nat} {cells es2:List (List AVal)} {a:AVal} (A:Acc h ty sz cells a h') (S:Sub h h')
 (h1:(cells.length+es2.length)*b<=140737488355328) (h2:cells.length+es2.length<=140737488355328)
 (hk:∀ a' h'',Acc h ty sz (cells++es2) a' h''->Sub h h''->K a' h''):Hd (appE ty sz b a es2 h') K .mk:=by
 rcases A with ⟨rfl,rfl⟩ | ⟨r,h0,hr,rfl⟩
 ·refine ⟨by simpa using h1,by simpa using h2,fun r hr=>hk _ _ ?_ (S.upd (S.none hr))⟩
  exact .inr ⟨r,S.none hr,by simp,rfl⟩
 ·refine ⟨rfl,_,hr,rfl,by simp,h1,h2,fun r' hr'=>hk _ _ ?_ ?_⟩
  ·have hn:h r'=none:=(S.del h0).none hr'
   refine .inr ⟨r',hn,by simp,by simp⟩
  ·exact (S.del h0).upd ((S.del h0).none hr')
theorem Acc.out {h h':Z2} {ty:TypeId} {sz:Nat} {cells:List (List AVal)} {a:AVal} (A:Acc h ty sz cells a h') (S:Sub h h'):∃ h'',(∀ t o,h'' t=some o->h' t=some o)/\Out sz cells h a h'':=by
 rcases A with ⟨rfl,rfl⟩ | ⟨r,h0,hr,rfl⟩
 ·exact ⟨h,S,.inl ⟨rfl,rfl,rfl⟩⟩
 ·exact ⟨upd h r _,S.put hr,.inr ⟨r,_,0,_,h0,rfl,rfl,by simp,by simp⟩⟩
theorem DCalls.sub {f:Nat} {args:List AVal} {K0:AVal->Z2->Prop} (hd:DCalls P f args h K0) (hk:∀ a h',K0 a h' -> ∃ h'',Sub h'' h'/\K a h''):DCalls P f args h K:=
 ⟨hd.1,fun g w vs H GR V=>(hd.2 g w vs H GR V).mono fun e w' ⟨v',a,h',g',he,k0,H',Va,S⟩=>by
   obtain ⟨h'',hs,k⟩:=hk a h' k0
   exact ⟨v',a,h'',g',he,k,H'.le hs,Va,S⟩⟩
def AccK (h:Z2) (ty:TypeId) (sz:Nat) (cells:List (List AVal)) (a:AVal) (h':Z2):Prop:=Acc h ty sz cells a h'/\Sub h h'
theorem PCalls.acc {f sz:Nat} {ty:TypeId} {args:List AVal} {cells:List (List AVal)} (hd:∀ h,DCalls P f args h (AccK h ty sz cells)):PCalls P f args (.slc cells):=
 PCalls.out (sz:=sz) fun h=>(hd h).sub fun _ _ ⟨A,S⟩=>A.out S
end
section
variable {α:Type} [Inhabited α] {enc:α->List AVal} {l:List α} {sz:Nat} {P:PG} {e:Env} {h:Z2}
theorem getD_map_enc {k:Nat} (hk:k<l.length):(l.map enc).getD k []=enc (nth l k):=by
 rw [List.getD_eq_getElem?_getD,List.getElem?_map,K4 hk];rfl
theorem Acc.len {h h':Z2} {ty:TypeId} {sz:Nat} {cells:List (List AVal)} {a:AVal} (A:Acc h ty sz cells a h'):aLen a=Y0 cells.length/\okLen a=True:=by
 rcases A with ⟨rfl,rfl⟩ | ⟨r,_,_,rfl⟩
 ·exact ⟨rfl,rfl⟩
 ·exact ⟨rfl,rfl⟩
theorem Acc.pos {h h':Z2} {ty:TypeId} {sz:Nat} {cells:List (List AVal)} {a:AVal} (A:Acc h ty sz cells a h') (hp:0<cells.length):∃ r,h r=none/\h' r=some ⟨ty,sz,cells⟩/\a=.osl r sz 0 cells.length:=by
 rcases A with ⟨rfl,rfl⟩ | h
 ·simp at hp
 ·exact h
theorem aSlA_sl (lo hi:Option AVal):aSlA (sl enc l) lo hi=sl enc ((l.take (X4 l.length hi).toNat).drop (X2 lo).toNat):=by
 simp [aSlA,sl]
theorem okSlA_sl [LenE enc sz] {s:Nat} (lo hi:Option AVal):okSlA s (sl enc l) lo hi=(okB lo/\okB hi/\0<=X2 lo/\X2 lo<=X4 l.length hi/\X4 l.length hi<=l.length/\(l=[]\/sz=s)):=by
 simp only [okSlA,sl,List.length_map,eq_iff_iff]
 refine and_congr_right fun _=>and_congr_right fun _=>and_congr_right fun _=>and_congr_right fun _=>and_congr_right fun _=>?_
 constructor
 ·intro hh
  cases l with
  | nil=>exact .inl rfl
  | cons x r=>exact .inr ((LenE.len (enc:=enc) x).symm.trans (hh _ (by simp)))
 ·intro hh e he
  obtain ⟨x,hx,rfl⟩:=List.mem_map.1 he
  rcases hh with rfl | rfl
  ·cases hx
  ·exact LenE.len x
theorem Rd_sl [LenE enc sz] (x:List (List AVal)):Rd h sz (sl enc l) x=(x=l.map enc):=by
 simp only [Rd,sl,eq_iff_iff,and_iff_left_iff_imp]
 intro _ e he
 obtain ⟨x,hx,rfl⟩:=List.mem_map.1 he
 exact LenE.len x
theorem nil_sl (n:Bool) (K:AVal->Prop) (w:Wit K):Hd (YK 0 n (sl enc l)) K w = ∀ b:Bool,(b=true->l=[])->K (.bool (xor n b)):=by
 simp [Hd,YK,sl]
variable {K:AVal->Z2->Prop}
end
end Go.Sim
end
section
namespace Go.Sim
open Go
def CellsR (w:World) (cs:List Value) (as:List AVal):Prop:=
 cs.length=as.length /\ ∀ g:Ghost,(∀ b,b<w.heap.size->g.fz b) -> ∀ (j:Nat) (u:Value) (c:AVal),cs[j]? = some u->as[j]? = some c->u.oneCell'=true/\VRel g w u c
theorem CellsR.append {w:World} {cs cs':List Value} {as as':List AVal} (h:CellsR w cs as) (h':CellsR w cs' as'):CellsR w (cs++cs') (as++as'):=by
 refine ⟨by simp [h.1,h'.1],fun g hg j u c hu hc=>?_⟩
 by_cases hj:j<cs.length
 ·rw [List.getElem?_append_left hj] at hu
  rw [List.getElem?_append_left (by rw [<-h.1];exact hj)] at hc
  exact h.2 g hg j u c hu hc
 ·rw [List.getElem?_append_right (by omega)] at hu
  rw [List.getElem?_append_right (by rw [<-h.1];omega),<-h.1] at hc
  exact h'.2 g hg _ u c hu hc
theorem CellsR.one {w:World} {v:Value} {a:AVal} (h1:v.oneCell'=true) (h:∀ g:Ghost,(∀ b,b<w.heap.size->g.fz b)->VRel g w v a):CellsR w [v] [a]:=by
 refine ⟨rfl,fun g hg j u c hu hc=>?_⟩
 cases j with
 | zero=>simp at hu hc;subst hu hc;exact ⟨h1,h g hg⟩
 | succ j=>simp at hu
structure Bulk {H:Type} (B:DataW H->Nat):Prop where
 str:∀ l,l.length<=B (.lit (.string l))
 len:∀ es sp,es.length<=B (.slice es sp)
 elem:∀ es sp d,d∈es->B d<=B (.slice es sp)
 part:∀ ps d,d∈ps->B d<=B (.agg ps)
def Rdr {H:Type} (eh:TypeId×Value->H) (P:Program) (w:World) (B:DataW H->Nat) (t:TypeId) {α:Type} (enc:α->List AVal) (good:Nat->α->Prop):Prop:=
 ∀ (base:Nat) (spare:Nat->Bool) (held:Bool) (n:Nat) (cs:List Value) (x:DataW H×List MemPlace),DataW.trod eh P w base spare held n t cs=some x -> ∃ a:α,CellsR w cs (enc a)/\good (B x.1) a
def Mono {α:Type} (good:Nat->α->Prop):Prop:=∀ k k' a,k<=k'->good k a->good k' a
section
variable {H:Type} {eh:TypeId×Value->H} {P:Program} {w:World} {B:DataW H->Nat} {t:TypeId}
theorem Rdr.map {α β:Type} {enc:α->List AVal} {enc':β->List AVal} {good:Nat->α->Prop} {good':Nat->β->Prop} (r:Rdr eh P w B t enc good) (f:α->β) (he:∀ a,enc' (f a)=enc a) (hg:∀ k a,good k a->good' k (f a)):Rdr eh P w B t enc' good':=by
 intro base spare held n cs x h
 obtain ⟨a,h1,h2⟩:=r base spare held n cs x h
 exact ⟨f a,by rw [he];exact h1,hg _ _ h2⟩
theorem Rdr.bool (ht:P.underlying t=some .bool):Rdr eh P w B t (fun b:Bool=>[.bool b]) (fun _ _=>True):=by
 intro base spare held n cs x h
 obtain ⟨b,rfl,rfl⟩:=DataW.trod_bool ht h
 exact ⟨b,.one rfl fun g _=>.bool b,trivial⟩
theorem Rdr.int {k:IntKind} (ht:P.underlying t=some (.int k)):Rdr eh P w B t (fun n:Int=>[.int k n]) (fun _ n=>(Lit.int k n).wf=true):=by
 intro base spare held n cs x h
 obtain ⟨m,rfl,rfl,hw⟩:=DataW.trod_int ht h
 exact ⟨m,.one rfl fun g _=>.int k m,hw⟩
theorem Rdr.str (hB:Bulk B) (ht:P.underlying t=some .string):Rdr eh P w B t (fun l:List UInt8=>[.str l]) (fun k l=>l.length<=k):=by
 intro base spare held n cs x h
 obtain ⟨s,rfl,rfl,_⟩:=DataW.trod_string ht h
 exact ⟨s.data.toList,.one rfl fun g _=>.str s,hB.str _⟩
theorem list_choose {α:Type} {n:Nat} {p:Nat->α->Prop} (h:∀ i,i<n -> ∃ x,p i x):∃ l:List α,l.length=n /\ ∀ i a,l[i]? = some a->p i a:=by
 induction n with
 | zero=>exact ⟨[],rfl,fun i a h=>by simp at h⟩
 | succ n ih=>
   obtain ⟨l,hl,hp⟩:=ih fun i hi=>h i (by omega)
   obtain ⟨x,hx⟩:=h n (by omega)
   refine ⟨l++[x],by simp [hl],fun i a ha=>?_⟩
   by_cases hi:i<n
   ·rw [List.getElem?_append_left (by omega)] at ha;exact hp i a ha
   ·have hlt:=(List.getElem?_eq_some_iff.1 ha).1
    have hin:i=n:=by simp at hlt;omega
    subst hin
    rw [List.getElem?_append_right (by omega)] at ha
    simp [hl] at ha;subst ha;exact hx
theorem Rdr.slice {e:TypeId} {sz:Nat} {α:Type} {enc:α->List AVal} {good:Nat->α->Prop} (hB:Bulk B) (hm:Mono good) (ht:P.underlying t=some (.slice e)) (hsz:P.cellsOf e=sz) (h0:0<sz)
 (henc:∀ a,(enc a).length=sz) (r:Rdr eh P w B e enc good):Rdr eh P w B t (fun l:List α=>[.slc (l.map enc)]) (fun k l=>l.length<=k /\ ∀ a∈l,good k a):=by
 intro base spare held n cs x h
 rcases DataW.trod_slice ht h with ⟨rfl,rfl⟩ | ⟨ad,len,cap,elems,rest,n,rfl,rfl,rfl,hb,hl,_,hlen,hel,_,_⟩
 ·exact ⟨[],.one rfl fun g _=>.slc0 none 0,by simp,fun a ha=>by cases ha⟩
 ·have each:∀ i,i<len -> ∃ a:α,∃ cs',w.cells? base (ad.add (i*sz)) sz=some cs'/\CellsR w cs' (enc a)/\good (B (.slice (elems.map (·.1)) (rest.map (·.1)))) a:=by
   intro i hi
   have hi':i<elems.length:=by omega
   have h1:=hel i hi
   rw [List.getElem?_eq_getElem hi',hsz,Option.bind_eq_some_iff] at h1
   obtain ⟨cs',h2,h3⟩:=h1
   obtain ⟨a,h4,h5⟩:=r base spare held n cs' _ h3
   exact ⟨a,cs',h2,h4,hm _ _ a (hB.elem _ _ _ (List.mem_map.2 ⟨_,List.getElem_mem hi',rfl⟩)) h5⟩
  obtain ⟨l,hll,hp⟩:=list_choose each
  refine ⟨l,.one rfl fun g hg=>?_,by rw [hll,<-hlen];simpa using hB.len (elems.map (·.1)) (rest.map (·.1)),fun a ha=>?_⟩
  ·by_cases hz:len=0
   ·subst hz
    have:l=[]:=List.eq_nil_of_length_eq_zero hll
    subst this
    exact .slc0 _ _
   ·have cell:∀ (i j:Nat) (f:List AVal) (y:AVal),(l.map enc)[i]? = some f->f[j]? = some y -> ∃ u,w.cell? (ad.add (i*sz+j))=some u/\u.oneCell'=true/\VRel g w u y:=by
     intro i j f y hf hy
     rw [List.getElem?_map,Option.map_eq_some_iff] at hf
     obtain ⟨a,ha,rfl⟩:=hf
     obtain ⟨cs',h1,h2,_⟩:=hp i a ha
     obtain ⟨_,h3,h4⟩:=World.cells?_some h1
     have hj:j<sz:=by rw [<-henc a];exact (List.getElem?_eq_some_iff.1 hy).1
     have h5:=h4 j hj
     rw [Addr.add_add'] at h5
     have h6:cs'[j]? = some cs'[j]:=List.getElem?_eq_getElem (by omega)
     rw [h6] at h5
     have:=h2.2 g hg j _ y h6 hy
     exact ⟨_,h5,this.1,this.2⟩
    have hpos:0<l.length:=by omega
    obtain ⟨a0,ha0⟩:∃ a,l[0]? = some a:=⟨_,List.getElem?_eq_getElem hpos⟩
    have hf0:(l.map enc)[0]? = some (enc a0):=by rw [List.getElem?_map,ha0];rfl
    have he0:(enc a0)[0]? = some ((enc a0)[0]'(by rw [henc];exact h0)):=List.getElem?_eq_getElem _
    obtain ⟨u,hu,_,_⟩:=cell 0 0 _ _ hf0 he0
    have hspot:ad.spot=none:=by
     have:=World.cell?_spot hu
     simpa [Addr.add] using this
    have hblk:ad.block<w.heap.size:=by
     have hh:w.cell? ad=some u:=by simpa [Addr.add] using hu
     unfold World.cell? at hh
     split at hh
     ·rename_i c _ _ hc
      exact (Array.getElem?_eq_some_iff.1 hc).1
     ·cases hh
    have key:=VRel.slc_mk (g:=g) (w:=w) (ad:=ad) (c:=cap) (sz:=sz) (es:=l.map enc) (by simp [hll];exact hl) (fun f hf=>by obtain ⟨a,_,rfl⟩:=List.mem_map.1 hf;exact henc a) hspot (hg _ hblk) cell
    rw [List.length_map,hll] at key
    exact key
  ·obtain ⟨i,hi⟩:=List.mem_iff_getElem?.1 ha
   exact (hp i a hi).choose_spec.2.2
inductive RdrFs {H:Type} (eh:TypeId×Value->H) (P:Program) (w:World) (B:DataW H->Nat):List Field->Nat->(α:Type)->(α->List AVal)->(Nat->α->Prop)->Prop
 | nil (off:Nat):RdrFs eh P w B [] off Unit (fun _=>[]) (fun _ _=>True)
 | cons {f:Field} {fs:List Field} {off sz:Nat} {α β:Type} {enc:α->List AVal} {encs:β->List AVal} {good:Nat->α->Prop} {goods:Nat->β->Prop} (hf:f.offset=off) (hs:P.cellsOf f.type=sz) (hm:Mono good)
    (r:Rdr eh P w B f.type enc good) (t:RdrFs eh P w B fs (off+sz) β encs goods):RdrFs eh P w B (f :: fs) off (α×β) (fun p=>enc p.1++encs p.2) (fun k p=>good k p.1/\goods k p.2)
theorem RdrFs.read {fs:List Field} {off:Nat} {α:Type} {enc:α->List AVal} {good:Nat->α->Prop} (R:RdrFs eh P w B fs off α enc good) :
 ∀ {base:Nat} {spare:Nat->Bool} {held:Bool} {n k:Nat} {cs:List Value} {xs:List (DataW H×List MemPlace)},(∀ (i:Nat) (f:Field),fs[i]? = some f->DataW.trod eh P w base spare held n f.type ((cs.drop f.offset).take (P.cellsOf f.type))=xs[i]?) ->
   xs.length=fs.length->(∀ x∈xs,B x.1<=k) -> ∃ (a:α) (m:Nat),CellsR w ((cs.drop off).take m) (enc a)/\m=(fs.map fun f=>P.cellsOf f.type).sum/\good k a:=by
 induction R with
 | nil off=>intro base spare held n k cs xs _ _ _;exact ⟨(),0,⟨by simp,fun g _ j u c hu=>by simp at hu⟩,rfl,trivial⟩
 | cons hf hs hm r t ih=>
   intro base spare held n k cs xs h hl hb
   cases xs with
   | nil=>simp at hl
   | cons x xs=>
     have h0:=h 0 _ rfl
     rw [hf,hs] at h0
     obtain ⟨a,ha,hga⟩:=r _ _ _ _ _ _ h0
     obtain ⟨b,m,hbm,hms,hgb⟩:=ih (fun i f hi=>h (i+1) f (by simpa using hi)) (by simpa using hl) (fun y hy=>hb y (List.mem_cons_of_mem _ hy))
     subst hs
     refine ⟨(a,b),_+m,?_,by rw [List.map_cons,List.sum_cons,hms],hm _ _ _ (hb x List.mem_cons_self) hga,hgb⟩
     rw [List.take_add,List.drop_drop]
     exact ha.append hbm
theorem Rdr.struct {fs:Array Field} {α:Type} {enc:α->List AVal} {good:Nat->α->Prop} (hB:Bulk B) (ht:P.underlying t=some (.struct fs)) (hc:P.cellsOf t=(fs.toList.map fun f=>P.cellsOf f.type).sum) (R:RdrFs eh P w B fs.toList 0 α enc good):Rdr eh P w B t enc good:=by
 intro base spare held n cs x h
 obtain ⟨xs,n,rfl,rfl,hl,hxl,hx⟩:=DataW.trod_struct ht h
 obtain ⟨a,m,h1,h2,h3⟩:=R.read (k:=B (.agg (xs.map (·.1)))) (cs:=cs) (xs:=xs) (fun i f hi=>hx i f (by simpa using hi)) (by simpa using hxl) (fun y hy=>hB.part _ _ (List.mem_map.2 ⟨y,hy,rfl⟩))
 refine ⟨a,?_,h3⟩
 rw [List.drop_zero,h2,<-hc,<-hl,List.take_length] at h1
 exact h1
end
end Go.Sim
end
section
namespace Go.Sim
open Go
def g0 (w:World):Ghost:={ eta:=fun _=>0,bo:=fun _=>0,cap:=fun _=>0,sz:=fun _=>0,nxt:=0,fz:=fun b=>b<w.heap.size }
theorem HRel.g0 (w:World):HRel (fun _=>none) (g0 w) w:=⟨(fun r o hr=>by cases hr),(fun r r' o o' hr=>by cases hr),(fun b hb=>hb),(fun b ⟨r,hr,_⟩=>by cases hr),.none⟩
structure Old (w w':World):Prop where
 keep:∀ b,b<w.heap.size->w'.heap[b]? = w.heap[b]?
 os:w'.os=w.os
 output:w'.output=w.output
theorem PCalls.law {P:PG} {f:Nat} {as:List AVal} (hp:PCalls P f as (.bool true)) {w:World} {vs:Array Value} (GR:GRel P.gl (g0 w) w) (V:VRelL (g0 w) w vs as) :
 Calls P f vs w fun e w'=>e=.returned (.bool true)/\Old w w':=by
 refine ((hp _).2 (Sim.g0 w) w vs (HRel.g0 w) GR V).mono fun e w' ⟨v,r,h',g',he,⟨hr,_⟩,_,Vr,S⟩=>?_
 subst hr he
 rw [Vr.bool_inv]
 exact ⟨rfl,S.keep,S.os,S.output⟩
theorem PCalls.ofRun {P:PG} {f:Nat} {as:List AVal} {r:AVal} (hc:Callable P.p f)
 (h:∀ (g:Ghost) (w:World) (vs:Array Value),GRel P.gl g w->VRelL g w vs as->Calls P.p f vs w fun e w'=>∃ v,e=.returned v/\w'=w/\VRel g w v r):PCalls P f as r:=
 fun h0=>⟨hc,fun g w vs H GR V=>(h g w vs GR V).mono fun e w' ⟨v,he,hw,hv⟩=>by
  subst hw;exact ⟨v,r,h0,g,he,⟨rfl,rfl⟩,H,hv,GS.refl g _⟩⟩
theorem VRelL.one_inv {g:Ghost} {w:World} {vs:Array Value} {a:AVal} (V:VRelL g w vs [a]):∃ v,vs = #[v]/\VRel g w v a:=by
 obtain ⟨hs,hv⟩:=V
 obtain ⟨v,rfl⟩:=Array.size_eq_one_iff.1 hs
 exact ⟨v,rfl,hv 0 v a rfl rfl⟩
theorem VRelL.two_inv {g:Ghost} {w:World} {vs:Array Value} {a b:AVal} (V:VRelL g w vs [a,b]):∃ u v,vs = #[u,v]/\VRel g w u a/\VRel g w v b:=by
 obtain ⟨hs,hv⟩:=V
 obtain ⟨l⟩:=vs
 match l,hs with
 | [u,v],_=>exact ⟨u,v,rfl,hv 0 u a rfl rfl,hv 1 v b rfl rfl⟩
theorem GRel.int {G:U5} {g:Ghost} {w:World} {b:Nat} {k:IntKind} {m:Int} (GR:GRel G g w) (hG:G b=.pin [.int k m]):w.cell? ⟨b,0,none⟩=some (.int k m):=by
 have h:=(GR b).2
 rw [hG] at h
 obtain ⟨ad,he,_,_,hc⟩:=h.pin_inv
 cases he
 obtain ⟨u,h1,_,h3⟩:=hc 0 _ rfl
 rw [h3.int_inv'] at h1
 simpa [Addr.add] using h1
theorem VRel.pinInt {w:World} {b:Nat} {k:IntKind} {m:Int} (h:w.cell? ⟨b,0,none⟩=some (.int k m)):VRel (g0 w) w (.pointer (some ⟨b,0,none⟩)) (.pin [.int k m]):=by
 refine .pin ⟨b,0,none⟩ _ (fun _=>.int k m) rfl ?_ (fun j a hj=>?_) (fun j a hj=>rfl) (fun j a hj=>?_)
 ·show b<w.heap.size
  unfold World.cell? at h
  split at h
  ·rename_i c _ _ hc
   exact (Array.getElem?_eq_some_iff.1 hc).1
  ·cases h
 ·cases j with
  | zero=>simpa [Addr.add] using h
  | succ j=>simp at hj
 ·cases j with
  | zero=>simp at hj;subst hj;exact .int k m
  | succ j=>simp at hj
section
variable {H:Type} {enc:TypeId×Value->H}
end
section
variable {H:Type} {enc:TypeId×Value->H} {P:Program} {w w':World}
theorem Old.sameAt (O:Old w w') {p:MemPlace} (hp:p.block<w.heap.size):w.sameAt w' p:=by
 cases p with
 | cell b off=>exact World.cell?_of_block (O.keep b hp)
 | map b=>exact O.keep b hp
theorem trodAll_old (O:Old w w') {base:Nat} {spare:Nat->Bool} {held:Bool}:∀ {ts:List TypeId} {vs:List Value} {ds:List (DataW H)} {ps:List MemPlace},DataW.TrodAll enc P w base spare held ts vs ds ps->DataW.TrodAll enc P w' base spare held ts vs ds ps
 | [],[],[],_,h=>h
 | _ :: _,_ :: _,_ :: _,_,⟨p,q,⟨n,h1⟩,h2,e⟩=>⟨p,q,⟨n,DataW.trod_carry n _ _ _ h1 fun x hx=>O.sameAt (DataW.trod_lt n _ _ _ h1 x hx)⟩,trodAll_old O h2,e⟩
theorem law_post {f:Func} {s:ChangeSpec} {args:Array Value} {ds:List (DataW H)} {before:List MemPlace} {tb:TypeId} (O:Old w w')
 (hW:DataW.Whole enc P f.params.toList s.vars false w args.toList ds [] before) (hv:s.vars=[])
 (h1:(s.fn H (ds++[])).results=[.lit (.bool true)]) (h2:(s.fn H (ds++[])).args=ds) (h3:(s.fn H (ds++[])).vars=[])
 (hr:f.resultTypes = #[tb]) (htb:P.underlying tb=some .bool) (hl:laidOutB P=true) (hm:mapsRowed P=true) (hs:((List.range P.types.size).all fun t=>match P.underlying t with | some (.slice e)=>decide (0<P.cellsOf e) | _=>true)=true)
 (hT:∀ t∈f.params.toList,t<P.types.size):s.post enc P f false true false false w args (.bool true) w':=by
 obtain ⟨p,q,hA,hV,rfl,_,_⟩:=id hW
 rw [hv] at hV
 have hq:q=[]:=by cases q with | nil=>rfl | cons _ _=>simp [DataW.TrodVars] at hV
 subst hq
 refine ⟨ds,[],_,[],p,[],hW,?_,?_,?_,?_,fun h=>by cases h⟩
 ·rw [h1,hr]
  exact ⟨[],[],⟨1,by simp [DataW.trod,Value.cells,htb]⟩,rfl,rfl⟩
 ·rw [h2]
  refine trodAll_old O (DataW.TrodAll.respare (kids_rows hl hm) (fun t e ht=>slices_full_of P hs t e ht) hT hA fun x hx=>?_)
  simpa using hA.lt x hx
 ·rw [h3,hv];rfl
 ·exact World.keptBut_mono (fun _ h=>h.elim) (World.keptBut_none_iff.2 ⟨O.os,O.output,O.keep⟩)
theorem arg_one {r:Reach} {base:Nat} {t:TypeId} {v:Value} {a:AVal} {d:TypeDesc} (hu:P.underlying t=some d) (hd:match d with | .slice _ | .int _ | .bool | .string=>True | _=>False) (hv:Value.okWide P w r base t v) (h:CellsR w v.cells.toList [a]):VRel (g0 w) w v a:=by
 have hc:v.cells = #[v]:=by
  unfold Value.okWide at hv
  cases d <;> simp at hd <;> simp only [hu,Cell.okWide,Cell.ok] at hv <;> cases v <;> first | rfl | (simp at hv)
 rw [hc] at h
 exact (h.2 (g0 w) (fun _ h=>h) 0 v a rfl rfl).2
theorem arg_agg {r:Reach} {base:Nat} {t:TypeId} {v:Value} {as:List AVal} {fs:Array Field} (hu:P.underlying t=some (.struct fs)) (hv:Value.okWide P w r base t v) (h:CellsR w v.cells.toList as):VRel (g0 w) w v (.agg as):=by
 unfold Value.okWide at hv
 simp only [hu] at hv
 obtain ⟨cs,rfl,_⟩:=hv
 have hc:(Value.agg cs).cells=cs:=rfl
 rw [hc] at h
 refine .agg cs as (by simpa using h.1) (fun j u hj=>?_) fun j u c hj hc=>(h.2 (g0 w) (fun _ h=>h) j u c (by simpa using hj) hc).2
 have hjl:j<as.length:=by rw [<-h.1];simpa using (Array.getElem?_eq_some_iff.1 hj).1
 exact (h.2 (g0 w) (fun _ h=>h) j u _ (by simpa using hj) (List.getElem?_eq_getElem hjl)).1
inductive VAll (g:Ghost) (w:World):List Value->List AVal->Prop
 | nil:VAll g w [] []
 | cons {v:Value} {a:AVal} {vs:List Value} {as:List AVal} (h:VRel g w v a) (t:VAll g w vs as):VAll g w (v :: vs) (a :: as)
theorem VAll.rel {g:Ghost} {w:World} {vs:List Value} {as:List AVal} (h:VAll g w vs as):VRelL g w vs.toArray as:=by
 induction h with
 | nil=>exact ⟨rfl,fun j u a hu=>by simp at hu⟩
 | cons h t ih=>
   refine ⟨by simpa using ih.1,fun j u a hu ha=>?_⟩
   cases j with
   | zero=>simp at hu ha;subst hu ha;exact h
   | succ j=>exact ih.2 j u a (by simpa using hu) (by simpa using ha)
end
end Go.Sim
end
section
set_option linter.defProp false
namespace Go.Sim
open Go
abbrev o (d:Nat) (i:SI):SOp:=⟨some d,i,none⟩
theorem o_eq (d:Nat) (i:SI):o d i=⟨some d,i,none⟩:=rfl
def VC1:=(And.intro (And.intro (And.intro (And.intro (And.intro @vc_skip @vc_reg) (And.intro @vc_dreg @vc_seq)) (And.intro (And.intro @vc_cond @vc_block) (And.intro @vc_loop @vc_exit))) (And.intro (And.intro (And.intro @vc_range @setPs_cons) (And.intro @setPs_nil @roundK_normal)) (And.intro (And.intro @roundK_exit @roundK_ret) (And.intro @vc_ret @thenK_normal)))) @o_eq)
def VC2:=(And.intro (And.intro (And.intro (And.intro @thenK_exit @thenK_ret) (And.intro @blockK_normal @blockK_ret)) (And.intro (And.intro @blockK_exit @vcOps_nil) (And.intro @vcOps_cons @vcD_nil))) (And.intro (And.intro (And.intro @vcD_false @vcD_true) (And.intro @vcV_none @vcV_some)) (And.intro (And.intro @gateX_bool @gateX_tup) (And.intro @Sp_bool @Sp_tup))))
def VC3:=(And.intro (And.intro (And.intro (And.intro @retK_normalS @retK_retS) (And.intro @vcI_mv @vcI_pick)) (And.intro (And.intro @vcI_bin @vcI_eqs) (And.intro @vcI_eqb @vcI_un))) (And.intro (And.intro (And.intro @vcI_cvi @vcI_idc) (And.intro @vcI_fld @vcI_fldA)) (And.intro (And.intro @vcI_idxA @vcI_idxS) (And.intro @vcI_ld @vcI_ldm))))
def VC4:=(And.intro (And.intro (And.intro (And.intro @vcI_slS @vcI_slA) (And.intro @vcI_slM @vcI_ext)) (And.intro (And.intro @vcI_bld @vcI_bldF) (And.intro @vcI_len @vcI_lenS))) (And.intro (And.intro (And.intro @vcI_min2 @vcI_max2) (And.intro @vcI_mkf @vcI_isnil)) (And.intro (And.intro @vcI_bldR @vcI_box) (And.intro @vcI_boxF @vcI_new))))
def VC5:=(And.intro (And.intro (And.intro (And.intro @vcI_newnil @vcI_st) (And.intro @vcI_app @vcI_appS)) (And.intro (And.intro @vcI_appIn @vcI_appF) (And.intro @vcI_frz @vcI_slX))) (And.intro (And.intro (And.intro @vcI_mks @vcI_copy) (And.intro @vcI_clear @vcI_b2s)) (And.intro (And.intro @vcI_usd @vcI_ustr) (And.intro @vcI_call @vcI_pcall))))
def VC6:=(And.intro (And.intro (And.intro (And.intro @ev_t @ev_c) (And.intro @evO_some @evO_none)) (And.intro (And.intro @setD_some @setD_none) (And.intro @upd_apply @keepR_nil))) (And.intro (And.intro (And.intro @keepR_cons @dropR_nil) (And.intro @dropR_cons @List.contains_cons.{0})) (And.intro (And.intro @List.contains_nil.{0} @Bool.or_false) (And.intro @Bool.false_or @Bool.or_true))))
def VC7:=(And.intro (And.intro (And.intro (And.intro @Bool.true_or @Option.getD_some.{0}) (And.intro @upd_upd @getD_map_enc)) (And.intro (And.intro @Bool.and_true @Bool.false_xor) (And.intro @Bool.true_xor @Bool.xor_false))) (And.intro (And.intro (And.intro @natCast_succ_sub @Int.toNat_natCast_add_one) (And.intro @List.map_cons.{0,0} @List.map_nil.{0,0})) (And.intro (And.intro @aLen_sl @okLen_sl) (And.intro @okIdxA_sl @aIdxA_sl))))
def VC8:=(And.intro (And.intro (And.intro (And.intro @aSlA_sl @okSlA_sl) (And.intro @Rd_sl @nil_sl)) (And.intro (And.intro @wrap_i64 @aBin_add) (And.intro @okBin_add @aBin_sub))) (And.intro (And.intro (And.intro @okBin_sub @aBin_mul) (And.intro @okBin_mul @aBin_quo)) (And.intro (And.intro @okBin_quo @aBin_rem) (And.intro @okBin_rem @aBin_shl))))
def VC9:=(And.intro (And.intro (And.intro (And.intro @okBin_shl @aBin_shr) (And.intro @okBin_shr @aBin_eql)) (And.intro (And.intro @okBin_eql @aBin_neq) (And.intro @okBin_neq @aBin_lss))) (And.intro (And.intro (And.intro @okBin_lss @aBin_leq) (And.intro @okBin_leq @aBin_gtr)) (And.intro (And.intro @okBin_gtr @aBin_geq) (And.intro @okBin_geq @aBin_and))))
def VC10:=(And.intro (And.intro (And.intro (And.intro @okBin_and @aBin_or) (And.intro @okBin_or @aBin_xor)) (And.intro (And.intro @okBin_xor @aBin_andNot) (And.intro @okBin_andNot @aBinS_add))) (And.intro (And.intro (And.intro @okBinS_add @aBinS_eql) (And.intro @okBinS_eql @aBinS_neq)) (And.intro (And.intro @okBinS_neq @aBinS_lss) (And.intro @okBinS_lss @aBinS_geq))))
def VC11:=(And.intro (And.intro (And.intro (And.intro @okBinS_geq @aBinS_gtr) (And.intro @okBinS_gtr @aBinS_leq)) (And.intro (And.intro @okBinS_leq @aUn_not) (And.intro @okUn_not @aUn_neg))) (And.intro (And.intro (And.intro @okUn_neg @aUn_xor) (And.intro @okUn_xor @aEqb_bool)) (And.intro (And.intro @okEqb_bool @aEqs_agg) (And.intro @okEqs_agg @aCvi_int))))
def VC12:=(And.intro (And.intro (And.intro (And.intro @okCvi_int @aPick_bool) (And.intro @okPick_bool @aFld_agg)) (And.intro (And.intro @okFld_agg @cutV_true) (And.intro @cutV_false @aFldA_pin))) (And.intro (And.intro (And.intro @okFldA_pin @aFldA_ptr) (And.intro @okFldA_ptr @deVp_vp)) (And.intro (And.intro @deVp_ptr @deVp_pin) (And.intro @aFldA_vp @okFldA_vp))))
def VC13:=(And.intro (And.intro (And.intro (And.intro @okLd_vp @aLd_vp) (And.intro @nil_vp @cells_vp)) (And.intro (And.intro @isV_vp @stE_vp) (And.intro @aIdxA_osl @okIdxA_osl))) (And.intro (And.intro (And.intro @aIdxA_slc @okIdxA_slc) (And.intro @aIdxS_str @okIdxS_str)) (And.intro (And.intro @aLd_pin @okLd_pin) (And.intro @okLd_ptr @aLd_ptr))))
def VC14:=(And.intro (And.intro (And.intro (And.intro @ldO_some @aExt_tup) (And.intro @okExt_tup @aLen_osl)) (And.intro (And.intro @okLen_osl @aLen_slc) (And.intro @okLen_slc @aLen_emp))) (And.intro (And.intro (And.intro @okLen_emp @aLenS_str) (And.intro @okLenS_str @aMin_int)) (And.intro (And.intro @aMax_int @ok2i_int) (And.intro @aSlS_str @okSlS_str))))
def VC15:=(And.intro (And.intro (And.intro (And.intro @loOf_int @loOf_none) (And.intro @hiOf_int @hiOf_none)) (And.intro (And.intro @okB_int @okB_none) (And.intro @aSlA_osl @okSlA_osl))) (And.intro (And.intro (And.intro @aSlA_emp @okSlA_emp) (And.intro @okSlM_osl @nil_slc)) (And.intro (And.intro @nil_emp @nil_osl) (And.intro @nil_snil @nil_ptr))))
def VC16:=(And.intro (And.intro (And.intro (And.intro @nil_pin @nil_pnil) (And.intro @nil_fn @nil_fnil)) (And.intro (And.intro @stE_ptr @stE_pin) (And.intro @aIdxG_pin @aR2s_int))) (And.intro (And.intro (And.intro @blockK_goto @gotoK_exit) (And.intro @gotoK_goto @gotoK_normal)) (And.intro (And.intro @gotoK_ret @noGoK_exit) (And.intro @noGoK_normal @noGoK_ret))))
def VC17:=(And.intro (And.intro (And.intro (And.intro @okIdxG_pin @thenK_goto) (And.intro @vcI_idxG @vcI_r2s)) (And.intro (And.intro @vc_goto @vc_label) (And.intro @vc_scope @appE_emp))) (And.intro (And.intro (And.intro @appE_osl @appFE_emp) (And.intro @appFE_osl @frzE_emp)) (And.intro (And.intro @frzE_slc @frzE_sl) (And.intro @frzE_osl @Rd_slc))))
def VC18:=(And.intro (And.intro (And.intro (And.intro @Rd_emp @cells_agg) (And.intro @cells_int @isV_int)) (And.intro (And.intro @cells_bool @isV_bool) (And.intro @cells_str @isV_str))) (And.intro (And.intro (And.intro @cells_slc @isV_slc) (And.intro @cells_emp @isV_emp)) (And.intro (And.intro @cells_osl @isV_osl) (And.intro @cells_ptr @isV_ptr))))
def VC19:=(And.intro (And.intro (And.intro (And.intro @cells_pin @isV_pin) (And.intro @cells_fn @isV_fn)) (And.intro (And.intro @isV_agg @cells_sl) (And.intro @isV_sl @callE_fn))) (And.intro (And.intro (And.intro @allOK_nil @allOK_cons) (And.intro @resOK_tmp @resOK_cell)) (And.intro (And.intro @resV_tmp @resV_cell) (And.intro @retV_one @retV_two))))
def VC20:=(And.intro (And.intro (And.intro (And.intro @retV_nil @initE_at) (And.intro @initE_gl @Br_true)) (And.intro (And.intro @Br_false @condOn_br) (And.intro @Rd_oslE @appInE_osl))) (And.intro (And.intro (And.intro @slXE_osl @mksE_int) (And.intro @copyE_osl @clearE_osl)) (And.intro (And.intro @usdE_emp @usdE_osl) (And.intro @ustrE_anyp @ustrE_ptr))))
def VC21:=(And.intro (And.intro (And.intro (And.intro @List.set_cons_zero.{0} @List.set_cons_succ.{0}) (And.intro @List.set_nil.{0} @List.getD_cons_zero.{0})) (And.intro (And.intro @List.getD_cons_succ.{0} @List.headD_cons.{0}) (And.intro @List.drop_zero.{0} @List.drop_succ_cons.{0}))) (And.intro (And.intro (And.intro @List.take_succ_cons.{0} @List.take_zero.{0}) (And.intro @List.length_cons.{0} @List.length_nil.{0})) (And.intro (And.intro @List.length_map.{0,0} @List.nil_append.{0}) (And.intro @List.cons_append.{0} @List.append_nil.{0}))))
def VC22:=(And.intro (And.intro (And.intro (And.intro @List.mem_cons.{0} @List.not_mem_nil.{0}) (And.intro @or_false @or_true)) (And.intro (And.intro @Int.toNat_zero @List.take_length.{0}) (And.intro @List.isEmpty_cons.{0} @List.isEmpty_nil.{0}))) (And.intro (And.intro (And.intro @Nat.le_refl @Int.toNat_natCast) (And.intro @true_and @and_true)) (And.intro (And.intro @Bool.true_eq_false @Bool.false_eq_true) (And.intro @Bool.not_true @Bool.not_false))))
def VC23:=(And.intro (And.intro (And.intro (And.intro @false_implies @true_implies) (And.intro @not_true_eq_false @not_false_eq_true)) (And.intro (And.intro @AVal.int.injEq @AVal.bool.injEq) (And.intro @AVal.str.injEq @Option.some.injEq.{0}))) (And.intro (And.intro (And.intro @imp_self @and_self) (And.intro @Nat.zero_add @Nat.add_zero)) (And.intro (And.intro @Nat.sub_zero @vcI_mkm) (And.intro @vcI_mup @vcI_lkp))))
def VC24:=(And.intro (And.intro (And.intro (And.intro @mupE_mpr @okLkp_mpr) (And.intro @aLkp_mpr @entsOf_some)) (And.intro (And.intro @isM_m @ents_m) (And.intro @setM_m @isKeyA_int))) (And.intro (And.intro (And.intro @isKeyA_str @isV_mpr) (And.intro @cells_mpr @aFound_int)) (And.intro (And.intro @aFound_int2 @aFound_set) (And.intro @all_eM @mFind_eM))))
def VC25:=(And.intro (And.intro (And.intro @mPut_eM @all_eMs) (And.intro @mFind_eMs (And.intro @mPut_eMs @OTy.lit))) (And.intro (And.intro @vcI_s2b (And.intro @s2bE_str @vcI_rng)) (And.intro @rngE_str (And.intro @vcI_nxt @nxtE_ptr))))
def VCA:=(And.intro (And.intro (And.intro (And.intro VC1 (And.intro VC2 VC3)) (And.intro VC4 (And.intro VC5 VC6))) (And.intro (And.intro VC7 (And.intro VC8 VC9)) (And.intro VC10 (And.intro VC11 VC12)))) (And.intro (And.intro (And.intro VC13 (And.intro VC14 VC15)) (And.intro VC16 (And.intro VC17 VC18))) (And.intro (And.intro VC19 (And.intro VC20 VC21)) (And.intro (And.intro VC22 VC23) (And.intro VC24 VC25)))))
section
variable {P:PG} {g:Ghost} {w:World} {h h0 h1:Z2}
def Ghost.frzs (g:Ghost) (h1:Z2):Ghost:={ g with fz:=fun b=>g.fz b \/ ∃ r o,h1 r=some o/\g.cap r≠0/\g.eta r=b }
theorem GS.frzs (H:HRel h g w) (hs:Sub h1 h):GS g w (g.frzs h1) w where
 nxt:=Nat.le_refl _
 eta _ _:=rfl
 bo _ _:=rfl
 cap _ _:=rfl
 sz _ _:=rfl
 fz b hb:=.inl hb
 keep _ _:=rfl
 os:=rfl
 tape:=rfl
 output:=rfl
 size:=Nat.le_refl _
 own _ _ _:=rfl
 new _ _ ho:=ho
 fzn b _ hn hf:=by
  rcases hf with hf | ⟨r,o,hr,hc,he⟩
  ·exact hf
  ·exact absurd ⟨r,(H.obj r o (hs r o hr)).lt,hc,he⟩ hn
 fzc b hf:=by
  rcases hf with hf | ⟨r,o,hr,hc,he⟩
  ·exact .inl hf
  ·refine .inr fun ⟨ob,hob,hcl⟩=>?_
   obtain ⟨cur,t,f,hw⟩:=H.ow b ⟨r,(H.obj r o (hs r o hr)).lt,hc,he⟩
   rw [hw] at hob
   cases hob
   simp [Obj.isCells] at hcl
theorem HRel.frzs (H:HRel h g w) (h0s:Sub h0 h) (h1s:Sub h1 h) (hd:∀ r o,h1 r=some o->h0 r=none):HRel h0 (g.frzs h1) w:=by
 have S:=GS.frzs H h1s
 refine ⟨fun r o hr=>?_,fun r r' o o' hr hr'=>H.inj r r' o o' (h0s r o hr) (h0s r' o' hr'),fun b hb=>?_,fun b hb=>H.ow b hb,H.mob.step S fun _ _ _ ⟨sz,cs,ht⟩=>⟨sz,cs,h0s _ _ ht⟩⟩
 ·have O:=H.obj r o (h0s r o hr)
  refine ⟨O.lt,O.sz,O.pos,O.len,O.le,?_⟩
  by_cases hc0:g.cap r=0
  ·exact .inl hc0
  rcases O.block with hc | ⟨hlt,hnf,cur,hcur,hsz,hcell⟩
  ·exact .inl hc
  ·refine .inr ⟨hlt,?_,cur,hcur,hsz,fun i j e a he ha=>?_⟩
   ·rintro (hf | ⟨r',o',hr',hc',he'⟩)
    ·exact hnf hf
    ·have e:=H.inj r' r o' o (h1s r' o' hr') (h0s r o hr) hc' hc0 he'
     subst e
     rw [hd r' o' hr'] at hr
     cases hr
   ·obtain ⟨u,hu,h1',h2⟩:=hcell i j e a he ha
    exact ⟨u,hu,h1',h2.step S.toGStep⟩
 ·rcases hb with hb | ⟨r,o,hr,hc,he⟩
  ·exact H.fz b hb
  ·rcases (H.obj r o (h1s r o hr)).block with h0 | ⟨hlt,_⟩
   ·exact absurd h0 hc
   ·rw [<-he];exact hlt
theorem Vw.relF (H:HRel h g w) (hs:Sub h1 h) {a b:AVal} (hv:Vw h1 a b):∀ {v:Value},VRel g w v a->VRel (g.frzs h1) w v b:=by
 have S:=GS.frzs H hs
 induction hv with
 | refl a=>intro v V;exact V.step S.toGStep
 | emp=>
   intro v V
   obtain ⟨A,rfl,_⟩:=V.emp_inv
   exact .slc0 A 0
 | agg as bs hl hh ih=>
   intro v V
   obtain ⟨vs,rfl,hvl,h1,h2⟩:=V.agg_inv
   refine .agg vs bs (hvl.trans hl) h1 fun j u b hu hb=>?_
   have hj:j<as.length:=by rw [hl];exact (List.getElem?_eq_some_iff.1 hb).1
   exact ih j _ b (List.getElem?_eq_getElem hj) hb (h2 j u _ hu (List.getElem?_eq_getElem hj))
 | slc es fs hl hle hh ih=>
   intro v V
   obtain ⟨A,c,rfl,hin⟩:=V.slc_inv
   by_cases hp:0<es.length
   ·obtain ⟨hc,ad,sz,rfl,hsp,hf,hsz,hcell⟩:=hin hp
    rw [hl]
    refine .slc_mk (sz:=sz) (by omega) (fun f hf'=>?_) hsp (.inl hf) fun i j f x hi hx=>?_
    ·obtain ⟨i,hi⟩:=List.mem_iff_getElem?.1 hf'
     have hil:i<es.length:=by rw [hl];exact (List.getElem?_eq_some_iff.1 hi).1
     rw [<-hle i _ f (List.getElem?_eq_getElem hil) hi]
     exact hsz _ (List.getElem_mem hil)
    ·have hil:i<es.length:=by rw [hl];exact (List.getElem?_eq_some_iff.1 hi).1
     have he:=List.getElem?_eq_getElem hil
     have hjl:j<es[i].length:=by rw [hle i _ f he hi];exact (List.getElem?_eq_some_iff.1 hx).1
     obtain ⟨u,hu,h1,h2⟩:=hcell i j _ _ he (List.getElem?_eq_getElem hjl)
     exact ⟨u,hu,h1,ih i j _ f _ x he hi (List.getElem?_eq_getElem hjl) hx h2⟩
   ·have h0:es.length=0:=by omega
    have hfs:fs=[]:=List.eq_nil_of_length_eq_zero (by omega)
    subst hfs
    rw [h0]
    exact .slc0 A c
 | osl r sz i n o fs hr hle hl hll hh ih=>
   intro v V
   obtain ⟨hrl,hsz,hc⟩:=V.osl_inv
   have O:=H.obj r o (hs r o hr)
   by_cases hn:n=0
   ·subst hn
    have hfs:fs=[]:=List.eq_nil_of_length_eq_zero hl
    subst hfs
    rcases hc with ⟨rfl,_⟩ | ⟨cap,off,rfl,_⟩
    ·exact .slc0 _ _
    ·exact .slc0 _ _
   ·rcases hc with ⟨_,_,h0,_⟩ | ⟨cap,off,rfl,hnc,hm,hi,hoff⟩
    ·exact absurd h0 hn
    ·have hof:=hoff (by omega)
     rcases O.block with h0 | ⟨hlt,_,cur,hcur,_,hcell⟩
     ·have:=O.le;omega
     ·rw [<-hl]
      refine .slc_mk (sz:=sz) (by omega) hll rfl (.inr ⟨r,o,hr,by have:=O.le;omega,rfl⟩) fun k j f x hk hx=>?_
      have hkn:k<n:=by rw [<-hl];exact (List.getElem?_eq_some_iff.1 hk).1
      have hki:i+k<o.es.length:=by omega
      have he:=List.getElem?_eq_getElem hki
      have hjl:j<o.es[i+k].length:=by
       rw [O.len _ (List.getElem_mem hki),<-O.sz,hsz,<-hll f (List.mem_of_getElem? hk)]
       exact (List.getElem?_eq_some_iff.1 hx).1
      obtain ⟨u,hu,h1,h2⟩:=hcell _ j _ _ he (List.getElem?_eq_getElem hjl)
      refine ⟨u,?_,h1,ih k j _ f _ x he hk (List.getElem?_eq_getElem hjl) hx h2⟩
      rw [Addr.add_lit,hcur.cell,<-hu,hof,<-O.sz,hsz,Nat.add_mul]
      congr 1;omega
 | ptr r i j o fs hr hi hl hh ih=>
   intro v V
   obtain ⟨hrl,rfl⟩:=V.ptr_inv
   have O:=H.obj r o (hs r o hr)
   have hcap:g.cap r≠0:=by have:=O.le;omega
   refine VRel.pin_mk rfl (.inr ⟨r,o,hr,hcap,rfl⟩) fun k b hb=>?_
   have hkl:k<((o.es.getD i []).drop j).length:=by
    have:=(List.getElem?_eq_some_iff.1 hb).1
    rw [List.length_drop]
    omega
   have hka:=List.getElem?_eq_getElem hkl
   obtain ⟨u,hu,h1,h2⟩:=O.cells hi j k _ hka
   exact ⟨u,hu,h1,ih k _ b hka hb h2⟩
 | vp r j b hh ih=>intro v V;exact ih V.deVp
inductive VwT (h:Z2):AVal->AVal->Prop
 | one (a b:AVal) (hv:Vw h a b):VwT h a b
 | tup (as bs:List AVal) (hl:as.length=bs.length) (hh:∀ (j:Nat) (a b:AVal),as[j]? = some a->bs[j]? = some b->Vw h a b):VwT h (.tup as) (.tup bs)
theorem VwT.relF (H:HRel h g w) (hs:Sub h1 h) {a b:AVal} (hv:VwT h1 a b) {v:Value} (V:VRel g w v a):VRel (g.frzs h1) w v b:=by
 cases hv with
 | one a b hv=>exact hv.relF H hs V
 | tup as bs hl hh=>
   obtain ⟨vs,rfl,hvl,h2⟩:=V.tup_inv
   refine .tup vs bs (hvl.trans hl) fun j u b hu hb=>?_
   have hj:j<as.length:=by rw [hl];exact (List.getElem?_eq_some_iff.1 hb).1
   exact (hh j _ b (List.getElem?_eq_getElem hj) hb).relF H hs (h2 j u _ hu (List.getElem?_eq_getElem hj))
theorem DCalls.outV {f:Nat} {args:List AVal} {K0 K:AVal->Z2->Prop} (hd:DCalls P f args h K0)
 (hk:∀ a h',K0 a h' -> ∃ h0 h1 b,Sub h0 h'/\Sub h1 h'/\(∀ r o,h1 r=some o->h0 r=none)/\VwT h1 a b/\K b h0):DCalls P f args h K:=by
 refine ⟨hd.1,fun g w vs H GR V=>(hd.2 g w vs H GR V).mono fun e w' ⟨v',a,h',g',he,k0,H',Va,S⟩=>?_⟩
 obtain ⟨h0,h1,b,s0,s1,hdj,hv,k⟩:=hk a h' k0
 exact ⟨v',b,h0,_,he,k,H'.frzs s0 s1 hdj,hv.relF H' s1 Va,S.trans (GS.frzs H' s1)⟩
def newH (h h':Z2):Z2:=fun r=>match h r with
 | none=>h' r
 | some _=>none
theorem newH_none {h h':Z2} {r:Nat} (hr:h r=none):newH h h' r=h' r:=by unfold newH;rw [hr]
theorem newH_sub (h h':Z2):Sub (newH h h') h':=fun r o hr=>by
 unfold newH at hr
 cases hh:h r with
 | none=>rw [hh] at hr;exact hr
 | some x=>rw [hh] at hr;cases hr
theorem newH_disj (h h':Z2):∀ r o,newH h h' r=some o->h r=none:=fun r o hr=>by
 unfold newH at hr
 cases hh:h r with
 | none=>rfl
 | some x=>rw [hh] at hr;cases hr
theorem PCalls.outV {f:Nat} {args:List AVal} {v:AVal} (hd:∀ h,DCalls P f args h fun a h'=>Sub h h'/\VwT (newH h h') a v):PCalls P f args v:=fun h=>
 (hd h).outV fun _ h' ⟨S,hv⟩=>⟨h,newH h h',v,S,newH_sub h h',newH_disj h h',hv,rfl,rfl⟩
theorem Vw.agg' {as bs:List AVal} (hh:F2 (Vw h) as bs):Vw h (.agg as) (.agg bs):=.agg as bs hh.len hh.get
theorem VwT.tup' {as bs:List AVal} (hh:F2 (Vw h) as bs):VwT h (.tup as) (.tup bs):=.tup as bs hh.len hh.get
theorem Vw.osl0 {r sz n:Nat} {o:AObj} {fs:List (List AVal)} (hr:h r=some o) (hl:fs.length=n) (hle:n<=o.es.length) (hll:∀ f∈fs,f.length=sz) (hh:F2 (F2 (Vw h)) (o.es.take n) fs):Vw h (.osl r sz 0 n) (.slc fs):=by
 refine .osl r sz 0 n o fs hr (by omega) hl hll fun k j e f a b he hf ha hb=>?_
 rw [Nat.zero_add] at he
 have hk:k<n:=by rw [<-hl];exact (List.getElem?_eq_some_iff.1 hf).1
 have he':(o.es.take n)[k]? = some e:=by rw [List.getElem?_take,if_pos hk];exact he
 exact (hh.get k e f he' hf).get j a b ha hb
end
end Go.Sim
end
section
namespace Go.Sim
open Go
theorem Dat.rel {g g':Ghost} {w:World} (hf:∀ b,g.fz b->g'.fz b) {a:AVal} (hd:Dat a):∀ {v:Value},VRel g w v a->VRel g' w v a:=by
 induction hd with
 | prim u=>intro v hv;cases hv;exact .prim _
 | int k n=>intro v hv;cases hv;exact .int _ _
 | bool b=>intro v hv;cases hv;exact .bool _
 | str l=>intro v hv;rw [hv.str_inv'];exact VRel.str' l
 | agg cs h ih=>
   intro v hv
   obtain ⟨vs,rfl,hl,h1,h2⟩:=hv.agg_inv
   exact .agg vs cs hl h1 fun j u c hu hc=>ih c (List.mem_of_getElem? hc) (h2 j u c hu hc)
 | slc es h ih=>
   intro v hv
   cases hv with
   | slc0 A c=>exact .slc0 A c
   | slc ad n c sz _ us hn hc hsz hs hfz h1 h2 h3=>exact .slc ad n c sz es us hn hc hsz hs (hf _ hfz) h1 h2 fun i j e x he hx=>ih e (List.mem_of_getElem? he) x (List.mem_of_getElem? hx) (h3 i j e x he hx)
 | emp=>intro v hv;cases hv with
   | emp0=>exact .emp0
   | empS ad hs hfz hc=>exact .empS ad hs (hf _ hfz) hc
 | pin cs h ih=>
   intro v hv
   obtain ⟨ad,rfl,hs,hfz,hc⟩:=hv.pin_inv
   exact VRel.pin_mk hs (hf _ hfz) fun j b hb=>by
    obtain ⟨u,h1,h2,h3⟩:=hc j b hb
    exact ⟨u,h1,h2,ih b (List.mem_of_getElem? hb) h3⟩
 | tup cs h ih=>
   intro v hv
   obtain ⟨vs,rfl,hl,h2⟩:=hv.tup_inv
   exact .tup vs cs hl fun j u c hu hc=>ih c (List.mem_of_getElem? hc) (h2 j u c hu hc)
 | dead=>intro v hv;exact .dead v
def Ghost.bare (g:Ghost):Ghost:={ g with nxt:=0,tn:=fun _=>False }
section
variable {P:PG} {n:Nat} {ann:Ann} {W:World} {g:Ghost} {a:Act} {e:Env}
theorem yield_op {o:Oper} {c:Call} {f:Operand} {l m:Nat} {next:Act->World->Prop} {Q:Exit->Act->World->Prop} {A B:World->Prop} (ho:o.op=.call c) (hc:c.callee=.value f) (hf:a.eval f=.func (.yield l) #[] #[])
 (hy:YieldAt (FR none) m P l (c.args.map a.eval) W fun e W'=>(e=.returned (.bool true)/\A W')\/(e=.returned (.bool false)/\B W')) (hA:∀ W',A W'->next (a.put o.dst (.bool true)) W') (hB:∀ W',B W'->next (a.put o.dst (.bool false)) W') :
 o.wpIn (FR none) (m+1) P a W next Q:=by
 obtain ⟨fn,tmps,assign,body,hrun,hR⟩:=hy
 refine ⟨fun _ _=>trivial,?_⟩
 have e:o.semAt (FR none).round a.eval=execOp a.eval o:=rfl
 have hex:(execOp a.eval o).run P W=.ok (.round l fn tmps assign body) W:=by
  simp only [execOp,ho,resolve,hc,hf,Deferred.ofValue,Sem.run_bind,Sem.run_pure,Result.andThen_ok,invoke]
  simpa using hrun
 rw [e,hex]
 refine ⟨(fun h=>by cases h),hR.mono fun e' W' hh=>?_⟩
 rcases hh with ⟨rfl,h⟩ | ⟨rfl,h⟩
 ·exact hA W' h
 ·exact hB W' h
end
end Go.Sim
end
section
set_option linter.defProp false
namespace Go.Sim
open Go
theorem VRel.heap {g:Ghost} {w w':World} (hk:∀ b,g.fz b->w'.heap[b]? = w.heap[b]?) {v:Value} {a:AVal} (h:VRel g w v a):VRel g w' v a:=by
 have hcell:∀ ad:Addr,g.fz ad.block->w'.cell? ad=w.cell? ad:=fun ad hb=>World.cell?_of_block (hk _ hb)
 induction h with
 | prim v=>exact .prim v
 | int k n=>exact .int k n
 | bool b=>exact .bool b
 | str s=>exact .str s
 | agg vs cs hl h1 _ ih=>exact .agg vs cs hl h1 ih
 | slc0 A c=>exact .slc0 A c
 | slc ad n c sz es us hn hc hsz hsp hf h1 h2 _ ih=>
   exact .slc ad n c sz es us hn hc hsz hsp hf (fun i j e a he ha=>(hcell _ (by rw [Addr.block_add];exact hf)).trans (h1 i j e a he ha)) h2 ih
 | emp0=>exact .emp0
 | empS ad hsp hf hc=>exact .empS ad hsp hf (by rw [hk _ hf];exact hc)
 | osl0 r sz hr hc hz=>exact .osl0 r sz hr hc hz
 | osl r sz i n cap off hr hz hc hm hi ho=>exact .osl r sz i n cap off hr hz hc hm hi ho
 | ptr r i j hr=>exact .ptr r i j hr
 | vp r j hr hb hc=>exact .vp r j hr hb hc
 | mpr r hr=>exact .mpr r hr
 | anyp q=>exact .anyp q
 | pin ad cs us hsp hf h1 h2 _ ih=>exact .pin ad cs us hsp hf (fun j a ha=>(hcell _ (by rw [Addr.block_add];exact hf)).trans (h1 j a ha)) h2 ih
 | fn f fs cs as bs hf hc _ _ ih1 ih2=>exact .fn f fs cs as bs hf hc ih1 ih2
 | tup vs as hl _ ih=>exact .tup vs as hl ih
 | dead v=>exact .dead v
inductive IOp | op (s:SOp) | yld (dst:Option Nat) (f:SX) (args:List SX)
inductive ICode:Type
 | skip
 | reg (ops:List IOp)
 | seq (a b:ICode)
 | cond (x:SX) (a b:ICode)
 | block (id:Nat) (c:ICode)
 | loop (c:ICode)
 | exit (id:Nat)
 | ret
def yieldOf (o:Oper):Option (Nat×List Operand):=
 match o.op,o.guard with
 | .call c,none=>match c.callee with
   | .value (.tmp t)=>if t<1000000 then some (t,c.args.toList) else none
   | _=>none
 | _,_=>none
def dstI (np n:Nat):Option Nat->Bool
 | some d=>decide (np<=d)&&decide (d<n)
 | none=>true
def toIOp (P:Program) (ann:Ann) (np n:Nat) (ops:Array Oper) (o:Oper):Option IOp:=
 if dstI np n o.dst=true then
  match yieldOf o with
  | some (t,as)=>(toSXs as).map fun l=>.yld o.dst (.t t) l
  | none=>(XK P ann n ops o).bind fun s=>if s.si.isMup=true then none else some (.op s)
 else none
def toIOps (P:Program) (ann:Ann) (np n:Nat) (ops:Array Oper):List Oper->Option (List IOp)
 | []=>some []
 | o :: r=>(toIOp P ann np n ops o).bind fun s=>(toIOps P ann np n ops r).map (s :: ·)
def toI (P:Program) (ann:Ann) (np n:Nat):Code->Option ICode
 | .skip=>some .skip
 | .region _ ops false=>(toIOps P ann np n ops ops.toList).map .reg
 | .seq a b=>(toI P ann np n a).bind fun x=>(toI P ann np n b).map (.seq x)
 | .cond c a b=>(Y5 c).bind fun c=>(toI P ann np n a).bind fun x=>(toI P ann np n b).map (.cond c x)
 | .block id c=>(toI P ann np n c).map (.block id)
 | .loop c=>(toI P ann np n c).map .loop
 | .exit id=>some (.exit id)
 | .ret=>some .ret
 | _=>none
def toIF (P:Program) (ann:Ann) (np:Nat) (fn:Func):Option ICode:=if fn.results = #[] then fn.body.bind (toI P ann np fn.ntmps) else none
def keepS:AVal->AVal
 | .int k n=>.int k n
 | .bool b=>.bool b
 | .str l=>.str l
 | _=>.dead
def aft (np:Nat) (e:Env):Env:=fun t=>if t<np\/1000000<=t then e t else keepS (e t)
def aftX (e:Env):Env:=fun t=>keepS (e t)
def PG.dark (P:PG):PG:=⟨P.p,fun _=>.dead⟩
def PS (P:PG) (s:Bool):PG:=if s=true then P.dark else P
section
variable {X:Type}
def WJ (P:PG) (np:Nat) (yv:AVal) (enc:X->List AVal) (N:Nat):List IOp->Bool->List X->Env->(Bool->List X->Env->Prop)->Prop
 | [],s,p,e,K=>K s p e
 | .op o :: r,s,p,e,K=>Hd (vcV (PS P s) o e (fun _=>none)) (fun v _=>WJ P np yv enc N r s p (V3 e o.dst v) K) .mk
 | .yld d f as :: r,s,p,e,K=>s=false/\p.length<N/\ev e f=yv /\ ∃ x,as.map (ev e)=enc x /\
    WJ P np yv enc N r false (p++[x]) (V3 (aft np e) d (.bool true)) K/\WJ P np yv enc N r true (p++[x]) (V3 (aftX e) d (.bool false)) K
def seqK (N:Bool->List X->Env->Prop) (Q:SExit->Bool->List X->Env->Prop):SExit->Bool->List X->Env->Prop
 | .normal,s,p,e=>N s p e
 | x,s,p,e=>Q x s p e
def blkK (id:Nat) (Q:SExit->Bool->List X->Env->Prop):SExit->Bool->List X->Env->Prop
 | .exit j,s,p,e=>if j=id then Q .normal s p e else Q (.exit j) s p e
 | x,s,p,e=>Q x s p e
def itLoop (body:(SExit->Bool->List X->Env->Prop)->Bool->List X->Env->Prop) (Q:SExit->Bool->List X->Env->Prop) (s:Bool) (p:List X) (e:Env):Prop:=
 ∃ I:Nat->Bool->List X->Env->Prop,(∃ m,I m s p e) /\ ∀ m s p e,I m s p e->body (seqK (fun s p e=>∃ m',m'<m/\I m' s p e) Q) s p e
def itv (P:PG) (np:Nat) (yv:AVal) (enc:X->List AVal) (N:Nat):ICode->(SExit->Bool->List X->Env->Prop)->Bool->List X->Env->Prop
 | .skip,Q,s,p,e=>Q .normal s p e
 | .reg ops,Q,s,p,e=>WJ P np yv enc N ops s p e (Q .normal)
 | .seq a b,Q,s,p,e=>itv P np yv enc N a (seqK (itv P np yv enc N b Q) Q) s p e
 | .cond x a b,Q,s,p,e=>condOn (ev e x) (itv P np yv enc N a Q s p e) (itv P np yv enc N b Q s p e)
 | .block id c,Q,s,p,e=>itv P np yv enc N c (blkK id Q) s p e
 | .loop c,Q,s,p,e=>itLoop (itv P np yv enc N c) Q s p e
 | .exit id,Q,s,p,e=>Q (.exit id) s p e
 | .ret,Q,s,p,e=>Q .ret s p e
def endK (xs:List X):SExit->Bool->List X->Env->Prop
 | .exit _,_,_,_=>False
 | .goto _,_,_,_=>False
 | _,s,p,_=>if s=true then p <+: xs else p=xs
end
def IOp.gd:IOp->Bool
 | .op s=>s.si.gated
 | .yld .. => true
def ICode.gd:ICode->Bool
 | .reg ops=>ops.all IOp.gd
 | .seq a b=>a.gd&&b.gd
 | .cond _ a b=>a.gd&&b.gd
 | .block _ c=>c.gd
 | .loop c=>c.gd
 | _=>true
theorem vcOp_put {ann:Ann} {ops:Array Oper} {o:Oper} {op:SOp} {P:PG} {n:Nat} {e:Env} {h:Z2} {g:Ghost} {a:Act} {w:World} (ht:XK P ann n ops o=some op) (hnm:op.si.isMup=false) {K:Env->Z2->Prop} (hk:vcOp P op e h K) {g0:Ghost} {w0:World} (GR:GRel P.gl g0 w0) (T:St [] n g0 w0 e h g a w)
 {next:Act->World->Prop} {Q:Exit->Act->World->Prop} (hn:∀ v r w' e' h' g',(op.si.gated=true->g'=g)->(e'=V3 e o.dst r/\K e' h')->St [] n g0 w0 e' h' g' (a.put o.dst v) w'->next (a.put o.dst v) w') :
 if Region.wanted o (yielded ops a.tmps) then o.wp P a w next Q\/(o.asks P a w/\LetsOut Q) else next (a.put o.dst undef) w:=by
 unfold XK at ht
 simp only [Option.bind_eq_some_iff] at ht
 obtain ⟨si,hsi,ht⟩:=ht
 split at ht
 ·rename_i hd
  have hd:=dstOK_out hd.1
  have run:op.si=si -> ∀ {K':AVal->Z2->Prop},si.isMup=false->vcI P si e h K'->(∀ r h',K' r h'->K (V3 e o.dst r) h')->o.wp P a w next Q:=by
   intro hop K' hm hv hK'
   refine TQ hsi hm hv T.E T.H (GR.step T.S) fun v w' g' r h' S' H' V' k' hg=>hn _ r _ _ h' g' (fun q=>(hg (by rw [<-hop];exact q)).1) ⟨rfl,hK' r h' k'⟩ ⟨(T.E.step S').put hd V',H',T.S.trans S',T.M.put _ _,MO.nil⟩
  split at ht
  ·rename_i hg
   cases ht
   have hw:Region.wanted o (yielded ops a.tmps)=true:=by simp [Region.wanted,hg]
   rw [if_pos hw]
   exact .inl (run rfl hnm hk fun _ _ k=>k)
  ·rename_i j b hg
   rw [Option.bind_eq_some_iff] at ht
   obtain ⟨s,hs,ht⟩:=ht
   split at ht
   case isFalse=>cases ht
   rename_i h6
   cases ht
   have skip:JY (e s) b=some false->K (V3 e o.dst (.tup [])) h->(if Region.wanted o (yielded ops a.tmps) then o.wp P a w next Q\/(o.asks P a w/\LetsOut Q) else next (a.put o.dst undef) w):=by
    intro het hK
    have hy:=want_off hs (T.E.slot s h6) het
    rw [if_neg (by simp [Region.wanted,hg,hy])]
    exact hn _ _ _ _ h g (fun _=>rfl) ⟨rfl,hK⟩ ⟨T.E.put hd (.tup #[] [] rfl (by simp)),T.H,T.S,T.M.put _ _,MO.nil⟩
   have go:JY (e s) b=some true->o.wp P a w next Q->(if Region.wanted o (yielded ops a.tmps) then o.wp P a w next Q\/(o.asks P a w/\LetsOut Q) else next (a.put o.dst undef) w):=by
    intro het hwp
    have hy:=want_on hs (T.E.slot s h6) het
    rw [if_pos (by simp [Region.wanted,hg,hy])]
    exact .inl hwp
   have hk:vcG P s b si e h (fun r h'=>K (V3 e o.dst r) h'):=hk
   unfold vcG at hk
   split at hk
   ·rename_i f args
    obtain ⟨v,hk⟩:=hk
    obtain ⟨t,het,h1,h2⟩:=QZ hk
    rw [gateV_w het] at h2
    cases t with
    | true=>exact go het (run rfl hnm (K':=fun r h'=>r=v/\h'=h) ⟨v,h1 rfl,rfl,rfl⟩ (by rintro r h' ⟨rfl,rfl⟩;exact h2))
    | false=>exact skip het h2
   ·split at hk
    ·rename_i hst
     obtain ⟨t,het,h1,h2⟩:=QZ hk
     rw [gateV_w het] at h2
     cases t with
     | true=>exact go het (run rfl hnm (K':=fun r h'=>r=fop si e h/\h'=h) (stable_vcI hst (h1 rfl) ⟨rfl,rfl⟩) (by rintro r h' ⟨rfl,rfl⟩;exact h2))
     | false=>exact skip het h2
    ·obtain ⟨t,het,h1,h2⟩:=WQ hk
     cases t with
     | true=>exact go het (run rfl hnm (h1 rfl) fun _ _ k=>k)
     | false=>exact skip het (h2 rfl)
 ·cases ht
structure IR (pu:Bool) {X:Type} (P:PG) (n np:Nat) (enc:X->List AVal) (g0:Ghost) (w0:World) (e0:Env) (J Jx:List { p:X×Array Value // VRelL g0 w0 p.2 (enc p.1) }->World->Prop) (s:Bool) (p:List X) (e:Env) (a:Act) (W:World):Prop where
 D:a.defers=[]
 B:∃ gs Ws g p',(gs.nxt=0 /\ ∀ b,¬ gs.tn b)/\St [] n gs Ws e (fun _=>none) g a W/\GRel (PS P s).gl gs Ws/\p'.map (fun q=>q.1.1)=p/\(s=true->Jx p' Ws) /\
  (s=false->J p' Ws/\(∀ b,g0.fz b->gs.fz b/\Ws.heap[b]? = w0.heap[b]?)/\(∀ b,e (1000000+b)=P.gl b)/\(∀ t,t<np->e t=e0 t/\VRel g0 w0 (a.tmps.getD t undef) (e0 t))/\(pu=true -> ∀ b,g.fz b->g0.fz b))
theorem VRel.prim_inv' {g:Ghost} {w:World} {u v:Value} (h:VRel g w u (.prim v)):u=v:=by cases h;rfl
theorem setD_hi {np n:Nat} (_:np<=n) (hn:n<=1000000) {e:Env} {dst:Option Nat} (h:∀ d,dst=some d->d<n) {v:AVal} (b:Nat):V3 e dst v (1000000+b)=e (1000000+b):=by
 cases dst with
 | none=>rfl
 | some d=>exact J7 _ _ (by have:=h d rfl;omega)
theorem grown_of {gs g:Ghost} {Ws W:World} (S:GSh gs Ws g W) (hn:gs.nxt=0 /\ ∀ b,¬ gs.tn b):Ws.grownBy W none:=
 ⟨S.os,S.tape,S.output,S.size,fun k hk _=>S.own k hk (fun q=>hn.2 k q.1) (.inl fun ⟨r,hr,_⟩=>by rw [hn.1] at hr;omega)⟩
theorem GRel.dark (P:PG) (g:Ghost) (w:World):GRel (PG.dark P).gl g w:=fun _=>⟨.dead,.dead _⟩
theorem keepS_rel {g g':Ghost} {w w':World} {v:Value} {a:AVal} (h:VRel g w v a):VRel g' w' v (keepS a):=by
 cases h <;> first | exact .dead _ | exact .int _ _ | exact .bool _ | exact .str _
theorem put_at {a:Act} {dst:Option Nat} {v:Value} {t:Nat} (h:∀ d,dst=some d->d≠t):(a.put dst v).tmps.getD t undef=a.tmps.getD t undef:=by
 cases dst with
 | none=>rfl
 | some d=>
   simp only [Act.put,Array.getD_eq_getD_getElem?,Array.getElem?_setIfInBounds]
   rw [if_neg (h d rfl)]
theorem dstI_out {np n:Nat} {d:Option Nat} (h:dstI np n d=true):∀ x,d=some x->np<=x/\x<n:=by
 intro x hx;subst hx;simpa [dstI] using h
section
variable {pu:Bool} {X:Type} {P:PG} {ann:Ann} {n np N:Nat} {enc:X->List AVal} {g0:Ghost} {w0:World} {e0:Env} {l B:Nat} {J Jx:List { p:X×Array Value // VRelL g0 w0 p.2 (enc p.1) }->World->Prop}
abbrev Kp0 (g0:Ghost) (W W':World):Prop:=∀ b,g0.fz b->W'.heap[b]? = W.heap[b]?
theorem UJ (hnp:np<=n) (G0:GRel P.gl g0 w0) (F0:∀ b,g0.fz b->b<w0.heap.size) (D0:∀ t,t<np->Dat (e0 t)) (henc:∀ x,∀ y∈enc x,Scal y\/(pu=true/\Dat y))
 (hJ:∀ p W W',J p W->W.grownBy W' none->J p W') (hJx:∀ p W W',Jx p W->W.grownBy W' none->Jx p W')
 (hY:∀ pre x W1,J pre W1->pre.length<N->YieldAt (FR none) 0 P.p l x.1.2 W1 fun e W'=>(e=.returned (.bool true)/\J (pre++[x]) W'/\Kp0 g0 W1 W')\/(e=.returned (.bool false)/\Jx (pre++[x]) W'))
 {ops:Array Oper} {K:Bool->List X->Env->Prop} {Q:Exit->Act->World->Prop} (hL:¬ LetsOut Q) (hQ:∀ s p e a W,K s p e->IR pu P n np enc g0 w0 e0 J Jx s p e a W->Q .normal a W) :
 ∀ (os:List Oper) (il:List IOp) (s:Bool) (p:List X) (e:Env) (a:Act) (W:World),toIOps P ann np n ops os=some il->(pu=true->il.all IOp.gd=true)->WJ P np (.prim (.func (.yield l) #[] #[])) enc N il s p e K->IR pu P n np enc g0 w0 e0 J Jx s p e a W->wpListIn (FR none) 1 P ops Q os a W
 | [],il,s,p,e,a,W,ht,hpu,hk,R=>by
   simp [toIOps] at ht;subst ht
   exact hQ s p e a W hk R
 | o :: r,il,s,p,e,a,W,ht,hpu,hk,R=>by
   simp only [toIOps,Option.bind_eq_some_iff,Option.map_eq_some_iff] at ht
   obtain ⟨io,hio,ir,hir,rfl⟩:=ht
   have hpr:pu=true->ir.all IOp.gd=true:=fun q=>by have:=hpu q;simp only [List.all_cons,Bool.and_eq_true] at this;exact this.2
   have hpo:pu=true->io.gd=true:=fun q=>by have:=hpu q;simp only [List.all_cons,Bool.and_eq_true] at this;exact this.1
   obtain ⟨hD,gs,Ws,g,p',hnx,S,GR,hp,hX,hF⟩:=R
   unfold toIOp at hio
   split at hio
   case isFalse=>cases hio
   rename_i hdst
   have hdst:=dstI_out hdst
   split at hio
   ·rename_i t as hyo
    rw [Option.map_eq_some_iff] at hio
    obtain ⟨sl,hsl,rfl⟩:=hio
    obtain ⟨rfl,hlen,hf,x,hx,hgo,hst⟩:=hk
    obtain ⟨hJp,hfz,hgl,hpar,hgf⟩:=hF rfl
    unfold yieldOf at hyo
    split at hyo
    case h_2=>cases hyo
    rename_i c ho hg
    split at hyo
    case h_2=>cases hyo
    rename_i t' hc
    split at hyo
    case isFalse=>cases hyo
    rename_i h6
    cases hyo
    have hw:Region.wanted o (yielded ops a.tmps)=true:=by simp [Region.wanted,hg]
    unfold wpListIn
    rw [if_pos hw]
    have hfv:a.eval (.tmp t)=.func (.yield l) #[] #[]:=by
     have h1:=J1 S.E (x:=.tmp t) (sx:=.t t) (by simp [Y5,h6])
     rw [show ev e (.t t)=_ from hf] at h1
     exact h1.prim_inv'
    have hargs:=evs_rel S.E hsl
    rw [hx] at hargs
    have hWk:∀ b,g0.fz b->W.heap[b]? = w0.heap[b]? := fun b hb=>(S.S.keep b (hfz b hb).1).trans (hfz b hb).2
    have hargs0:VRelL g0 w0 (c.args.map a.eval) (enc x):=⟨hargs.1,fun j u y hu hy=>by
     rcases henc x y (List.mem_of_getElem? hy) with hs | ⟨hp1,hd⟩
     ·exact hs.any (hargs.2 j u y hu hy) g0 w0
     ·exact (hd.rel (hgf hp1) (hargs.2 j u y hu hy)).heap fun b hb=>(hWk b hb).symm⟩
    have hgr:=grown_of S.S hnx
    have hyy:=hY p' ⟨(x,c.args.map a.eval),hargs0⟩ W (hJ _ _ _ hJp hgr) (by rw [<-hp] at hlen;simpa using hlen)
    refine yield_op (l:=l) (m:=0) (A:=fun W'=>J (p'++[⟨(x,c.args.map a.eval),hargs0⟩]) W'/\Kp0 g0 W W') (B:=fun W'=>Jx (p'++[⟨(x,c.args.map a.eval),hargs0⟩]) W') ho hc hfv ?_ ?_ ?_
    ·obtain ⟨fn,tm,asg,body,h1,h2⟩:=hyy
     exact ⟨fn,tm,asg,body,h1,h2.mono fun e W' hh=>hh.imp (fun ⟨a,b,c⟩=>⟨a,b,c⟩) fun h=>h⟩
    ·rintro W' ⟨hJ',hK'⟩
     have hk0:∀ b,g0.fz b->W'.heap[b]? = w0.heap[b]? := fun b hb=>(hK' b hb).trans (hWk b hb)
     have hb:∀ b,g0.fz b->g0.bare.fz b:=fun b h=>h
     have hsz:∀ b,g0.fz b->b<W'.heap.size:=fun b hb=>by
      have h1:=F0 b hb
      have h2:=hk0 b hb
      rw [Array.getElem?_eq_getElem h1] at h2
      exact (Array.getElem?_eq_some_iff.1 h2).1
     have GR':GRel P.gl g0.bare W':=fun b=>⟨(G0 b).1,(G0 b).1.rel hb ((G0 b).2.heap hk0)⟩
     have E1:ERel n (aft np e) g0.bare W' a:=by
      refine ⟨by rw [hD];exact DOK.nil _ _,S.E.size,S.E.bnd,fun t ht=>?_,fun b=>?_⟩
      ·unfold aft
       split
       ·rename_i hh
        have ht':t<np:=by omega
        rw [(hpar t ht').1]
        exact (D0 t ht').rel hb ((hpar t ht').2.heap hk0)
       ·exact keepS_rel (S.E.slot t ht)
      ·unfold aft
       rw [if_pos (by omega)]
       rw [hgl b]
       exact (GR' b).2
     refine UJ hnp G0 F0 D0 henc hJ hJx hY hL hQ r ir false _ _ _ W' hir hpr hgo ⟨by rw [put_defers];exact hD,g0.bare,W',g0.bare,_,⟨rfl,fun _ h=>h⟩,⟨E1.put (fun d hd=>(hdst d hd).2) (.bool true),⟨(fun r o hr=>by cases hr),(fun r r' o o' hr=>by cases hr),hsz,(fun b ⟨r,hr,_⟩=>by cases hr),.none⟩,GSh.refl _ _,(MK.put (fun _ d hd=>by rw [hD] at hd;cases hd) _ _),MO.nil⟩,GR',by simp [hp],(fun h=>by cases h),fun _=>⟨hJ',fun b hb=>⟨hb,hk0 b hb⟩,fun b=>(setD_hi hnp S.E.bnd (fun d hd=>(hdst d hd).2) b).trans ((if_pos (by omega)).trans (hgl b)),fun t ht=>?_,fun _ b hb=>hb⟩⟩
     have hne:∀ d,o.dst=some d->d≠t:=fun d hd=>Nat.ne_of_gt (Nat.lt_of_lt_of_le ht (hdst d hd).1)
     refine ⟨?_,by rw [put_at hne];exact (hpar t ht).2⟩
     have h1:V3 (aft np e) o.dst (.bool true) t=aft np e t:=by
      cases hd:o.dst with
      | none=>rfl
      | some d=>exact J7 _ _ (fun h=>hne d hd h.symm)
     rw [h1,aft,if_pos (.inl ht)]
     exact (hpar t ht).1
    ·intro W' hJ'
     let g1:Ghost:={ g0 with nxt:=0,fz:=fun _=>False,tn:=fun _=>False }
     have E1:ERel n (aftX e) g1 W' a:=⟨by rw [hD];exact DOK.nil _ _,S.E.size,S.E.bnd,fun t ht=>keepS_rel (S.E.slot t ht),fun b=>keepS_rel (S.E.glo b)⟩
     exact UJ hnp G0 F0 D0 henc hJ hJx hY hL hQ r ir true _ _ _ W' hir hpr hst ⟨by rw [put_defers];exact hD,g1,W',g1,_,⟨rfl,fun _ h=>h⟩,⟨E1.put (fun d hd=>(hdst d hd).2) (.bool false),⟨(fun r o hr=>by cases hr),(fun r r' o o' hr=>by cases hr),(fun b hb=>by cases hb),(fun b ⟨r,hr,_⟩=>by cases hr),.none⟩,GSh.refl _ _,(MK.put (fun _ d hd=>by rw [hD] at hd;cases hd) _ _),MO.nil⟩,GRel.dark P _ _,by simp [hp],fun _=>hJ',(fun h=>by cases h)⟩
   ·rw [Option.bind_eq_some_iff] at hio
    obtain ⟨so,hso,hio⟩:=hio
    split at hio
    ·cases hio
    rename_i hnm
    have hnm:so.si.isMup=false:=by simpa using hnm
    cases hio
    have hndef:∀ c,o.op≠.defer c:=by
     unfold XK at hso
     rw [Option.bind_eq_some_iff] at hso
     obtain ⟨si,hsi,_⟩:=hso
     exact toSI_defer hsi
    have hk:vcOp (PS P s) so e (fun _=>none) fun e' _=>WJ P np (.prim (.func (.yield l) #[] #[])) enc N ir s p e' K:=hk
    have hPp:(PS P s).p=P.p:=by unfold PS;split <;> rfl
    have key:=vcOp_put (P:=PS P s) (Q:=Q) (o:=o) (ops:=ops) (ann:=ann) (n:=n) (by rw [hPp];exact hso) hnm hk GR S (next:=fun a' w'=>wpListIn (FR none) 1 P ops Q r a' w') fun v rv w' e' h' g' hgg ⟨he',k'⟩ T'=>by
     refine UJ hnp G0 F0 D0 henc hJ hJx hY hL hQ r ir s p e' _ w' hir hpr k' ⟨by rw [put_defers];exact hD,gs,Ws,g',p',hnx,⟨T'.E,T'.H.le (fun t o h=>by cases h),T'.S,T'.M,MO.nil⟩,GR,hp,hX,fun hs=>?_⟩
     obtain ⟨h1,h2,h3,h4,h5⟩:=hF hs
     refine ⟨h1,h2,fun b=>by rw [he',setD_hi hnp S.E.bnd (fun d hd=>(hdst d hd).2)];exact h3 b,fun t ht=>?_,fun q b hb=>h5 q b (by rw [hgg (hpo q)] at hb;exact hb)⟩
     have hne:∀ d,o.dst=some d->d≠t:=fun d hd=>Nat.ne_of_gt (Nat.lt_of_lt_of_le ht (hdst d hd).1)
     refine ⟨?_,by rw [put_at hne];exact (h4 t ht).2⟩
     rw [he']
     refine Eq.trans ?_ (h4 t ht).1
     cases hd:o.dst with
     | none=>rfl
     | some d=>exact J7 _ _ (fun h=>hne d hd h.symm)
    rw [hPp] at key
    unfold wpListIn
    split at key
    ·rename_i hw
     rw [if_pos hw]
     exact op_in hndef (key.resolve_right fun h=>hL h.2)
    ·rename_i hw
     rw [if_neg hw]
     exact ⟨fun _ _=>trivial,key⟩
def IQ (pu:Bool) {X:Type} (P:PG) (n np:Nat) (enc:X->List AVal) (g0:Ghost) (w0:World) (e0:Env) (J Jx:List { p:X×Array Value // VRelL g0 w0 p.2 (enc p.1) }->World->Prop) (Q:SExit->Bool->List X->Env->Prop) (x:Exit) (a:Act) (W:World):Prop:=
 ∃ x' s p e,x=exitOf x'/\Q x' s p e/\IR pu P n np enc g0 w0 e0 J Jx s p e a W
theorem IQ.in {Q:SExit->Bool->List X->Env->Prop}:¬ LetsOut (IQ pu P n np enc g0 w0 e0 J Jx Q):=by
 rintro ⟨a,w,x',s,p,e,hx,_⟩
 cases x' <;> cases hx
theorem itv_sound (hnp:np<=n) (G0:GRel P.gl g0 w0) (F0:∀ b,g0.fz b->b<w0.heap.size) (D0:∀ t,t<np->Dat (e0 t)) (henc:∀ x,∀ y∈enc x,Scal y\/(pu=true/\Dat y))
 (hJ:∀ p W W',J p W->W.grownBy W' none->J p W') (hJx:∀ p W W',Jx p W->W.grownBy W' none->Jx p W')
 (hY:∀ pre x W1,J pre W1->pre.length<N->YieldAt (FR none) 0 P.p l x.1.2 W1 fun e W'=>(e=.returned (.bool true)/\J (pre++[x]) W'/\Kp0 g0 W1 W')\/(e=.returned (.bool false)/\Jx (pre++[x]) W')) :
 ∀ (c:Code) (ic:ICode),toI P ann np n c=some ic->(pu=true->ic.gd=true) -> ∀ (Q:SExit->Bool->List X->Env->Prop) (s:Bool) (p:List X) (e:Env) (a:Act) (W:World),itv P np (.prim (.func (.yield l) #[] #[])) enc N ic Q s p e->IR pu P n np enc g0 w0 e0 J Jx s p e a W->c.wpIn (FR none) 1 P (IQ pu P n np enc g0 w0 e0 J Jx Q) a W:=by
 intro c
 induction c with
 | skip=>
   intro ic ht hpu Q s p e a W hk R
   simp [toI] at ht;subst ht
   exact wpIn_skip ⟨.normal,s,p,e,rfl,hk,R⟩
 | region id ops draws=>
   intro ic ht hpu Q s p e a W hk R
   cases draws with
   | true=>simp [toI] at ht
   | false=>
     simp only [toI,Option.map_eq_some_iff] at ht
     obtain ⟨il,hil,rfl⟩:=ht
     exact wpIn_region_list (UJ hnp G0 F0 D0 henc hJ hJx hY IQ.in (K:=Q .normal) (fun s p e a W hk R=>⟨.normal,s,p,e,rfl,hk,R⟩) _ _ s p e a W hil hpu hk R)
 | seq x y ihx ihy=>
   intro ic ht hpu Q s p e a W hk R
   simp only [toI,Option.bind_eq_some_iff,Option.map_eq_some_iff] at ht
   obtain ⟨ix,hix,iy,hiy,rfl⟩:=ht
   refine wpIn_seq (wpIn_mono (ihx ix hix (fun q=>(Bool.and_eq_true_iff.1 (hpu q)).1) _ s p e a W hk R) ?_)
   rintro _ a' W' ⟨x',s',p',e',rfl,hq,R'⟩
   cases x' with
   | normal=>exact ihy iy hiy (fun q=>(Bool.and_eq_true_iff.1 (hpu q)).2) Q s' p' e' a' W' hq R'
   | exit id=>exact ⟨.exit id,s',p',e',rfl,hq,R'⟩
   | ret=>exact ⟨.ret,s',p',e',rfl,hq,R'⟩
   | goto l=>exact ⟨.goto l,s',p',e',rfl,hq,R'⟩
 | cond c x y ihx ihy=>
   intro ic ht hpu Q s p e a W hk R
   simp only [toI,Option.bind_eq_some_iff,Option.map_eq_some_iff] at ht
   obtain ⟨sc,hsc,ix,hix,iy,hiy,rfl⟩:=ht
   obtain ⟨gs,Ws,g,p',_,S,_⟩:=R.B
   have hv:=J1 S.E hsc
   have hk:condOn (ev e sc) (itv P np _ enc N ix Q s p e) (itv P np _ enc N iy Q s p e):=hk
   revert hk hv
   cases ev e sc <;> intro hv hk <;> try exact hk.elim
   rename_i t
   exact wpIn_cond_split hv.bool_inv (fun ht=>ihx ix hix (fun q=>(Bool.and_eq_true_iff.1 (hpu q)).1) Q s p e a W (hk.1 ht) R) (fun ht=>ihy iy hiy (fun q=>(Bool.and_eq_true_iff.1 (hpu q)).2) Q s p e a W (hk.2 ht) R)
 | block id c ih=>
   intro ic ht hpu Q s p e a W hk R
   simp only [toI,Option.map_eq_some_iff] at ht
   obtain ⟨i,hi,rfl⟩:=ht
   refine wpIn_block (wpIn_mono (ih i hi (fun q=>hpu q) (blkK id Q) s p e a W hk R) ?_)
   rintro _ a' W' ⟨x',s',p',e',rfl,hq,R'⟩
   cases x' with
   | normal=>exact ⟨.normal,s',p',e',rfl,hq,R'⟩
   | ret=>exact ⟨.ret,s',p',e',rfl,hq,R'⟩
   | goto l=>exact ⟨.goto l,s',p',e',rfl,hq,R'⟩
   | exit j=>
     simp only [blkK] at hq
     simp only [exitOf,Exit.inBlock]
     split at hq
     ·rename_i hj;rw [if_pos hj];exact ⟨.normal,s',p',e',rfl,hq,R'⟩
     ·rename_i hj;rw [if_neg hj];exact ⟨.exit j,s',p',e',rfl,hq,R'⟩
 | loop c ih=>
   intro ic ht hpu Q s p e a W hk R
   simp only [toI,Option.map_eq_some_iff] at ht
   obtain ⟨i,hi,rfl⟩:=ht
   obtain ⟨I,⟨m0,h0⟩,hround⟩:=hk
   intro b k cs hro' hb hr
   have key:∀ m s p e a W,I m s p e->IR pu P n np enc g0 w0 e0 J Jx s p e a W -> ∃ x a' W',IQ pu P n np enc g0 w0 e0 J Jx Q x a' W'/\ArrivesIn (Machine.fenced P (FR none)) P (lone (b.atR a (.code c :: .inLoop c :: k)) cs W) b k cs x a' W':=by
    intro m
    induction m using Nat.strongRecOn with
    | _ m ihm=>
      intro s p e a W hI R
      obtain ⟨x,a₁,w₁,hq,harr⟩   := ih i hi (fun q=>hpu q) _ s p e a W (hround m s p e hI) R b (.inLoop c :: k) cs hro' hb hr
      obtain ⟨x',s',p',e',rfl,hq,R'⟩:=hq
      cases x' with
      | normal=>
        obtain ⟨m',hlt,hI'⟩:=hq
        obtain ⟨x2,a₂,w₂,hq₂,harr₂⟩:=ihm m' hlt s' p' e' a₁ w₁ hI' R'
        exact ⟨x2,a₂,w₂,hq₂,.of_steps (StepsIn.trans harr (.one (fenced_calm hb hr rfl) stepR_inLoop)) harr₂⟩
      | exit id=>exact ⟨.exit id,a₁,w₁,⟨.exit id,s',p',e',rfl,hq,R'⟩,.pass (x:=.inLoop c) rfl (fun _ _=>.inl (by simp)) harr⟩
      | ret=>exact ⟨.ret,a₁,w₁,⟨.ret,s',p',e',rfl,hq,R'⟩,.pass (x:=.inLoop c) rfl (fun _ _=>.inl (by simp)) harr⟩
      | goto l=>exact ⟨.goto l,a₁,w₁,⟨.goto l,s',p',e',rfl,hq,R'⟩,.pass (x:=.inLoop c) rfl (fun _ _=>.inl (by simp)) harr⟩
   obtain ⟨x,a',W',hq,harr⟩:=key m0 s p e a W h0 R
   exact ⟨x,a',W',hq,.of_steps (.one (fenced_calm hb hr rfl) stepR_loop) harr⟩
 | exit id=>
   intro ic ht hpu Q s p e a W hk R
   simp [toI] at ht;subst ht
   exact wpIn_exit ⟨.exit id,s,p,e,rfl,hk,R⟩
 | ret=>
   intro ic ht hpu Q s p e a W hk R
   simp [toI] at ht;subst ht
   exact wpIn_ret ⟨.ret,s,p,e,rfl,hk,R⟩
 | rangeFunc f ps asg body _ ihb=>intro ic ht;simp [toI] at ht
 | scope=>intro ic ht;simp [toI] at ht
 | label=>intro ic ht;simp [toI] at ht
 | goto=>intro ic ht;simp [toI] at ht
 | refuse=>intro ic ht;simp [toI] at ht
end
theorem iterV_of_itv {X : Type} {P : PG} {ann : Ann} {k : Nat} {fn : Func} {ic : ICode} {cap : List AVal} {enc : X -> List AVal} {xs : List X} {N : Nat} (hf : P.p.funcs[k]? = some fn) (hname : (fn.name == "runtime.NumGoroutine") = false)
 (ht:toIF P ann (cap.length+1) fn=some ic) (hn:cap.length+1<=fn.ntmps) (hN:fn.ntmps<=1000000) (hd:∀ c∈cap,Dat c) (henc:∀ x,∀ y∈enc x,Scal y\/(ic.gd=true/\Dat y))
 (hk:∀ l,itv P (cap.length+1) (.prim (.func (.yield l) #[] #[])) enc N ic (endK xs) false [] (T5 P.gl (.prim (.func (.yield l) #[] #[]) :: cap))):IterV P k cap enc xs N:=by
 unfold toIF at ht
 split at ht
 case isFalse=>cases ht
 rename_i hres
 rw [Option.bind_eq_some_iff] at ht
 obtain ⟨c,hc,hic⟩:=ht
 refine ⟨⟨fn,hf,hname,by simp [hc]⟩,fun g w cs hfz GR V=>?_⟩
 intro l J Jx W hB hJ hJx hY h0
 let e0:=T5 P.gl (.prim (.func (.yield l) #[] #[]) :: cap)
 have hkW:∀ b,g.fz b->W.heap[b]? = w.heap[b]? := fun b hb=>hB.block b (hfz b hb)
 have hb:∀ b,g.fz b->g.bare.fz b:=fun b h=>h
 have hcs:cs.size=cap.length:=V.1
 have hD0:∀ t,t<cap.length+1->Dat (e0 t):=by
  intro t ht
  show Dat (T5 _ _ t)
  unfold T5
  rw [if_pos (by omega)]
  cases t with
  | zero=>exact .prim _
  | succ t=>
    have:(AVal.prim (.func (.yield l) #[] #[]) :: cap).getD (t+1) .dead=cap.getD t .dead:=rfl
    rw [this,List.getD_eq_getElem?_getD,List.getElem?_eq_getElem (by omega)]
    exact hd _ (List.getElem_mem _)
 have hslot:∀ t,t<1000000->VRel g w (((#[Value.func (.yield l) #[] #[]]++cs)++Array.replicate (fn.ntmps-(#[Value.func (.yield l) #[] #[]]++cs).size) undef).getD t undef) (e0 t):=by
  intro t h6
  show VRel g w _ (T5 _ _ t)
  unfold T5
  rw [if_pos h6]
  cases t with
  | zero=>
    have h1:((#[Value.func (.yield l) #[] #[]]++cs)++Array.replicate (fn.ntmps-(#[Value.func (.yield l) #[] #[]]++cs).size) undef).getD 0 undef=.func (.yield l) #[] #[]:=by
     rw [Array.getD_eq_getD_getElem?,Array.append_assoc,Array.getElem?_append_left (by simp)]
     rfl
    rw [h1];exact .prim _
  | succ t=>
    by_cases ht:t<cap.length
    ·have h1:((#[Value.func (.yield l) #[] #[]]++cs)++Array.replicate (fn.ntmps-(#[Value.func (.yield l) #[] #[]]++cs).size) undef).getD (t+1) undef=cs[t]'(by omega):=by
      have ht':t<cs.size:=by omega
      rw [Array.getD_eq_getD_getElem?,Array.append_assoc,Array.getElem?_append_right (by simp),Array.getElem?_append_left (by simpa using ht')]
      simp [ht']
     rw [h1]
     have h2:(AVal.prim (.func (.yield l) #[] #[]) :: cap).getD (t+1) .dead=cap[t]:=by
      show cap.getD t .dead=_
      rw [List.getD_eq_getElem?_getD,List.getElem?_eq_getElem ht];rfl
     rw [h2]
     exact V.2 t _ _ (Array.getElem?_eq_getElem (by omega)) (List.getElem?_eq_getElem ht)
    ·have h2:(AVal.prim (.func (.yield l) #[] #[]) :: cap).getD (t+1) .dead=.dead:=by
      show cap.getD t .dead=_
      rw [List.getD_eq_getElem?_getD,List.getElem?_eq_none (by omega)];rfl
     rw [h2];exact .dead _
 have hslotW:∀ t,t<1000000->VRel g.bare W (((#[Value.func (.yield l) #[] #[]]++cs)++Array.replicate (fn.ntmps-(#[Value.func (.yield l) #[] #[]]++cs).size) undef).getD t undef) (e0 t):=by
  intro t h6
  by_cases ht:t<cap.length+1
  ·exact (hD0 t ht).rel hb ((hslot t h6).heap hkW)
  ·have:e0 t=.dead:=by
    show T5 _ _ t=_
    unfold T5
    rw [if_pos h6,List.getD_eq_getElem?_getD,List.getElem?_eq_none (by simp;omega)];rfl
   rw [this];exact .dead _
 have GRW:GRel P.gl g.bare W:=fun b=>⟨(GR b).1,(GR b).1.rel hb ((GR b).2.heap hkW)⟩
 refine callsIn_of_wp hf hc trivial (wpIn_mono (itv_sound (pu:=ic.gd) (P:=P) (n:=fn.ntmps) (np:=cap.length+1) (N:=N) (enc:=enc) (g0:=g) (w0:=w) (e0:=e0) (l:=l) (J:=J) (Jx:=Jx) hn GR hfz hD0 henc
  (fun p W W' h hg=>hJ p W W' none h hg (fun r h=>by cases h)) (fun p W W' h hg=>hJx p W W' none h hg (fun r h=>by cases h)) (fun pre x W1 h1 h2=>hY pre x W1 h1 h2) c ic hic (fun q=>q) (endK xs) false [] e0 _ W (hk l)
  ⟨rfl,g.bare,W,g.bare,[],⟨rfl,fun _ h=>h⟩,⟨⟨DOK.nil _ _,?_,hN,hslotW,fun b=>?_⟩,⟨(fun r o hr=>by cases hr),(fun r r' o o' hr=>by cases hr),fun b hbz=>?_,(fun b ⟨r,hr,_⟩=>by cases hr),.none⟩,GSh.refl _ _,(fun _ d hd=>by cases hd),MO.nil⟩,GRW,rfl,(fun h=>by cases h),fun _=>⟨h0,fun b hb=>⟨hb,hkW b hb⟩,fun b=>?_,fun t ht=>⟨rfl,hslot t (by omega)⟩,fun _ b hb=>hb⟩⟩) ?_) rfl
 ·simp only [Array.size_append,Array.size_replicate]
  have:(#[Value.func (.yield l) #[] #[]]:Array Value).size=1:=rfl
  omega
 ·show VRel _ _ _ (T5 _ _ _)
  rw [T5,if_neg (by omega),Nat.add_sub_cancel_left];exact (GRW b).2
 ·exact Nat.lt_of_lt_of_le (hfz b hbz) hB.size
 ·show T5 _ _ _=_
  rw [T5,if_neg (by omega),Nat.add_sub_cancel_left]
 ·rintro x a' W' ⟨x',s,p,e,rfl,hq,hD,gs,Ws,g',p',hnx,S,_,hp,hX,hF⟩
  have hg:=grown_of S.S hnx
  have fin:(if s=true then p <+: xs else p=xs)->((∃ ys:List { p:X×Array Value // VRelL g w p.2 (enc p.1) },ys.map (fun q=>q.1.1)=xs/\J ys W') \/ ∃ pre:List { p:X×Array Value // VRelL g w p.2 (enc p.1) },pre.map (fun q=>q.1.1) <+: xs/\Jx pre W'):=by
   intro hh
   cases s with
   | true=>exact .inr ⟨p',by rw [hp];simpa using hh,hJx _ _ _ none (hX rfl) hg (fun r h=>by cases h)⟩
   | false=>exact .inl ⟨p',by rw [hp];simpa using hh,hJ _ _ _ none (hF rfl).1 hg (fun r h=>by cases h)⟩
  cases x' with
  | normal=>exact ⟨hD,_,results_none hres _ _ _,⟨_,rfl⟩,fin hq⟩
  | ret=>exact ⟨hD,_,results_none hres _ _ _,⟨_,rfl⟩,fin hq⟩
  | exit id=>exact hq.elim
  | goto l=>exact hq.elim
section
variable {X:Type} {P:PG} {np:Nat} {yv:AVal} {enc:X->List AVal} {N:Nat} {Q:SExit->Bool->List X->Env->Prop} {s:Bool} {p:List X} {e:Env} {K:Bool->List X->Env->Prop}
theorem itv_skip:itv P np yv enc N .skip Q s p e=Q .normal s p e:=rfl
theorem itv_reg (ops:List IOp):itv P np yv enc N (.reg ops) Q s p e=WJ P np yv enc N ops s p e (Q .normal):=rfl
theorem itv_seq (a b:ICode):itv P np yv enc N (.seq a b) Q s p e=itv P np yv enc N a (seqK (itv P np yv enc N b Q) Q) s p e:=rfl
theorem itv_cond (x:SX) (a b:ICode):itv P np yv enc N (.cond x a b) Q s p e=condW (ev e x) (itv P np yv enc N a Q s p e) (itv P np yv enc N b Q s p e) .mk:=rfl
theorem itv_block (id:Nat) (c:ICode):itv P np yv enc N (.block id c) Q s p e=itv P np yv enc N c (blkK id Q) s p e:=rfl
theorem itv_loop (c:ICode):itv P np yv enc N (.loop c) Q s p e=itLoop (itv P np yv enc N c) Q s p e:=rfl
theorem itv_exit (id:Nat):itv P np yv enc N (.exit id) Q s p e=Q (.exit id) s p e:=rfl
theorem itv_ret:itv P np yv enc N .ret Q s p e=Q .ret s p e:=rfl
theorem itOps_nil:WJ P np yv enc N [] s p e K=K s p e:=rfl
theorem itOps_op (o:SOp) (r:List IOp):WJ P np yv enc N (.op o :: r) s p e K=Hd (vcV (PS P s) o e (fun _=>none)) (fun v _=>WJ P np yv enc N r s p (V3 e o.dst v) K) .mk:=rfl
theorem itOps_yld (d:Option Nat) (f:SX) (as:List SX) (r:List IOp):WJ P np yv enc N (.yld d f as :: r) s p e K=(s=false/\p.length<N/\ev e f=yv /\ ∃ x,as.map (ev e)=enc x /\
 WJ P np yv enc N r false (p++[x]) (V3 (aft np e) d (.bool true)) K/\WJ P np yv enc N r true (p++[x]) (V3 (aftX e) d (.bool false)) K):=rfl
theorem PS_false:PS P false=P:=rfl
variable {M:Bool->List X->Env->Prop}
theorem seqK_normal:seqK M Q .normal s p e=M s p e:=rfl
theorem seqK_exit (id:Nat):seqK M Q (.exit id) s p e=Q (.exit id) s p e:=rfl
theorem seqK_ret:seqK M Q .ret s p e=Q .ret s p e:=rfl
theorem blkK_normal (id:Nat):blkK id Q .normal s p e=Q .normal s p e:=rfl
theorem blkK_ret (id:Nat):blkK id Q .ret s p e=Q .ret s p e:=rfl
theorem blkK_exit (id j:Nat):blkK id Q (.exit j) s p e=if j=id then Q .normal s p e else Q (.exit j) s p e:=rfl
theorem endK_normal (xs:List X):endK xs .normal s p e=if s=true then p <+: xs else p=xs:=rfl
theorem endK_ret (xs:List X):endK xs .ret s p e=if s=true then p <+: xs else p=xs:=rfl
theorem itLoop.intro {b:(SExit->Bool->List X->Env->Prop)->Bool->List X->Env->Prop} (I:Nat->Bool->List X->Env->Prop) (m:Nat) (h0:I m s p e) (hr:∀ m s p e,I m s p e->b (seqK (fun s p e=>∃ m',m'<m/\I m' s p e) Q) s p e):itLoop b Q s p e:=⟨I,⟨m,h0⟩,hr⟩
end
theorem aft_lo {np:Nat} {e:Env} {t:Nat} (h:t<np):aft np e t=e t:=if_pos (.inl h)
theorem aft_hi {np:Nat} {e:Env} {t:Nat} (h:np<=t) (h6:t<1000000):aft np e t=keepS (e t):=if_neg (by omega)
theorem aftX_at (e:Env) (t:Nat):aftX e t=keepS (e t):=rfl
theorem keepS_int (k:IntKind) (n:Int):keepS (.int k n)=.int k n:=rfl
theorem keepS_bool (b:Bool):keepS (.bool b)=.bool b:=rfl
theorem keepS_str (l:List UInt8):keepS (.str l)=.str l:=rfl
def IT1:=And.intro (@itv_skip) (And.intro (@itv_reg) (And.intro (@itv_seq) (And.intro (@itv_cond) (And.intro (@itv_block) (And.intro (@itv_loop) (And.intro (@itv_exit) (And.intro (@itv_ret) (@itOps_nil))))))))
def IT2:=And.intro (@itOps_op) (And.intro (@itOps_yld) (And.intro (@PS_false) (And.intro (@seqK_normal) (And.intro (@seqK_exit) (And.intro (@seqK_ret) (And.intro (@blkK_normal) (And.intro (@blkK_ret) (@blkK_exit))))))))
def IT3:=And.intro (@endK_normal) (And.intro (@endK_ret) (And.intro (@keepS_int) (And.intro (@keepS_bool) (And.intro (@keepS_str) (@aftX_at)))))
end Go.Sim
end
section
namespace Go.Sim
open Go
def PW {α β:Type} (R:α->β->Prop) (as:List α) (bs:List β):Prop:=as.length=bs.length /\ ∀ (j:Nat) (a:α) (b:β),as[j]? = some a->bs[j]? = some b->R a b
section
variable {α β:Type} {R:α->β->Prop} {as as':List α} {bs bs':List β} {a:α} {b:β}
theorem PW.nil:PW R [] []:=⟨rfl,fun j a b h=>by simp at h⟩
theorem PW.cons (h:R a b) (hs:PW R as bs):PW R (a :: as) (b :: bs):=⟨by simp [hs.1],fun j x y hx hy=>by
 cases j with
 | zero=>simp at hx hy;subst hx hy;exact h
 | succ j=>simp at hx hy;exact hs.2 j x y hx hy⟩
theorem PW.append (h:PW R as bs) (k:PW R as' bs'):PW R (as++as') (bs++bs'):=⟨by simp [h.1,k.1],fun j x y hx hy=>by
 rw [List.getElem?_append] at hx hy
 rw [<-h.1] at hy
 split at hx
 ·rename_i hj;rw [if_pos hj] at hy;exact h.2 j x y hx hy
 ·rename_i hj;rw [if_neg hj] at hy;exact k.2 _ x y hx hy⟩
theorem PW.take (h:PW R as bs) (n:Nat):PW R (as.take n) (bs.take n):=⟨by simp [h.1],fun j x y hx hy=>by
 rw [List.getElem?_take] at hx hy
 split at hx
 ·rename_i hj;rw [if_pos hj] at hy;exact h.2 j x y hx hy
 ·cases hx⟩
theorem PW.drop (h:PW R as bs) (n:Nat):PW R (as.drop n) (bs.drop n):=⟨by simp [h.1],fun j x y hx hy=>by
 rw [List.getElem?_drop] at hx hy
 exact h.2 _ x y hx hy⟩
theorem PW.set (h:PW R as bs) (n:Nat) (hab:R a b):PW R (as.set n a) (bs.set n b):=⟨by simp [h.1],fun j x y hx hy=>by
 rw [List.getElem?_set] at hx hy
 split at hx
 ·rename_i hj
  rw [if_pos hj] at hy
  split at hx
  ·split at hy
   ·cases hx;cases hy;exact hab
   ·cases hy
  ·cases hx
 ·rename_i hj;rw [if_neg hj] at hy;exact h.2 _ x y hx hy⟩
theorem PW.replicate (n:Nat) (hab:R a b):PW R (List.replicate n a) (List.replicate n b):=⟨by simp,fun j x y hx hy=>by
 rw [List.getElem?_replicate] at hx hy
 split at hx
 ·rename_i hj;rw [if_pos hj] at hy;cases hx;cases hy;exact hab
 ·cases hx⟩
theorem PW.getD (h:PW R as bs) (n:Nat) (hab:R a b):R (as.getD n a) (bs.getD n b):=by
 rw [List.getD_eq_getElem?_getD,List.getD_eq_getElem?_getD]
 cases hx:as[n]? with
 | none=>
   have:bs[n]? = none:=by rw [List.getElem?_eq_none_iff,<-h.1];exact List.getElem?_eq_none_iff.1 hx
   rw [this];exact hab
 | some x=>
   have hl:=(List.getElem?_eq_some_iff.1 hx).1
   rw [h.1] at hl
   rw [List.getElem?_eq_getElem hl]
   exact h.2 n x _ hx (List.getElem?_eq_getElem hl)
theorem PW.headD (h:PW R as bs) (hab:R a b):R (as.headD a) (bs.headD b):=by
 have:=h.getD 0 hab
 cases as <;> cases bs <;> simp_all
theorem PW.maps {γ:Type} {f:γ->α} {g:γ->β}:∀ (l:List γ),(∀ x∈l,R (f x) (g x))->PW R (l.map f) (l.map g)
 | [],_=>PW.nil
 | x :: l,h=>PW.cons (h x (by simp)) (PW.maps l fun y hy=>h y (by simp [hy]))
theorem PW.get' (h:PW R as bs) {j:Nat} (hb:bs[j]? = some b):∃ a,as[j]? = some a/\R a b:=by
 have hl:=(List.getElem?_eq_some_iff.1 hb).1
 rw [<-h.1] at hl
 exact ⟨_,List.getElem?_eq_getElem hl,h.2 j _ b (List.getElem?_eq_getElem hl) hb⟩
theorem PW.mono {R':α->β->Prop} (h:PW R as bs) (hr:∀ a b,R a b->R' a b):PW R' as bs:=⟨h.1,fun j a b ha hb=>hr _ _ (h.2 j a b ha hb)⟩
end
inductive RV (nm:List Nat):AVal->AVal->Prop
 | prim (v:Value):RV nm (.prim v) (.prim v)
 | int (k:IntKind) (n:Int):RV nm (.int k n) (.int k n)
 | bool (b:Bool):RV nm (.bool b) (.bool b)
 | str (l:List UInt8):RV nm (.str l) (.str l)
 | agg (as bs:List AVal) (hl:as.length=bs.length) (h:∀ (j:Nat) (a b:AVal),as[j]? = some a->bs[j]? = some b->RV nm a b):RV nm (.agg as) (.agg bs)
 | slc (es fs:List (List AVal)) (hl:es.length=fs.length) (h0:∀ (i:Nat) (e f:List AVal),es[i]? = some e->fs[i]? = some f->e.length=f.length)
    (h:∀ (i:Nat) (e f:List AVal) (j:Nat) (a b:AVal),es[i]? = some e->fs[i]? = some f->e[j]? = some a->f[j]? = some b->RV nm a b):RV nm (.slc es) (.slc fs)
 | emp:RV nm .emp .emp
 | osl (i r sz a n:Nat) (hr:nm[i]? = some r):RV nm (.osl i sz a n) (.osl r sz a n)
 | ptr (i r a j:Nat) (hr:nm[i]? = some r):RV nm (.ptr i a j) (.ptr r a j)
 | vp (i r j:Nat) (hr:nm[i]? = some r):RV nm (.vp i j) (.vp r j)
 | pin (as bs:List AVal) (hl:as.length=bs.length) (h:∀ (j:Nat) (a b:AVal),as[j]? = some a->bs[j]? = some b->RV nm a b):RV nm (.pin as) (.pin bs)
 | anyp:RV nm .anyp .anyp
 | fn (f:Nat) (as bs as' bs':List AVal) (hl:as.length=bs.length) (h:∀ (j:Nat) (a b:AVal),as[j]? = some a->bs[j]? = some b->RV nm a b)
    (hl':as'.length=bs'.length) (h':∀ (j:Nat) (a b:AVal),as'[j]? = some a->bs'[j]? = some b->RV nm a b):RV nm (.fn f as as') (.fn f bs bs')
 | tup (as bs:List AVal) (hl:as.length=bs.length) (h:∀ (j:Nat) (a b:AVal),as[j]? = some a->bs[j]? = some b->RV nm a b):RV nm (.tup as) (.tup bs)
 | dead (b:AVal):RV nm .dead b
abbrev RL (nm:List Nat):=PW (RV nm)
abbrev RM (nm:List Nat):=PW (RL nm)
def Ext (nm nm':List Nat):Prop:=∀ (i r:Nat),nm[i]? = some r->nm'[i]? = some r
theorem Ext.refl (nm:List Nat):Ext nm nm:=fun _ _ h=>h
theorem Ext.trans {a b c:List Nat} (h:Ext a b) (k:Ext b c):Ext a c:=fun i r hr=>k i r (h i r hr)
theorem Ext.add (nm:List Nat) (r:Nat):Ext nm (nm++[r]):=fun i x h=>by rw [List.getElem?_append_left (List.getElem?_eq_some_iff.1 h).1];exact h
section
variable {nm nm':List Nat} {a b:AVal} {as bs:List AVal} {es fs:List (List AVal)}
theorem RV.up (x:Ext nm nm') (h:RV nm a b):RV nm' a b:=by
 induction h with
 | prim v=>exact .prim v
 | int k n=>exact .int k n
 | bool b=>exact .bool b
 | str l=>exact .str l
 | agg as bs hl _ ih=>exact .agg as bs hl ih
 | slc es fs hl h0 _ ih=>exact .slc es fs hl h0 ih
 | emp=>exact .emp
 | osl i r sz a n hr=>exact .osl i r sz a n (x i r hr)
 | ptr i r a j hr=>exact .ptr i r a j (x i r hr)
 | vp i r j hr=>exact .vp i r j (x i r hr)
 | pin as bs hl _ ih=>exact .pin as bs hl ih
 | anyp=>exact .anyp
 | fn f as bs as' bs' hl _ hl' _ ih ih'=>exact .fn f as bs as' bs' hl ih hl' ih'
 | tup as bs hl _ ih=>exact .tup as bs hl ih
 | dead b=>exact .dead b
theorem RL.up (x:Ext nm nm') (h:RL nm as bs):RL nm' as bs:=h.mono fun _ _ h=>h.up x
theorem RM.up (x:Ext nm nm') (h:RM nm es fs):RM nm' es fs:=h.mono fun _ _ h=>RL.up x h
theorem RV.agg' (h:RL nm as bs):RV nm (.agg as) (.agg bs):=.agg _ _ h.1 h.2
theorem RV.pin' (h:RL nm as bs):RV nm (.pin as) (.pin bs):=.pin _ _ h.1 h.2
theorem RV.tup' (h:RL nm as bs):RV nm (.tup as) (.tup bs):=.tup _ _ h.1 h.2
theorem RV.slc' (h:RM nm es fs):RV nm (.slc es) (.slc fs):=.slc _ _ h.1 (fun i e f he hf=>(h.2 i e f he hf).1) fun i e f j a b he hf ha hb=>(h.2 i e f he hf).2 j a b ha hb
inductive Flat:AVal->Prop
 | prim (v:Value):Flat (.prim v)
 | int (k:IntKind) (n:Int):Flat (.int k n)
 | bool (b:Bool):Flat (.bool b)
 | str (l:List UInt8):Flat (.str l)
 | emp:Flat .emp
 | anyp:Flat .anyp
 | dead:Flat .dead
 | agg (cs:List AVal) (h:∀ c∈cs,Flat c):Flat (.agg cs)
 | slc (es:List (List AVal)) (h:∀ e∈es,∀ c∈e,Flat c):Flat (.slc es)
 | pin (cs:List AVal) (h:∀ c∈cs,Flat c):Flat (.pin cs)
 | tup (cs:List AVal) (h:∀ c∈cs,Flat c):Flat (.tup cs)
 | fn (f:Nat) (as bs:List AVal) (h:∀ c∈as,Flat c) (h':∀ c∈bs,Flat c):Flat (.fn f as bs)
theorem Flat.rv (h:Flat a):RV nm a a:=by
 induction h with
 | prim v=>exact .prim v
 | int k n=>exact .int k n
 | bool b=>exact .bool b
 | str l=>exact .str l
 | emp=>exact .emp
 | anyp=>exact .anyp
 | dead=>exact .dead _
 | agg cs _ ih=>exact .agg cs cs rfl fun j a b ha hb=>by rw [ha] at hb;cases hb;exact ih _ (List.mem_of_getElem? ha)
 | slc es _ ih=>exact .slc es es rfl (fun i e f he hf=>by rw [he] at hf;cases hf;rfl) fun i e f j a b he hf ha hb=>by rw [he] at hf;cases hf;rw [ha] at hb;cases hb;exact ih _ (List.mem_of_getElem? he) _ (List.mem_of_getElem? ha)
 | pin cs _ ih=>exact .pin cs cs rfl fun j a b ha hb=>by rw [ha] at hb;cases hb;exact ih _ (List.mem_of_getElem? ha)
 | tup cs _ ih=>exact .tup cs cs rfl fun j a b ha hb=>by rw [ha] at hb;cases hb;exact ih _ (List.mem_of_getElem? ha)
 | fn f as bs _ _ ih ih'=>exact .fn f as as bs bs rfl (fun j a b ha hb=>by rw [ha] at hb;cases hb;exact ih _ (List.mem_of_getElem? ha)) rfl fun j a b ha hb=>by rw [ha] at hb;cases hb;exact ih' _ (List.mem_of_getElem? ha)
def nf0:AVal->Bool
 | .prim _=>true
 | .int _ _=>true
 | .bool _=>true
 | .str _=>true
 | .emp=>true
 | .slc []=>true
 | .fn _ [] []=>true
 | _=>false
def nf:AVal->Bool
 | .agg cs=>cs.all nf0
 | .tup cs=>cs.all nf0
 | v=>nf0 v
theorem nf0_flat (h:nf0 a=true):Flat a:=by
 unfold nf0 at h
 split at h
 ·exact .prim _
 ·exact .int _ _
 ·exact .bool _
 ·exact .str _
 ·exact .emp
 ·exact .slc _ (by simp)
 ·exact .fn _ _ _ (by simp) (by simp)
 ·cases h
theorem nf_flat (h:nf a=true):Flat a:=by
 unfold nf at h
 split at h
 ·exact .agg _ fun c hc=>nf0_flat (List.all_eq_true.1 h c hc)
 ·exact .tup _ fun c hc=>nf0_flat (List.all_eq_true.1 h c hc)
 ·exact nf0_flat h
theorem nf_all (h:as.all nf=true):RL nm as as:=⟨rfl,fun j a b ha hb=>by rw [ha] at hb;cases hb;exact (nf_flat (List.all_eq_true.1 h a (List.mem_of_getElem? ha))).rv⟩
theorem RV.nf0_eq (h:RV nm a b) (hn:nf0 a=true):b=a:=by
 unfold nf0 at hn
 split at hn <;> cases h <;> first | rfl | (cases hn;done) | skip
 ·rename_i hl _ _;rw [List.eq_nil_of_length_eq_zero hl.symm]
 ·rename_i hl _ hl' _;rw [List.eq_nil_of_length_eq_zero hl.symm,List.eq_nil_of_length_eq_zero hl'.symm]
theorem RL.nf0_eq (h:RL nm as bs) (hn:as.all nf0=true):bs=as:=by
 refine List.ext_getElem h.1.symm fun i h1 h2=>?_
 exact (h.2 i as[i] bs[i] (List.getElem?_eq_getElem h2) (List.getElem?_eq_getElem h1)).nf0_eq (List.all_eq_true.1 hn _ (List.getElem_mem h2))
theorem RV.nf_eq (h:RV nm a b) (hn:nf a=true):b=a:=by
 unfold nf at hn
 split at hn
 ·cases h with | agg _ bs hl h=>rw [RL.nf0_eq ⟨hl,h⟩ hn]
 ·cases h with | tup _ bs hl h=>rw [RL.nf0_eq ⟨hl,h⟩ hn]
 ·exact h.nf0_eq hn
theorem RL.nf_eq (h:RL nm as bs) (hn:as.all nf=true):bs=as:=by
 refine List.ext_getElem h.1.symm fun i h1 h2=>?_
 exact (h.2 i as[i] bs[i] (List.getElem?_eq_getElem h2) (List.getElem?_eq_getElem h1)).nf_eq (List.all_eq_true.1 hn _ (List.getElem_mem h2))
end
noncomputable def look {α:Type} (l:List (Nat×α)) (i:Nat):Option α:=List.rec none (fun p _ r=>bif Nat.beq p.1 i then some p.2 else r) l
theorem look_nil {α:Type} (i:Nat):look ([]:List (Nat×α)) i=none:=rfl
theorem JW {α:Type} (p:Nat×α) (l:List (Nat×α)) (i:Nat):look (p :: l) i=if p.1=i then some p.2 else look l i:=by
 show (bif Nat.beq p.1 i then some p.2 else look l i)=_
 by_cases h:p.1=i
 ·rw [if_pos h,h];simp
 ·rw [if_neg h]
  have:Nat.beq p.1 i=false:=by cases hq:Nat.beq p.1 i with
   | false=>rfl
   | true=>exact absurd (Nat.eq_of_beq_eq_true hq) h
  rw [this];rfl
structure CH where
 nx:Nat
 l:List (Nat×Option AObj)
 log:List Nat
 b:Nat
noncomputable def CH.get (c:CH) (i:Nat):Option AObj:=(look c.l i).getD none
def CH.put (c:CH) (i:Nat) (o:AObj):CH:=⟨c.nx,(i,some o) :: c.l,i :: c.log,c.b⟩
def CH.del (c:CH) (i:Nat):CH:=⟨c.nx,(i,none) :: c.l,i :: c.log,c.b⟩
def CH.add (c:CH) (o:AObj):CH:=⟨c.nx+1,(c.nx,some o) :: c.l,c.log,c.b⟩
def CH.to (c:CH) (log:List Nat) (b:Nat):CH:=⟨c.nx,c.l,log,b⟩
theorem CH.get_put (c:CH) (i j:Nat) (o:AObj):(c.put i o).get j=if j=i then some o else c.get j:=by
 simp only [CH.get,CH.put,JW]
 by_cases h:i=j
 ·simp [h]
 ·rw [if_neg h,if_neg (fun e=>h e.symm)]
theorem CH.get_add (c:CH) (j:Nat) (o:AObj):(c.add o).get j=if j=c.nx then some o else c.get j:=CH.get_put c c.nx j o
theorem CH.get_del (c:CH) (i j:Nat):(c.del i).get j=if j=i then none else c.get j:=by
 simp only [CH.get,CH.del,JW]
 by_cases h:i=j
 ·simp [h]
 ·rw [if_neg h,if_neg (fun e=>h e.symm)]
def RO (nm:List Nat) (o o':AObj):Prop:=o'.ty=o.ty/\o'.sz=o.sz/\RM nm o.es o'.es
theorem RO.up {nm nm':List Nat} {o o':AObj} (x:Ext nm nm') (h:RO nm o o'):RO nm' o o':=⟨h.1,h.2.1,RM.up x h.2.2⟩
structure HR (nm:List Nat) (c:CH) (hb hl h:Z2):Prop where
 obj:∀ i o,c.get i=some o -> ∃ r o',nm[i]? = some r/\h r=some o'/\RO nm o o'/\hb r=none
 inj:∀ i j o o' r,c.get i=some o->c.get j=some o'->nm[i]? = some r->nm[j]? = some r->i=j
 base:∀ r o,hb r=some o->h r=some o
 len:nm.length=c.nx
 lg:∀ r,hl r≠none->(∀ i∈c.log,nm[i]? ≠ some r)->h r=hl r
 nw:∀ k r,c.b<=k->nm[k]? = some r->hl r=none \/ ∃ i∈c.log,i<c.b/\nm[i]? = some r
section
variable {nm:List Nat} {c:CH} {hb hl h:Z2}
theorem HR.lt (H:HR nm c hb hl h) {i:Nat} {o:AObj} (hi:c.get i=some o):i<nm.length:=by
 obtain ⟨r,_,hr,_⟩:=H.obj i o hi
 exact (List.getElem?_eq_some_iff.1 hr).1
theorem HR.old (H:HR nm c hb hl h) {r:Nat} (hr:h r=none):hl r=none \/ ∃ i∈c.log,i<c.b/\nm[i]? = some r:=by
 by_cases h1:hl r=none
 ·exact .inl h1
 ·by_cases h2:∃ i∈c.log,nm[i]? = some r
  ·obtain ⟨i,hi,hs⟩:=h2
   by_cases hb1:i<c.b
   ·exact .inr ⟨i,hi,hb1,hs⟩
   ·exact H.nw i r (by omega) hs
  ·have:=H.lg r h1 fun i hi hs=>h2 ⟨i,hi,hs⟩
   rw [hr] at this;exact .inl this.symm
theorem HR.alloc (H:HR nm c hb hl h) {r:Nat} (hr:h r=none) {o o':AObj} (ho:RO (nm++[r]) o o'):HR (nm++[r]) (c.add o) hb hl (upd h r (some o')) where
 obj i x hi:=by
  rw [CH.get_add] at hi
  split at hi
  ·rename_i he;cases hi;subst he
   refine ⟨r,o',by rw [<-H.len];simp,Z9 _ _ _,ho,?_⟩
   cases hbr:hb r with
   | none=>rfl
   | some q=>rw [H.base r q hbr] at hr;cases hr
  ·obtain ⟨s,x',h1,h2,h3,h4⟩:=H.obj i x hi
   refine ⟨s,x',Ext.add nm r i s h1,?_,h3.up (Ext.add nm r),h4⟩
   rw [J7 _ _ (by rintro rfl;rw [hr] at h2;cases h2)];exact h2
 inj i j x y s hi hj h1 h2:=by
  have key:∀ k z,c.get k=some z->(nm++[r])[k]? = some r->False:=fun k z hk hkr=>by
   obtain ⟨s,x',q1,q2,_⟩:=H.obj k z hk
   rw [Ext.add nm r k s q1] at hkr
   cases hkr
   rw [hr] at q2;cases q2
  rw [CH.get_add] at hi hj
  have hend:(nm++[r])[c.nx]? = some r:=by rw [<-H.len];simp
  split at hi
  ·split at hj
   ·omega
   ·rename_i e1 e2;subst e1
    rw [hend] at h1;cases h1
    exact (key j y hj h2).elim
  ·split at hj
   ·rename_i e1 e2;subst e2
    rw [hend] at h2;cases h2
    exact (key i x hi h1).elim
   ·refine H.inj i j x y s hi hj ?_ ?_
    ·rw [List.getElem?_append_left (H.lt hi)] at h1;exact h1
    ·rw [List.getElem?_append_left (H.lt hj)] at h2;exact h2
 base s q hs:=by rw [J7 _ _ (by rintro rfl;rw [H.base _ q hs] at hr;cases hr)];exact H.base s q hs
 len:=by simp [CH.add,H.len]
 lg s h1 h2:=by
  have h3:=H.lg s h1 fun i hi hs=>h2 i hi (Ext.add nm r i s hs)
  rw [J7 _ _ (by rintro rfl;rw [hr] at h3;exact h1 h3.symm)];exact h3
 nw k s hk hs:=by
  rw [List.getElem?_append] at hs
  split at hs
  ·rcases H.nw k s hk hs with q | ⟨i,q1,q2,q3⟩
   ·exact .inl q
   ·exact .inr ⟨i,q1,q2,Ext.add nm r i s q3⟩
  ·have:s=r:=by
    rw [List.getElem?_singleton] at hs
    split at hs
    ·cases hs;rfl
    ·cases hs
   subst this
   rcases H.old hr with q | ⟨i,q1,q2,q3⟩
   ·exact .inl q
   ·exact .inr ⟨i,q1,q2,Ext.add nm s i s q3⟩
theorem HR.put (H:HR nm c hb hl h) {i r:Nat} {o o2 o2':AObj} (hi:c.get i=some o) (hr:nm[i]? = some r) (ho:RO nm o2 o2'):HR nm (c.put i o2) hb hl (upd h r (some o2')) where
 obj j x hj:=by
  rw [CH.get_put] at hj
  split at hj
  ·rename_i e;cases hj;subst e
   obtain ⟨s,x',h1,h2,h3,h4⟩:=H.obj j o hi
   rw [hr] at h1;cases h1
   exact ⟨r,o2',hr,Z9 _ _ _,ho,h4⟩
  ·rename_i e
   obtain ⟨s,x',h1,h2,h3,h4⟩:=H.obj j x hj
   refine ⟨s,x',h1,?_,h3,h4⟩
   rw [J7 _ _ (by rintro rfl;exact e (H.inj j i x o _ hj hi h1 hr))];exact h2
 inj j k x y s hj hk h1 h2:=by
  have key:∀ m z,(c.put i o2).get m=some z -> ∃ z',c.get m=some z':=fun m z hm=>by
   rw [CH.get_put] at hm
   split at hm
   ·rename_i e;subst e;exact ⟨o,hi⟩
   ·exact ⟨z,hm⟩
  obtain ⟨x',hx⟩:=key j x hj
  obtain ⟨y',hy⟩:=key k y hk
  exact H.inj j k x' y' s hx hy h1 h2
 base s q hs:=by
  obtain ⟨s',x',h1,h2,h3,h4⟩:=H.obj i o hi
  rw [hr] at h1;cases h1
  rw [J7 _ _ (by rintro rfl;rw [hs] at h4;cases h4)];exact H.base s q hs
 len:=H.len
 lg s h1 h2:=by
  rw [J7 _ _ (by rintro rfl;exact h2 i (List.mem_cons_self) hr)]
  exact H.lg s h1 fun j hj=>h2 j (List.mem_cons_of_mem _ hj)
 nw k s hk hs:=by
  rcases H.nw k s hk hs with q | ⟨j,q1,q2,q3⟩
  ·exact .inl q
  ·exact .inr ⟨j,List.mem_cons_of_mem _ q1,q2,q3⟩
theorem HR.del (H:HR nm c hb hl h) {i r:Nat} {o:AObj} (hi:c.get i=some o) (hr:nm[i]? = some r):HR nm (c.del i) hb hl (del h r) where
 obj j x hj:=by
  rw [CH.get_del] at hj
  split at hj
  ·cases hj
  ·rename_i e
   obtain ⟨s,x',h1,h2,h3,h4⟩:=H.obj j x hj
   refine ⟨s,x',h1,?_,h3,h4⟩
   unfold Sim.del
   rw [if_neg (by rintro rfl;exact e (H.inj j i x o _ hj hi h1 hr))];exact h2
 inj j k x y s hj hk h1 h2:=by
  rw [CH.get_del] at hj hk
  split at hj
  ·cases hj
  ·split at hk
   ·cases hk
   ·exact H.inj j k x y s hj hk h1 h2
 base s q hs:=by
  obtain ⟨s',x',h1,h2,h3,h4⟩:=H.obj i o hi
  rw [hr] at h1;cases h1
  unfold Sim.del
  rw [if_neg (by rintro rfl;rw [hs] at h4;cases h4)];exact H.base s q hs
 len:=H.len
 lg s h1 h2:=by
  unfold Sim.del
  rw [if_neg (by rintro rfl;exact h2 i (List.mem_cons_self) hr)]
  exact H.lg s h1 fun j hj=>h2 j (List.mem_cons_of_mem _ hj)
 nw k s hk hs:=by
  rcases H.nw k s hk hs with q | ⟨j,q1,q2,q3⟩
  ·exact .inl q
  ·exact .inr ⟨j,List.mem_cons_of_mem _ q1,q2,q3⟩
theorem HR.fresh (H:HR nm c hb hl h):HR nm (c.to [] c.nx) hb h h:=⟨H.obj,H.inj,H.base,H.len,fun _ _ _=>rfl,fun k r hk hs=>by
 have h1:=(List.getElem?_eq_some_iff.1 hs).1
 rw [H.len] at h1
 have h2:c.nx<=k:=hk
 omega⟩
theorem HR.back {nm':List Nat} {c':CH} {h':Z2} (H:HR nm c hb hl h) (x:Ext nm nm') (H':HR nm' c' hb h h') (hb1:c'.b=c.nx):HR nm' (c'.to (c'.log++c.log) c.b) hb hl h':=
 ⟨H'.obj,H'.inj,H'.base,H'.len,fun r h1 h2=>by
   have h3:=H.lg r h1 fun i hi hs=>h2 i (List.mem_append.2 (.inr hi)) (x i r hs)
   rw [H'.lg r (by rw [h3];exact h1) fun i hi=>h2 i (List.mem_append.2 (.inl hi)),h3],fun k r hk hs=>by
   have up:(hl r=none \/ ∃ i∈c.log,i<c.b/\nm[i]? = some r)->hl r=none \/ ∃ i∈c'.log++c.log,i<c.b/\nm'[i]? = some r:=fun q=>by
    rcases q with q | ⟨i,q1,q2,q3⟩
    ·exact .inl q
    ·exact .inr ⟨i,List.mem_append.2 (.inr q1),q2,x i r q3⟩
   have old:∀ j,c.b<=j->j<c.nx->nm'[j]? = some r->hl r=none \/ ∃ i∈c.log,i<c.b/\nm[i]? = some r:=fun j h1 h2 h3=>by
    rw [<-H.len] at h2
    have h4:=x j _ (List.getElem?_eq_getElem h2)
    rw [h3] at h4
    exact H.nw j r h1 (by rw [List.getElem?_eq_getElem h2,h4])
   have hk1:c.b<=k:=hk
   by_cases hkn:k<c.nx
   ·exact up (old k hk1 hkn hs)
   ·rcases H'.nw k r (by omega) hs with q | ⟨i,q1,q2,q3⟩
    ·exact up (H.old q)
    ·by_cases hi:i<c.b
     ·exact .inr ⟨i,List.mem_append.2 (.inl q1),hi,q3⟩
     ·exact up (old i (by omega) (by omega) q3)⟩
theorem HR.nil:HR [] ⟨0,[],[],0⟩ h h h where
 obj i o hi:=by cases hi
 inj i j o o' r hi:=by cases hi
 base r o ho:=ho
 len:=rfl
 lg r _ _:=rfl
 nw k r _ hs:=by simp at hs
end
def nfX:SX->Bool
 | .t _=>true
 | .c v=>nf v
def nfO:Option SX->Bool
 | some x=>nfX x
 | none=>true
def RE (nm:List Nat) (e e':Env):Prop:=∀ t,RV nm (e t) (e' t)
section
variable {nm:List Nat} {e e':Env} {a b:AVal} {as bs:List AVal}
theorem RE.x (E:RE nm e e') {x:SX} (hx:nfX x=true):RV nm (ev e x) (ev e' x):=by
 cases x with
 | t n=>exact E n
 | c v=>exact (nf_flat hx).rv
theorem RE.xs (E:RE nm e e') {l:List SX} (hx:l.all nfX=true):RL nm (l.map (ev e)) (l.map (ev e')):=PW.maps l fun x h=>E.x (List.all_eq_true.1 hx x h)
theorem RE.up {nm':List Nat} (x:Ext nm nm') (E:RE nm e e'):RE nm' e e':=fun t=>(E t).up x
theorem RV.cells (V:RV nm a b) (hv:isV a=true):isV b=true/\RL nm (cellsOf a) (cellsOf b):=by
 have one:RL nm [a] [b]:=PW.cons V PW.nil
 cases V <;> first | exact ⟨hv,⟨by assumption,by assumption⟩⟩ | exact ⟨hv,one⟩ | (cases hv;done)
theorem cutV_rv (h:RL nm as bs) (size:Nat) (agg:Bool):RV nm (cutV size agg as) (cutV size agg bs):=by
 unfold cutV
 split
 ·exact .agg' (h.take size)
 ·exact h.headD (.dead _)
theorem RV.str_eq {l:List UInt8} (h:RV nm (.str l) b):b=.str l:=by cases h;rfl
theorem RV.int_eq {k:IntKind} {n:Int} (h:RV nm (.int k n) b):b=.int k n:=by cases h;rfl
theorem RV.bool_eq {t:Bool} (h:RV nm (.bool t) b):b=.bool t:=by cases h;rfl
theorem RV.emp_eq (h:RV nm .emp b):b=.emp:=by cases h;rfl
theorem RV.anyp_eq (h:RV nm .anyp b):b=.anyp:=by cases h;rfl
theorem RV.prim_eq {v:Value} (h:RV nm (.prim v) b):b=.prim v:=by cases h;rfl
theorem RV.agg_inv (h:RV nm (.agg as) b):∃ bs,b=.agg bs/\RL nm as bs:=by cases h with | agg _ bs hl h=>exact ⟨bs,rfl,hl,h⟩
theorem RV.pin_inv (h:RV nm (.pin as) b):∃ bs,b=.pin bs/\RL nm as bs:=by cases h with | pin _ bs hl h=>exact ⟨bs,rfl,hl,h⟩
theorem RV.tup_inv (h:RV nm (.tup as) b):∃ bs,b=.tup bs/\RL nm as bs:=by cases h with | tup _ bs hl h=>exact ⟨bs,rfl,hl,h⟩
theorem RV.slc_inv {es:List (List AVal)} (h:RV nm (.slc es) b):∃ fs,b=.slc fs/\RM nm es fs:=by
 cases h with | slc _ fs hl h0 h=>exact ⟨fs,rfl,hl,fun i e f he hf=>⟨h0 i e f he hf,fun j a b ha hb=>h i e f j a b he hf ha hb⟩⟩
theorem RV.osl_inv {i sz x n:Nat} (h:RV nm (.osl i sz x n) b):∃ r,b=.osl r sz x n/\nm[i]? = some r:=by cases h with | osl _ r _ _ _ hr=>exact ⟨r,rfl,hr⟩
theorem RV.ptr_inv {i x j:Nat} (h:RV nm (.ptr i x j) b):∃ r,b=.ptr r x j/\nm[i]? = some r:=by cases h with | ptr _ r _ _ hr=>exact ⟨r,rfl,hr⟩
theorem RV.vp_inv {i j:Nat} (h:RV nm (.vp i j) b):∃ r,b=.vp r j/\nm[i]? = some r:=by cases h with | vp _ r _ hr=>exact ⟨r,rfl,hr⟩
theorem RV.fn_inv {f:Nat} {cs:List AVal} (h:RV nm (.fn f as cs) b):∃ bs ds,b=.fn f bs ds/\RL nm as bs/\RL nm cs ds:=by cases h with | fn _ _ bs _ ds hl h hl' h'=>exact ⟨bs,ds,rfl,⟨hl,h⟩,⟨hl',h'⟩⟩
theorem RV.deVp (h:RV nm a b) (ha:a≠.dead):RV nm (Sim.deVp a) (Sim.deVp b):=by
 cases h <;> first | exact .ptr _ _ _ _ (by assumption) | (simp only [Sim.deVp];constructor <;> assumption) | exact absurd rfl ha
end
end Go.Sim
end
section
namespace Go.Sim
open Go
noncomputable section
def okIb (op:BinOp) (k k':IntKind) (b:Int):Bool:=
 match op with
 | .quo | .rem=>decide (k=k')&&decide (b≠0)
 | .shl | .shr=>decide (0<=b)
 | _=>decide (k=k')
def okSb (op:BinOp) (a b:List UInt8):Bool:=
 match op with
 | .add=>decide (a.length+b.length<=9223372036854775807)
 | .eql | .neq | .lss | .geq | .gtr | .leq=>true
 | _=>false
def okBinb (op:BinOp):AVal->AVal->Bool
 | .int k _,.int k' b=>okIb op k k' b
 | .str a,.str b=>okSb op a b
 | _,_=>false
def okUnb (op:UnOp):AVal->Bool
 | .bool _=>match op with | .not=>true | _=>false
 | .int _ _=>match op with | .neg | .xor=>true | _=>false
 | _=>false
def T6:List Nat->List AVal->List AVal->Bool
 | [],[],[]=>true
 | t :: ts,a :: as,b :: bs=>(match t,a,b with
   | 0,.int k _,.int k' _=>decide (k=k')
   | 1,.str _,.str _=>true
   | 2,.bool _,.bool _=>true
   | _,_,_=>false)&&T6 ts as bs
 | _,_,_=>false
def okEqsb (ks:List Nat):AVal->AVal->Bool
 | .agg as,.agg bs=>T6 ks as bs
 | _,_=>false
def isI:AVal->Bool
 | .int _ _=>true
 | _=>false
def isB:AVal->Bool
 | .bool _=>true
 | _=>false
def isS:AVal->Bool
 | .str _=>true
 | _=>false
def okFldb (off size:Nat) (agg:Bool):AVal->Bool
 | .agg cs=>decide (off+size<=cs.length)&&(agg||decide (size=1))
 | _=>false
def okFldAb:AVal->Bool
 | .pin _=>true
 | .ptr _ _ _=>true
 | .vp _ _=>true
 | _=>false
def okIdxAb (sz:Nat):AVal->AVal->Bool
 | .slc es,.int _ k=>decide (0<=k)&&decide (k<es.length)&&decide ((es.getD k.toNat []).length=sz)
 | .osl _ sz' _ n,.int _ k=>decide (sz'=sz)&&decide (0<=k)&&decide (k<n)
 | _,_=>false
def okIdxGb (n:Nat):AVal->AVal->Bool
 | .pin _,.int _ k=>decide (0<=k)&&decide (k<n)
 | _,_=>false
def okIdxSb:AVal->AVal->Bool
 | .str l,.int _ k=>decide (0<=k)&&decide (k<l.length)
 | _,_=>false
def okBb:Option AVal->Bool
 | some (.int _ _)=>true
 | none=>true
 | _=>false
def okSlSb:AVal->Option AVal->Option AVal->Bool
 | .str l,lo,hi=>okBb lo&&okBb hi&&decide (0<=X2 lo)&&decide (X2 lo<=X4 l.length hi)&&decide (X4 l.length hi<=l.length)
 | _,_,_=>false
def okSlAb (sz:Nat):AVal->Option AVal->Option AVal->Bool
 | .slc es,lo,hi=>okBb lo&&okBb hi&&decide (0<=X2 lo)&&decide (X2 lo<=X4 es.length hi)&&decide (X4 es.length hi<=es.length)&&es.all (fun e=>decide (e.length=sz))
 | .osl _ sz' _ n,lo,hi=>decide (sz'=sz)&&okBb lo&&okBb hi&&decide (0<=X2 lo)&&decide (X2 lo<=X4 n hi)&&decide (X4 n hi<=n)
 | .emp,lo,hi=>okBb lo&&okBb hi&&decide (X2 lo=0)&&decide (X4 0 hi=0)
 | _,_,_=>false
def okExtb (i:Nat):AVal->Bool
 | .tup vs=>decide (i<vs.length)
 | _=>false
def okFillb (n:Nat):List (Nat×Nat×AVal)->Bool
 | []=>true
 | (off,size,v) :: r=>isV v&&decide ((cellsOf v).length=size)&&decide (off+size<=n)&&okFillb n r
def okLenb:AVal->Bool
 | .slc _ | .osl .. | .emp=>true
 | _=>false
def ok2ib:AVal->AVal->Bool
 | .int k _,.int k' _=>decide (k=k')
 | _,_=>false
def ldC (c:CH) (size:Nat) (agg:Bool) (x:AVal):Option AVal:=
 match deVp x with
 | .pin cs=>if size<=cs.length/\(agg=true\/size=1) then some (cutV size agg cs) else none
 | .ptr i a j=>match c.get i with
   | some o=>if a<o.es.length/\j+size<=(o.es.getD a []).length/\(agg=true\/size=1) then some (cutV size agg ((o.es.getD a []).drop j)) else none
   | none=>none
 | _=>none
theorem aggOr {agg:Bool} {s:Nat} (h:agg=true\/s=1) (hq:agg=false):s=1:=by
 rcases h with h | h
 ·rw [hq] at h;cases h
 ·exact h
def gd (b:Bool) (v:AVal):Option AVal:=if b=true then some v else none
def evS (si:SI) (e:Env) (c:CH):Option AVal:=
 match si with
 | .mv x=>gd (nfX x) (ev e x)
 | .pick k a b=>gd (nfX k&&nfX a&&nfX b&&isB (ev e k)) (aPick (ev e k) (ev e a) (ev e b))
 | .bin op x y=>gd (nfX x&&nfX y&&okBinb op (ev e x) (ev e y)) (QX op (ev e x) (ev e y))
 | .eqs neg ks x y=>gd (nfX x&&nfX y&&okEqsb ks (ev e x) (ev e y)) (aEqs neg (ev e x) (ev e y))
 | .eqb neg x y=>gd (nfX x&&nfX y&&isB (ev e x)&&isB (ev e y)) (aEqb neg (ev e x) (ev e y))
 | .un op x=>gd (nfX x&&okUnb op (ev e x)) (aUn op (ev e x))
 | .cvi k x=>gd (nfX x&&isI (ev e x)) (aCvi k (ev e x))
 | .r2s x=>gd (nfX x&&isI (ev e x)) (aR2s (ev e x))
 | .idc x=>gd (nfX x&&isS (ev e x)) (ev e x)
 | .fld off size agg x=>gd (nfX x&&okFldb off size agg (ev e x)) (aFld off size agg (ev e x))
 | .fldA off x=>gd (nfX x&&okFldAb (ev e x)) (aFldA off (ev e x))
 | .idxA sz x i=>gd (nfX x&&nfX i&&okIdxAb sz (ev e x) (ev e i)) (aIdxA (ev e x) (ev e i))
 | .idxG n x i=>gd (nfX x&&nfX i&&okIdxGb n (ev e x) (ev e i)) (aIdxG (ev e x) (ev e i))
 | .idxS x i=>gd (nfX x&&nfX i&&okIdxSb (ev e x) (ev e i)) (aIdxS (ev e x) (ev e i))
 | .ld size agg x=>if nfX x=true then ldC c size agg (ev e x) else none
 | .slS x lo hi=>gd (nfX x&&nfO lo&&nfO hi&&okSlSb (ev e x) (evO e lo) (evO e hi)) (aSlS (ev e x) (evO e lo) (evO e hi))
 | .slA sz x lo hi=>gd (nfX x&&nfO lo&&nfO hi&&okSlAb sz (ev e x) (evO e lo) (evO e hi)) (aSlA (ev e x) (evO e lo) (evO e hi))
 | .ext x i=>gd (nfX x&&okExtb i (ev e x)) (aExt i (ev e x))
 | .bld zero parts=>gd (zero.all nf&&parts.all (fun p=>nfX p.2.2)&&okFillb zero.length (parts.map fun p=>(p.1,p.2.1,ev e p.2.2))) (.agg (Q8 zero (parts.map fun p=>(p.1,p.2.1,ev e p.2.2))))
 | .len x=>gd (nfX x&&okLenb (ev e x)) (aLen (ev e x))
 | .lenS x=>gd (nfX x&&isS (ev e x)) (aLenS (ev e x))
 | .min2 x y=>gd (nfX x&&nfX y&&ok2ib (ev e x) (ev e y)) (aMin (ev e x) (ev e y))
 | .max2 x y=>gd (nfX x&&nfX y&&ok2ib (ev e x) (ev e y)) (aMax (ev e x) (ev e y))
 | .mkf f first cap=>gd (first.all nfX&&cap.all nfX) (.fn f (first.map (ev e)) (cap.map (ev e)))
 | _=>none
theorem gd_out {b:Bool} {v r:AVal} (h:gd b v=some r):b=true/\r=v:=by
 unfold gd at h
 split at h
 ·cases h;exact ⟨by assumption,rfl⟩
 ·cases h
section
variable {nm:List Nat} {e e':Env} {c:CH} {hb hl h:Z2} {a b a' b' v:AVal}
theorem isI_out (h:isI a=true) (V:RV nm a b):∃ k n,a=.int k n/\b=.int k n:=by
 unfold isI at h;split at h
 ·exact ⟨_,_,rfl,V.int_eq⟩
 ·cases h
theorem isB_out (h:isB a=true) (V:RV nm a b):∃ t,a=.bool t/\b=.bool t:=by
 unfold isB at h;split at h
 ·exact ⟨_,rfl,V.bool_eq⟩
 ·cases h
theorem isS_out (h:isS a=true) (V:RV nm a b):∃ l,a=.str l/\b=.str l:=by
 unfold isS at h;split at h
 ·exact ⟨_,rfl,V.str_eq⟩
 ·cases h
theorem okI_of {op:BinOp} {k k':IntKind} {n:Int} (h:okIb op k k' n=true):okI op k k' n:=by
 unfold okIb at h;unfold okI;split at h <;> simp_all
theorem okS_of {op:BinOp} {x y:List UInt8} (h:okSb op x y=true):okS op x y:=by
 unfold okSb at h;unfold okS;split at h <;> simp_all
theorem bin_rv {op:BinOp} (h:okBinb op a b=true) (V:RV nm a a') (W:RV nm b b'):V7 op a' b'/\RV nm (QX op a b) (QX op a' b'):=by
 unfold okBinb at h
 split at h
 ·rw [V.int_eq,W.int_eq]
  refine ⟨okI_of h,?_⟩
  unfold QX binI
  cases op <;> constructor
 ·rw [V.str_eq,W.str_eq]
  refine ⟨okS_of h,?_⟩
  unfold QX binS
  cases op <;> constructor
 ·cases h
theorem un_rv {op:UnOp} (h:okUnb op a=true) (V:RV nm a a'):okUn op a'/\RV nm (aUn op a) (aUn op a'):=by
 unfold okUnb at h
 split at h
 ·rw [V.bool_eq]
  split at h
  ·exact ⟨rfl,.bool _⟩
  ·cases h
 ·rw [V.int_eq]
  split at h
  ·exact ⟨.inl rfl,.int _ _⟩
  ·exact ⟨.inr rfl,.int _ _⟩
  ·cases h
 ·cases h
theorem eqCells_rv:∀ {ks:List Nat} {as bs as' bs':List AVal},T6 ks as bs=true->RL nm as as'->RL nm bs bs'->Q1 ks as' bs'/\Q4 as' bs'=Q4 as bs
 | [],[],[],as',bs',_,V,W=>by
   obtain rfl:as'=[]:=List.eq_nil_of_length_eq_zero V.1.symm
   obtain rfl:bs'=[]:=List.eq_nil_of_length_eq_zero W.1.symm
   exact ⟨trivial,rfl⟩
 | t :: ts,a :: as,b :: bs,as',bs',h,V,W=>by
   cases as' with
   | nil=>cases V.1
   | cons a' as'=>
   cases bs' with
   | nil=>cases W.1
   | cons b' bs'=>
     have Va:=V.2 0 a a' rfl rfl
     have Wb:=W.2 0 b b' rfl rfl
     have Vs:RL nm as as':=V.drop 1
     have Ws:RL nm bs bs':=W.drop 1
     simp only [T6,Bool.and_eq_true] at h
     obtain ⟨h1,h2⟩:=h
     obtain ⟨i1,i2⟩:=eqCells_rv h2 Vs Ws
     split at h1
     ·rw [Va.int_eq,Wb.int_eq];exact ⟨⟨by simpa using h1,i1⟩,by simp [Q4,i2]⟩
     ·rw [Va.str_eq,Wb.str_eq];exact ⟨i1,by simp [Q4,i2]⟩
     ·rw [Va.bool_eq,Wb.bool_eq];exact ⟨i1,by simp [Q4,i2]⟩
     ·cases h1
 | [],[],_ :: _,_,_,h,_,_=>by simp [T6] at h
 | [],_ :: _,_,_,_,h,_,_=>by simp [T6] at h
 | _ :: _,[],_,_,_,h,_,_=>by simp [T6] at h
 | _ :: _,_ :: _,[],_,_,h,_,_=>by simp [T6] at h
theorem eqs_rv {ks:List Nat} {neg:Bool} (h:okEqsb ks a b=true) (V:RV nm a a') (W:RV nm b b'):okEqs ks a' b'/\RV nm (aEqs neg a b) (aEqs neg a' b'):=by
 unfold okEqsb at h
 split at h
 ·obtain ⟨as',rfl,V1⟩:=V.agg_inv;replace V:=V1
  obtain ⟨bs',rfl,W1⟩:=W.agg_inv;replace W:=W1
  obtain ⟨h1,h2⟩:=eqCells_rv h V W
  refine ⟨h1,?_⟩
  simp only [aEqs,h2]
  exact .bool _
 ·cases h
theorem fld_rv {off size:Nat} {agg:Bool} (h:okFldb off size agg a=true) (V:RV nm a a'):okFld off size agg a'/\RV nm (aFld off size agg a) (aFld off size agg a'):=by
 unfold okFldb at h
 split at h
 ·obtain ⟨as',rfl,V1⟩:=V.agg_inv;replace V:=V1
  simp only [Bool.and_eq_true,Bool.or_eq_true,decide_eq_true_eq] at h
  exact ⟨⟨by rw [<-V.1];exact h.1,aggOr h.2⟩,cutV_rv (V.drop off) _ _⟩
 ·cases h
theorem fldA_rv {off:Nat} (h:okFldAb a=true) (V:RV nm a a'):okFldA a'/\RV nm (aFldA off a) (aFldA off a'):=by
 unfold okFldAb at h
 split at h
 ·obtain ⟨as',rfl,V1⟩:=V.pin_inv;replace V:=V1
  exact ⟨trivial,.pin' (V.drop off)⟩
 ·obtain ⟨r,rfl,hr⟩:=V.ptr_inv
  exact ⟨trivial,.ptr _ _ _ _ hr⟩
 ·obtain ⟨r,rfl,hr⟩:=V.vp_inv
  exact ⟨trivial,.vp _ _ _ hr⟩
 ·cases h
theorem idxA_rv {sz:Nat} (h:okIdxAb sz a b=true) (V:RV nm a a') (W:RV nm b b'):okIdxA sz a' b'/\RV nm (aIdxA a b) (aIdxA a' b'):=by
 unfold okIdxAb at h
 split at h
 ·obtain ⟨fs,rfl,V1⟩:=V.slc_inv;replace V:=V1
  rw [W.int_eq]
  simp only [Bool.and_eq_true,decide_eq_true_eq] at h
  have hg:=fun n=>V.getD n (PW.nil (R:=RV nm))
  exact ⟨⟨h.1.1,by rw [<-V.1];exact h.1.2,by rw [<-(hg _).1];exact h.2⟩,.pin' (hg _)⟩
 ·obtain ⟨r,rfl,hr⟩:=V.osl_inv
  rw [W.int_eq]
  simp only [Bool.and_eq_true,decide_eq_true_eq] at h
  exact ⟨⟨h.1.1,h.1.2,h.2⟩,.ptr _ _ _ _ hr⟩
 ·cases h
theorem idxG_rv {n:Nat} (h:okIdxGb n a b=true) (V:RV nm a a') (W:RV nm b b'):okIdxG n a' b'/\RV nm (aIdxG a b) (aIdxG a' b'):=by
 unfold okIdxGb at h
 split at h
 ·obtain ⟨fs,rfl,V1⟩:=V.pin_inv;replace V:=V1
  rw [W.int_eq]
  simp only [Bool.and_eq_true,decide_eq_true_eq] at h
  exact ⟨h,.pin' (V.drop _)⟩
 ·cases h
theorem idxS_rv (h:okIdxSb a b=true) (V:RV nm a a') (W:RV nm b b'):okIdxS a' b'/\RV nm (aIdxS a b) (aIdxS a' b'):=by
 unfold okIdxSb at h
 split at h
 ·rw [V.str_eq,W.int_eq]
  simp only [Bool.and_eq_true,decide_eq_true_eq] at h
  exact ⟨h,.int _ _⟩
 ·cases h
theorem ldC_rv {size:Nat} {agg:Bool} (hv:ldC c size agg a=some v) (V:RV nm a a') (H:HR nm c hb hl h):okLd h size agg a'/\RV nm v (aLd h size agg a'):=by
 have hd:a≠.dead:=by rintro rfl;simp [ldC,deVp] at hv
 have V:=V.deVp hd
 unfold ldC at hv
 unfold okLd aLd
 split at hv
 ·rename_i cs hcs
  rw [hcs] at V
  obtain ⟨ds,hds,V⟩:=V.pin_inv
  rw [hds]
  split at hv
  ·rename_i hk;cases hv
   exact ⟨⟨by rw [<-V.1];exact hk.1,aggOr hk.2⟩,cutV_rv V _ _⟩
  ·cases hv
 ·rename_i i x j hcs
  rw [hcs] at V
  obtain ⟨r,hds,hr⟩:=V.ptr_inv
  rw [hds]
  split at hv
  ·rename_i o ho
   obtain ⟨s,o',q1,q2,q3,q4⟩:=H.obj i o ho
   rw [hr] at q1;cases q1
   split at hv
   ·rename_i hk;cases hv
    have hg:=q3.2.2.getD x (PW.nil (R:=RV nm))
    refine ⟨⟨o',q2,by rw [<-q3.2.2.1];exact hk.1,by rw [<-hg.1];exact hk.2.1,aggOr hk.2.2⟩,?_⟩
    simp only [aLd0,q2]
    exact cutV_rv (hg.drop j) _ _
   ·cases hv
  ·cases hv
 ·cases hv
theorem VJ {x:Option SX} (hx:nfO x=true) (h:okBb (evO e x)=true) (E:RE nm e e'):evO e' x=evO e x/\okB (evO e x):=by
 cases x with
 | none=>exact ⟨rfl,trivial⟩
 | some x=>
   have V:=E.x (x:=x) hx
   simp only [evO] at h ⊢
   unfold okBb at h
   split at h
   ·rename_i k n hq
    cases hq':ev e x <;> rw [hq'] at hq <;> cases hq
    rw [hq'] at V
    exact ⟨by rw [V.int_eq],trivial⟩
   ·rename_i hq;cases hq
   ·cases h
theorem slS_rv {lo hi:Option SX} (hl:nfO lo=true) (hh:nfO hi=true) (h:okSlSb a (evO e lo) (evO e hi)=true) (V:RV nm a a') (E:RE nm e e'):okSlS a' (evO e' lo) (evO e' hi)/\RV nm (aSlS a (evO e lo) (evO e hi)) (aSlS a' (evO e' lo) (evO e' hi)):=by
 unfold okSlSb at h
 split at h
 ·rw [V.str_eq]
  simp only [Bool.and_eq_true,decide_eq_true_eq] at h
  obtain ⟨⟨⟨⟨h1,h2⟩,h3⟩,h4⟩,h5⟩:=h
  obtain ⟨q1,q2⟩:=VJ hl h1 E
  obtain ⟨q3,q4⟩:=VJ hh h2 E
  rw [q1,q3]
  exact ⟨⟨q2,q4,h3,h4,h5⟩,.str _⟩
 ·cases h
theorem slA_rv {sz:Nat} {lo hi:Option SX} (hl:nfO lo=true) (hh:nfO hi=true) (h:okSlAb sz a (evO e lo) (evO e hi)=true) (V:RV nm a a') (E:RE nm e e'):okSlA sz a' (evO e' lo) (evO e' hi)/\RV nm (aSlA a (evO e lo) (evO e hi)) (aSlA a' (evO e' lo) (evO e' hi)):=by
 unfold okSlAb at h
 split at h
 ·obtain ⟨fs,rfl,V1⟩:=V.slc_inv;replace V:=V1
  simp only [Bool.and_eq_true,decide_eq_true_eq] at h
  obtain ⟨⟨⟨⟨⟨h1,h2⟩,h3⟩,h4⟩,h5⟩,h6⟩:=h
  obtain ⟨q1,q2⟩:=VJ hl h1 E
  obtain ⟨q3,q4⟩:=VJ hh h2 E
  rw [q1,q3]
  refine ⟨⟨q2,q4,h3,by rw [<-V.1];exact h4,by rw [<-V.1];exact h5,fun f hf=>?_⟩,?_⟩
  ·obtain ⟨i,hi⟩:=List.mem_iff_getElem?.1 hf
   obtain ⟨x,hx,hxf⟩:=V.get' hi
   rw [<-hxf.1]
   simpa using List.all_eq_true.1 h6 x (List.mem_of_getElem? hx)
  ·simp only [aSlA,V.1]
   exact .slc' ((V.take _).drop _)
 ·obtain ⟨r,rfl,hr⟩:=V.osl_inv
  simp only [Bool.and_eq_true,decide_eq_true_eq] at h
  obtain ⟨⟨⟨⟨⟨h1,h2⟩,h3⟩,h4⟩,h5⟩,h6⟩:=h
  obtain ⟨q1,q2⟩:=VJ hl h2 E
  obtain ⟨q3,q4⟩:=VJ hh h3 E
  rw [q1,q3]
  exact ⟨⟨h1,q2,q4,h4,h5,h6⟩,.osl _ _ _ _ _ hr⟩
 ·rw [V.emp_eq]
  simp only [Bool.and_eq_true,decide_eq_true_eq] at h
  obtain ⟨⟨⟨h1,h2⟩,h3⟩,h4⟩:=h
  obtain ⟨q1,q2⟩:=VJ hl h1 E
  obtain ⟨q3,q4⟩:=VJ hh h2 E
  rw [q1,q3]
  exact ⟨⟨q2,q4,h3,h4⟩,.emp⟩
 ·cases h
theorem ext_rv {i:Nat} (h:okExtb i a=true) (V:RV nm a a'):okExt i a'/\RV nm (aExt i a) (aExt i a'):=by
 unfold okExtb at h
 split at h
 ·obtain ⟨bs,rfl,V1⟩:=V.tup_inv;replace V:=V1
  simp only [decide_eq_true_eq] at h
  exact ⟨by show i<bs.length;rw [<-V.1];exact h,V.getD i (.dead _)⟩
 ·cases h
theorem fill_rv:∀ {ps:List (Nat×Nat×SX)} {as bs:List AVal},(ps.all fun p=>nfX p.2.2)=true->okFillb as.length (ps.map fun p=>(p.1,p.2.1,ev e p.2.2))=true->RE nm e e'->RL nm as bs ->
 Q7 bs.length (ps.map fun p=>(p.1,p.2.1,ev e' p.2.2))/\RL nm (Q8 as (ps.map fun p=>(p.1,p.2.1,ev e p.2.2))) (Q8 bs (ps.map fun p=>(p.1,p.2.1,ev e' p.2.2)))
 | [],_,_,_,_,_,V=>⟨trivial,V⟩
 | (off,size,x) :: ps,as,bs,hx,h,E,V=>by
   simp only [List.all_cons,Bool.and_eq_true] at hx
   simp only [List.map_cons,okFillb,Bool.and_eq_true,decide_eq_true_eq] at h
   obtain ⟨⟨⟨h1,h2⟩,h3⟩,h4⟩:=h
   obtain ⟨c1,c2⟩:=(E.x hx.1).cells h1
   have V':RL nm (as.take off++cellsOf (ev e x)++as.drop (off+size)) (bs.take off++cellsOf (ev e' x)++bs.drop (off+size)):=((V.take off).append c2).append (V.drop _)
   have hl:(as.take off++cellsOf (ev e x)++as.drop (off+size)).length=as.length:=by simp only [List.length_append,List.length_take,List.length_drop,h2];omega
   obtain ⟨q1,q2⟩:=fill_rv (ps:=ps) hx.2 (by rw [hl];exact h4) E V'
   refine ⟨⟨c1,by rw [<-c2.1];exact h2,by rw [<-V.1];exact h3,?_⟩,q2⟩
   rw [<-V'.1,hl,V.1] at q1
   exact q1
theorem len_rv (h:okLenb a=true) (V:RV nm a a'):okLen a'/\RV nm (aLen a) (aLen a'):=by
 unfold okLenb at h
 split at h
 ·obtain ⟨fs,rfl,V1⟩:=V.slc_inv;replace V:=V1
  exact ⟨trivial,by simp only [aLen,V.1];exact .int _ _⟩
 ·obtain ⟨r,rfl,hr⟩:=V.osl_inv
  exact ⟨trivial,.int _ _⟩
 ·rw [V.emp_eq];exact ⟨trivial,.int _ _⟩
 ·cases h
theorem ok2i_of (h:ok2ib a b=true) (V:RV nm a a') (W:RV nm b b'):∃ k x y,a=.int k x/\b=.int k y/\a'=.int k x/\b'=.int k y:=by
 unfold ok2ib at h
 split at h
 ·simp only [decide_eq_true_eq] at h;subst h
  exact ⟨_,_,_,rfl,rfl,V.int_eq,W.int_eq⟩
 ·cases h
theorem evS_sound {si:SI} (hv:evS si e c=some v) (E:RE nm e e') (H:HR nm c hb hl h):si.gated=true/\fok si e' h/\RV nm v (fop si e' h):=by
 unfold evS at hv
 split at hv
 case h_25=>cases hv
 case h_15=>
  rename_i size agg x
  split at hv
  ·rename_i hx
   exact ⟨rfl,ldC_rv hv (E.x hx) H⟩
  ·cases hv
 all_goals
  obtain ⟨hk,rfl⟩:=gd_out hv
  try simp only [Bool.and_eq_true] at hk
  refine ⟨rfl,?_⟩
 ·exact ⟨trivial,E.x hk⟩
 ·obtain ⟨⟨⟨h1,h2⟩,h3⟩,h4⟩:=hk
  obtain ⟨t,q1,q2⟩:=isB_out h4 (E.x h1)
  simp only [fok,fop,q1,q2]
  refine ⟨trivial,?_⟩
  simp only [aPick]
  split
  ·exact E.x h2
  ·exact E.x h3
 ·exact bin_rv hk.2 (E.x hk.1.1) (E.x hk.1.2)
 ·exact eqs_rv hk.2 (E.x hk.1.1) (E.x hk.1.2)
 ·obtain ⟨⟨⟨h1,h2⟩,h3⟩,h4⟩:=hk
  obtain ⟨t,q1,q2⟩:=isB_out h3 (E.x h1)
  obtain ⟨u,q3,q4⟩:=isB_out h4 (E.x h2)
  simp only [fok,fop,q1,q2,q3,q4]
  exact ⟨trivial,.bool _⟩
 ·exact un_rv hk.2 (E.x hk.1)
 ·obtain ⟨k,n,q1,q2⟩:=isI_out hk.2 (E.x hk.1)
  simp only [fok,fop,q1,q2]
  exact ⟨trivial,.int _ _⟩
 ·obtain ⟨k,n,q1,q2⟩:=isI_out hk.2 (E.x hk.1)
  simp only [fok,fop,q1,q2]
  exact ⟨trivial,.str _⟩
 ·obtain ⟨l,q1,q2⟩:=isS_out hk.2 (E.x hk.1)
  simp only [fok,fop,q1,q2]
  exact ⟨⟨l,rfl⟩,.str _⟩
 ·exact fld_rv hk.2 (E.x hk.1)
 ·exact fldA_rv hk.2 (E.x hk.1)
 ·exact idxA_rv hk.2 (E.x hk.1.1) (E.x hk.1.2)
 ·exact idxG_rv hk.2 (E.x hk.1.1) (E.x hk.1.2)
 ·exact idxS_rv hk.2 (E.x hk.1.1) (E.x hk.1.2)
 ·exact slS_rv hk.1.1.2 hk.1.2 hk.2 (E.x hk.1.1.1) E
 ·exact slA_rv hk.1.1.2 hk.1.2 hk.2 (E.x hk.1.1.1) E
 ·exact ext_rv hk.2 (E.x hk.1)
 ·have:=fill_rv hk.1.2 hk.2 E (nf_all hk.1.1)
  exact ⟨this.1,.agg' this.2⟩
 ·exact len_rv hk.2 (E.x hk.1)
 ·obtain ⟨l,q1,q2⟩:=isS_out hk.2 (E.x hk.1)
  simp only [fok,fop,q1,q2]
  exact ⟨trivial,.int _ _⟩
 ·obtain ⟨k,x,y,q1,q2,q3,q4⟩:=ok2i_of hk.2 (E.x hk.1.1) (E.x hk.1.2)
  simp only [fok,fop,q1,q2,q3,q4]
  exact ⟨rfl,.int _ _⟩
 ·obtain ⟨k,x,y,q1,q2,q3,q4⟩:=ok2i_of hk.2 (E.x hk.1.1) (E.x hk.1.2)
  simp only [fok,fop,q1,q2,q3,q4]
  exact ⟨rfl,.int _ _⟩
 ·have h1:=E.xs hk.1
  have h2:=E.xs hk.2
  exact ⟨trivial,.fn _ _ _ _ _ h1.1 h1.2 h2.1 h2.2⟩
def tyIs (ty:Nat):OTy->Bool
 | .t n=>decide (n=ty)
 | _=>false
theorem tyIs_out {ty:Nat} {t:OTy} (h:tyIs ty t=true):t=OTy.t ty:=by
 unfold tyIs at h
 split at h
 ·simp at h;rw [h]
 ·cases h
def rdC (c:CH) (sz:Nat):AVal->Option (List (List AVal))
 | .slc es=>if (es.all fun e=>decide (e.length=sz))=true then some es else none
 | .emp=>some []
 | .osl i sz' x n=>match c.get i with
   | some o=>if sz'=sz/\x+n<=o.es.length then some ((o.es.drop x).take n) else none
   | none=>none
 | _=>none
theorem rdC_sound {sz:Nat} {es:List (List AVal)} (hv:rdC c sz a=some es) (V:RV nm a a') (H:HR nm c hb hl h):∃ fs,Rd h sz a' fs/\RM nm es fs:=by
 unfold rdC at hv
 split at hv
 ·split at hv
  ·rename_i hk;cases hv
   obtain ⟨fs,rfl,V1⟩:=V.slc_inv;replace V:=V1
   refine ⟨fs,⟨rfl,fun f hf=>?_⟩,V⟩
   obtain ⟨i,hi⟩:=List.mem_iff_getElem?.1 hf
   obtain ⟨x,hx,hxf⟩:=V.get' hi
   rw [<-hxf.1]
   simpa using List.all_eq_true.1 hk x (List.mem_of_getElem? hx)
  ·cases hv
 ·cases hv;rw [V.emp_eq];exact ⟨[],rfl,PW.nil⟩
 ·obtain ⟨r,rfl,hr⟩:=V.osl_inv
  split at hv
  ·rename_i o ho
   obtain ⟨s,o',q1,q2,q3,q4⟩:=H.obj _ o ho
   rw [hr] at q1;cases q1
   split at hv
   ·rename_i hk;cases hv
    exact ⟨_,⟨hk.1,o',q2,by rw [<-q3.2.2.1];exact hk.2,rfl⟩,(q3.2.2.drop _).take _⟩
   ·cases hv
  ·cases hv
 ·cases hv
def bytesC:List (List AVal)->Option (List UInt8)
 | []=>some []
 | [.int .u8 n] :: r=>if 0<=n/\n<256 then (match bytesC r with
   | some l=>some (UInt8.ofNat n.toNat :: l)
   | none=>none) else none
 | _=>none
theorem bytesC_out:∀ {es:List (List AVal)} {l:List UInt8},bytesC es=some l->es=Y8 l
 | [],l,h=>by simp only [bytesC] at h;cases h;rfl
 | e :: r,l,h=>by
   unfold bytesC at h
   split at h
   ·rename_i hq;cases hq
   ·rename_i n r' hq
    cases hq
    split at h
    ·rename_i hn
     split at h
     ·rename_i l' hl
      cases h
      have:=bytesC_out hl
      subst this
      have:(UInt8.ofNat n.toNat).toNat=n.toNat:=by
       rw [UInt8.toNat_ofNat']
       exact Nat.mod_eq_of_lt (by omega)
      simp only [Y8,List.map_cons,this]
      congr 3
      omega
     ·cases h
    ·cases h
   ·cases h
theorem strEs_eq {nm:List Nat} {l:List UInt8} {fs:List (List AVal)} (h:RM nm (Y8 l) fs):fs=Y8 l:=by
 refine List.ext_getElem h.1.symm fun i h1 h2=>?_
 have q:=h.2 i (Y8 l)[i] fs[i] (List.getElem?_eq_getElem h2) (List.getElem?_eq_getElem h1)
 have e1:(Y8 l)[i]=[.int .u8 (l[i]'(by simpa [Y8] using h2)).toNat]:=by simp [Y8]
 rw [e1] at q ⊢
 have hl:=q.1
 simp only [List.length_cons,List.length_nil] at hl
 obtain ⟨x,hx⟩:=List.length_eq_one_iff.1 hl.symm
 rw [hx] at q ⊢
 rw [(q.2 0 _ _ rfl rfl).int_eq]
abbrev ER:=Option (AVal×CH)
def appC (ty sz b:Nat) (x:AVal) (es2:List (List AVal)) (c:CH):ER:=
 match x with
 | .emp=>if es2.length*b<=140737488355328/\es2.length<=140737488355328 then some (.osl c.nx sz 0 es2.length,c.add ⟨ty,sz,es2⟩) else none
 | .osl i sz' y m=>match c.get i with
   | some o=>if sz'=sz/\tyIs ty o.ty=true/\y+m<=o.es.length/\(m+es2.length)*b<=140737488355328/\m+es2.length<=140737488355328 then some (.osl c.nx sz 0 (m+es2.length),(c.del i).add ⟨ty,sz,(o.es.drop y).take m++es2⟩) else none
   | none=>none
 | _=>none
def okPartsb (sz:Nat) (e:Env):List SX->Bool
 | []=>true
 | x :: r=>nfX x&&isV (ev e x)&&decide ((cellsOf (ev e x)).length=sz)&&okPartsb sz e r
def evE (cl:Nat->List AVal->CH->ER) (si:SI) (e:Env) (c:CH):ER:=
 match si with
 | .isnil k neg x=>if nfX x=true then (match k,ev e x with
   | 0,.slc (_ :: _)=>some (.bool neg,c)
   | 0,.osl _ _ _ (_+1)=>some (.bool neg,c)
   | 0,.prim (.slice none 0 0)=>some (.bool (!neg),c)
   | 1,.ptr _ _ _=>some (.bool neg,c)
   | 1,.vp _ _=>some (.bool neg,c)
   | 1,.pin _=>some (.bool neg,c)
   | 1,.prim (.pointer none)=>some (.bool (!neg),c)
   | 2,.fn _ _ _=>some (.bool neg,c)
   | 2,.prim .nilFunc=>some (.bool (!neg),c)
   | _,_=>none) else none
 | .bldR ty sz parts=>if okPartsb sz e parts=true then some (.osl c.nx sz 0 parts.length,c.add ⟨ty,sz,parts.map fun x=>cellsOf (ev e x)⟩) else none
 | .bldF _ sz parts=>if okPartsb sz e parts=true then some (if parts.isEmpty then .emp else .slc (parts.map fun x=>cellsOf (ev e x)),c) else none
 | .box ty sz x=>if nfX x=true/\isV (ev e x)=true/\(cellsOf (ev e x)).length=sz then some (.vp c.nx 0,c.add ⟨ty,sz,[cellsOf (ev e x)]⟩) else none
 | .boxF _ sz x=>if nfX x=true/\isV (ev e x)=true/\(cellsOf (ev e x)).length=sz then some (.pin (cellsOf (ev e x)),c) else none
 | .new ty sz z=>if z.all nf=true then some (.vp c.nx 0,c.add ⟨ty,sz,[z]⟩) else none
 | .newnil ty sz=>some (.osl c.nx sz 0 0,c.add ⟨ty,sz,[]⟩)
 | .st size x v=>if nfX x=true/\nfX v=true/\isV (ev e v)=true/\(cellsOf (ev e v)).length=size then (match deVp (ev e x) with
   | .ptr i y j=>match c.get i with
     | some o=>if y<o.es.length/\j+size<=(o.es.getD y []).length then some (.dead,c.put i { o with es:=o.es.set y (Z0 (o.es.getD y []) j (cellsOf (ev e v))) }) else none
     | none=>none
   | _=>none) else none
 | .app ty sz b x y=>if nfX x=true/\nfX y=true then (match rdC c sz (ev e y) with
   | some es2=>appC ty sz b (ev e x) es2 c
   | none=>none) else none
 | .appS ty b x y=>if nfX x=true/\nfX y=true then (match ev e y with
   | .str l=>match ev e x,l with
     | .emp,[]=>some (.emp,c)
     | v,l=>appC ty 1 b v (Y8 l) c
   | _=>none) else none
 | .frz x=>if nfX x=true then (match ev e x with
   | .emp=>some (.slc [],c)
   | .slc es=>some (.slc es,c)
   | .osl i _ y m=>match c.get i with
     | some o=>if y+m<=o.es.length then some (.slc ((o.es.drop y).take m),c.del i) else none
     | none=>none
   | _=>none) else none
 | .mks ty sz b z n k=>if nfX n=true/\nfX k=true/\z.all nf=true then (match ev e n,ev e k with
   | .int _ l,.int _ m=>if 0<=l/\l<=m/\m*b<=140737488355328/\m<=140737488355328 then some (.osl c.nx sz 0 l.toNat,c.add ⟨ty,sz,List.replicate m.toNat z⟩) else none
   | _,_=>none) else none
 | .copy sz x y=>if nfX x=true/\nfX y=true then (match rdC c sz (ev e y),ev e x with
   | some es2,.osl i sz' y m=>match c.get i with
     | some o=>if sz'=sz/\y+m<=o.es.length then some (Y0 (min es2.length m:Nat),c.put i { o with es:=o.es.take y++es2.take (min es2.length m)++o.es.drop (y+min es2.length m) }) else none
     | none=>none
   | _,_=>none) else none
 | .clear sz z x=>if nfX x=true/\z.all nf=true then (match ev e x with
   | .osl i sz' y m=>match c.get i with
     | some o=>if sz'=sz/\y+m<=o.es.length then some (.dead,c.put i { o with es:=o.es.take y++List.replicate m z++o.es.drop (y+m) }) else none
     | none=>none
   | _=>none) else none
 | .slX sz x lo hi=>if nfX x=true/\nfO lo=true/\nfO hi=true then (match ev e x with
   | .osl i sz' y m=>match c.get i with
     | some o=>if sz'=sz/\okBb (evO e lo)=true/\okBb (evO e hi)=true/\0<=X2 (evO e lo)/\X2 (evO e lo)<=X4 m (evO e hi)/\y+(X4 m (evO e hi)).toNat<=o.es.length then
        some (.osl i sz (y+(X2 (evO e lo)).toNat) ((X4 m (evO e hi)).toNat-(X2 (evO e lo)).toNat),c) else none
     | none=>none
   | _=>none) else none
 | .appIn _ sz x y=>if nfX x=true/\nfX y=true then (match rdC c sz (ev e y),ev e x with
   | some es2,.osl i sz' y m=>match c.get i with
     | some o=>if sz'=sz/\y+m+es2.length<=o.es.length then some (.osl i sz y (m+es2.length),c.put i { o with es:=o.es.take (y+m)++es2++o.es.drop (y+m+es2.length) }) else none
     | none=>none
   | _,_=>none) else none
 | .call f args=>if nfX f=true/\args.all nfX=true then (match ev e f with
   | .fn k first cap=>cl k (first++(args.map (ev e)++cap)) c
   | _=>none) else none
 | .usd x=>if nfX x=true then (match ev e x with
   | .emp=>some (.anyp,c)
   | .osl i _ y (_+1)=>some (.ptr i y 0,c)
   | _=>none) else none
 | .s2b ty x=>if nfX x=true then (match ev e x with
   | .str l=>if l.length<=140737488355328 then some (.osl c.nx 1 0 l.length,c.add ⟨.b ty,1,Y8 l⟩) else none
   | _=>none) else none
 | .b2s x=>if nfX x=true then (match rdC c 1 (ev e x) with
   | some es=>match bytesC es with
     | some l=>some (.str l,c)
     | none=>none
   | none=>none) else none
 | .ustr ty x y=>if nfX x=true/\nfX y=true then (match ev e x,ev e y with
   | .anyp,.int .i64 m=>if m=0 then some (.str [],c) else none
   | .ptr i a j,.int .i64 m=>match c.get i with
     | some o=>if j=0/\tyIs ty o.ty=true/\o.sz=1/\0<m/\a+m.toNat<=o.es.length/\m<=9223372036854775807 then (match bytesC ((o.es.drop a).take m.toNat) with
       | some l=>some (.str l,c.del i)
       | none=>none) else none
     | none=>none
   | _,_=>none) else none
 | si=>match evS si e c with
   | some v=>some (v,c)
   | none=>none
end
end
end Go.Sim
end
section
namespace Go.Sim
open Go
noncomputable section
def UU (P:PG) (cl:Nat->List AVal->CH->ER):Prop:=∀ f args c v c',cl f args c=some (v,c') -> ∀ (nm:List Nat) (args':List AVal) (hb hl h:Z2),RL nm args args'->HR nm c hb hl h ->
 DCalls P f args' h fun v' h'=>∃ nm',Ext nm nm'/\RV nm' v v'/\HR nm' c' hb hl h'
section
variable {nm:List Nat} {e e':Env} {c c':CH} {hb hl h:Z2} {a a' v:AVal} {K:AVal->Z2->Prop} {P:PG}
theorem RM.one {as bs:List AVal} (h:RL nm as bs):RM nm [as] [bs]:=PW.cons h PW.nil
theorem flat_rl {z:List AVal} (h:z.all nf=true):RL nm z z:=nf_all h
theorem okParts_of {sz:Nat}:∀ {parts:List SX},okPartsb sz e parts=true->RE nm e e'->Q5 sz e' parts/\RM nm (parts.map fun x=>cellsOf (ev e x)) (parts.map fun x=>cellsOf (ev e' x))
 | [],_,_=>⟨trivial,PW.nil⟩
 | x :: r,hk,E=>by
   simp only [okPartsb,Bool.and_eq_true,decide_eq_true_eq] at hk
   obtain ⟨⟨⟨h1,h2⟩,h3⟩,h4⟩:=hk
   obtain ⟨c1,c2⟩:=(E.x h1).cells h2
   obtain ⟨q1,q2⟩:=okParts_of h4 E
   exact ⟨⟨c1,by rw [<-c2.1];exact h3,q1⟩,PW.cons c2 q2⟩
theorem strEs_rm (l:List UInt8):RM nm (Y8 l) (Y8 l):=⟨rfl,fun i e f he hf=>by
 rw [he] at hf;cases hf
 simp only [Y8,List.getElem?_map,Option.map_eq_some_iff] at he
 obtain ⟨u,_,rfl⟩:=he
 exact PW.cons (.int _ _) PW.nil⟩
theorem KW (H:HR nm c hb hl h) {o o':AObj} {va:AVal} {vb:Nat->AVal} (hk:∀ nm' v' h',Ext nm nm'->RV nm' va v'->HR nm' (c.add o) hb hl h'->K v' h') (ho:RO nm o o') (hv:∀ r,RV (nm++[r]) va (vb r)):∀ r,h r=none->K (vb r) (upd h r (some o')):=
 fun r hr=>hk _ _ _ (Ext.add nm r) (hv r) (H.alloc hr (ho.up (Ext.add nm r)))
theorem osl_new (H:HR nm c hb hl h) (sz x n r:Nat):RV (nm++[r]) (.osl c.nx sz x n) (.osl r sz x n):=.osl _ _ _ _ _ (by rw [<-H.len];simp)
theorem vp_new (H:HR nm c hb hl h) (j r:Nat):RV (nm++[r]) (.vp c.nx j) (.vp r j):=.vp _ _ _ (by rw [<-H.len];simp)
theorem appC_sound {ty sz b:Nat} {es2 fs2:List (List AVal)} (hv:appC ty sz b a es2 c=some (v,c')) (V:RV nm a a') (F:RM nm es2 fs2) (H:HR nm c hb hl h)
 (hk:∀ nm' v' h',Ext nm nm'->RV nm' v v'->HR nm' c' hb hl h'->K v' h'):appE ty sz b a' fs2 h K:=by
 unfold appC at hv
 split at hv
 ·split at hv
  ·rename_i hq;cases hv
   rw [V.emp_eq]
   refine ⟨by rw [<-F.1];exact hq.1,by rw [<-F.1];exact hq.2,?_⟩
   rw [<-F.1]
   exact KW H hk ⟨rfl,rfl,F⟩ (osl_new H _ _ _)
  ·cases hv
 ·obtain ⟨r,rfl,hr⟩:=V.osl_inv
  split at hv
  ·rename_i o ho
   obtain ⟨s,o',q1,q2,q3,q4⟩:=H.obj _ o ho
   rw [hr] at q1;cases q1
   split at hv
   ·rename_i hq;cases hv
    obtain ⟨k1,k2,k3,k4,k5⟩:=hq
    refine ⟨k1,o',q2,by rw [q3.1,tyIs_out k2],by rw [<-q3.2.2.1];exact k3,by rw [<-F.1];exact k4,by rw [<-F.1];exact k5,?_⟩
    rw [<-F.1]
    have H':=H.del ho hr
    exact KW H' hk ⟨rfl,rfl,((q3.2.2.drop _).take _).append F⟩ (osl_new H' _ _ _)
   ·cases hv
  ·cases hv
 ·cases hv
theorem evE_sound {cl:Nat->List AVal->CH->ER} (hc:UU P cl) {si:SI} (hv:evE cl si e c=some (v,c')) (E:RE nm e e') (H:HR nm c hb hl h)
 (hk:∀ nm' v' h',Ext nm nm'->RV nm' v v'->HR nm' c' hb hl h'->K v' h'):vcI P si e' h K:=by
 have kk:∀ {v'},RV nm v v'->c'=c->K v' h:=fun V hcc=>by subst hcc;exact hk nm _ h (Ext.refl nm) V H
 unfold evE at hv
 split at hv
 ·-- isnil
  rename_i k neg x
  split at hv
  case isFalse=>cases hv
  rename_i hx
  have V:=E.x hx
  show YK k neg (ev e' x) fun r=>K r h
  split at hv
  ·rename_i e1;rw [e1] at V;cases hv
   obtain ⟨fs,hfs,V⟩:=V.slc_inv
   rw [hfs]
   intro b hb1
   have:fs≠[]:=by rintro rfl;have:=V.1;simp at this
   have:b=false:=by cases b with | false=>rfl | true=>exact absurd (hb1 rfl) this
   subst this;simpa using kk (.bool _) rfl
  ·rename_i e1;rw [e1] at V;cases hv
   obtain ⟨r,hfs,hr⟩:=V.osl_inv
   rw [hfs]
   intro b hb1
   have:b=false:=by cases b with | false=>rfl | true=>exact absurd (hb1 rfl) (by omega)
   subst this;simpa using kk (.bool _) rfl
  ·rename_i e1;rw [e1] at V;cases hv;rw [V.prim_eq];exact kk (.bool _) rfl
  ·rename_i e1;rw [e1] at V;cases hv;obtain ⟨r,hfs,hr⟩:=V.ptr_inv;rw [hfs];exact kk (.bool _) rfl
  ·rename_i e1;rw [e1] at V;cases hv;obtain ⟨r,hfs,hr⟩:=V.vp_inv;rw [hfs];exact kk (.bool _) rfl
  ·rename_i e1;rw [e1] at V;cases hv;obtain ⟨r,hfs,hr⟩:=V.pin_inv;rw [hfs];exact kk (.bool _) rfl
  ·rename_i e1;rw [e1] at V;cases hv;rw [V.prim_eq];exact kk (.bool _) rfl
  ·rename_i e1;rw [e1] at V;cases hv;obtain ⟨r,s,hfs,hr⟩:=V.fn_inv;rw [hfs];exact kk (.bool _) rfl
  ·rename_i e1;rw [e1] at V;cases hv;rw [V.prim_eq];exact kk (.bool _) rfl
  ·cases hv
 ·-- bldR
  rename_i ty sz parts
  split at hv
  case isFalse=>cases hv
  rename_i hx;cases hv
  obtain ⟨q1,q2⟩:=okParts_of hx E
  exact ⟨q1,KW H hk ⟨rfl,rfl,q2⟩ (osl_new H _ _ _)⟩
 ·-- bldF
  rename_i ty sz parts
  split at hv
  case isFalse=>cases hv
  rename_i hx;cases hv
  obtain ⟨q1,q2⟩:=okParts_of hx E
  refine ⟨q1,kk ?_ rfl⟩
  simp only [fop]
  split
  ·exact .emp
  ·exact .slc' q2
 ·-- box
  rename_i ty sz x
  split at hv
  case isFalse=>cases hv
  rename_i hx;cases hv
  obtain ⟨c1,c2⟩:=(E.x hx.1).cells hx.2.1
  exact ⟨c1,by rw [<-c2.1];exact hx.2.2,KW H hk ⟨rfl,rfl,RM.one c2⟩ (vp_new H _)⟩
 ·-- boxF
  rename_i ty sz x
  split at hv
  case isFalse=>cases hv
  rename_i hx;cases hv
  obtain ⟨c1,c2⟩:=(E.x hx.1).cells hx.2.1
  exact ⟨c1,by rw [<-c2.1];exact hx.2.2,kk (.pin' c2) rfl⟩
 ·-- new
  rename_i ty sz z
  split at hv
  case isFalse=>cases hv
  rename_i hx;cases hv
  exact KW H hk ⟨rfl,rfl,RM.one (flat_rl hx)⟩ (vp_new H _)
 ·-- newnil
  rename_i ty sz
  cases hv
  exact KW H hk ⟨rfl,rfl,PW.nil⟩ (osl_new H _ _ _)
 ·-- st
  rename_i size x w
  split at hv
  case isFalse=>cases hv
  rename_i hx
  obtain ⟨h1,h2,h3,h4⟩:=hx
  obtain ⟨c1,c2⟩:=(E.x h2).cells h3
  have hd:ev e x≠.dead:=by intro hq;rw [hq] at hv;simp [deVp] at hv
  have V:=(E.x h1).deVp hd
  show stE size (ev e' x) (ev e' w) h K
  unfold stE
  split at hv
  ·rename_i i y j e1
   rw [e1] at V
   obtain ⟨r,hfs,hr⟩:=V.ptr_inv
   rw [hfs]
   split at hv
   ·rename_i o ho
    obtain ⟨s,o',q1,q2,q3,q4⟩:=H.obj _ o ho
    rw [hr] at q1;cases q1
    split at hv
    ·rename_i hq;cases hv
     have hg:=q3.2.2.getD y (PW.nil (R:=RV nm))
     refine ⟨o',q2,by rw [<-q3.2.2.1];exact hq.1,by rw [<-hg.1];exact hq.2,c1,by rw [<-c2.1];exact h4,?_⟩
     refine hk nm _ _ (Ext.refl nm) (.dead _) (H.put ho hr ⟨q3.1,q3.2.1,q3.2.2.set y ?_⟩)
     unfold Z0
     rw [<-c2.1]
     exact ((hg.take _).append c2).append (hg.drop _)
    ·cases hv
   ·cases hv
  ·cases hv
 ·-- app
  rename_i ty sz b x y
  split at hv
  case isFalse=>cases hv
  rename_i hx
  split at hv
  ·rename_i es2 he
   obtain ⟨fs2,q1,q2⟩:=rdC_sound he (E.x hx.2) H
   exact ⟨fs2,q1,appC_sound hv (E.x hx.1) q2 H hk⟩
  ·cases hv
 ·-- appS
  rename_i ty b x y
  split at hv
  case isFalse=>cases hv
  rename_i hx
  split at hv
  ·rename_i l e1
   have W:=E.x hx.2
   rw [e1] at W
   refine ⟨l,W.str_eq,?_⟩
   split at hv
   ·rename_i e2
    have V:=E.x hx.1
    rw [e2] at V;cases hv
    exact .inl ⟨V.emp_eq,rfl,kk .emp rfl⟩
   ·exact .inr (appC_sound hv (E.x hx.1) (strEs_rm _) H hk)
  ·cases hv
 ·-- frz
  rename_i x
  split at hv
  case isFalse=>cases hv
  rename_i hx
  have V:=E.x hx
  show frzE (ev e' x) h K
  split at hv
  ·rename_i e1;rw [e1] at V;cases hv;rw [V.emp_eq];exact kk (.slc' PW.nil) rfl
  ·rename_i e1;rw [e1] at V;cases hv;obtain ⟨fs,hfs,V⟩:=V.slc_inv;rw [hfs];exact kk (.slc' V) rfl
  ·rename_i i sz y m e1
   rw [e1] at V
   obtain ⟨r,hfs,hr⟩:=V.osl_inv
   rw [hfs]
   split at hv
   ·rename_i o ho
    obtain ⟨s,o',q1,q2,q3,q4⟩:=H.obj _ o ho
    rw [hr] at q1;cases q1
    split at hv
    ·rename_i hq;cases hv
     exact ⟨o',q2,by rw [<-q3.2.2.1];exact hq,hk nm _ _ (Ext.refl nm) (.slc' ((q3.2.2.drop _).take _)) (H.del ho hr)⟩
    ·cases hv
   ·cases hv
  ·cases hv
 ·-- mks
  rename_i ty sz b z n k
  split at hv
  case isFalse=>cases hv
  rename_i hx
  have V:=E.x hx.1
  have W:=E.x hx.2.1
  show mksE ty sz b z (ev e' n) (ev e' k) h K
  split at hv
  ·rename_i e1 e2
   rw [e1] at V;rw [e2] at W
   rw [V.int_eq,W.int_eq]
   split at hv
   ·rename_i hq;cases hv
    exact ⟨hq.1,hq.2.1,hq.2.2.1,hq.2.2.2,KW H hk ⟨rfl,rfl,PW.replicate _ (flat_rl hx.2.2)⟩ (osl_new H _ _ _)⟩
   ·cases hv
  ·cases hv
 ·-- copy
  rename_i sz x y
  split at hv
  case isFalse=>cases hv
  rename_i hx
  have V:=E.x hx.1
  split at hv
  ·rename_i es2 i sz' y' m he e1
   obtain ⟨fs2,p1,p2⟩:=rdC_sound he (E.x hx.2) H
   refine ⟨fs2,p1,?_⟩
   rw [e1] at V
   obtain ⟨r,hfs,hr⟩:=V.osl_inv
   rw [hfs]
   split at hv
   ·rename_i o ho
    obtain ⟨s,o',q1,q2,q3,q4⟩:=H.obj _ o ho
    rw [hr] at q1;cases q1
    split at hv
    ·rename_i hq;cases hv
     refine ⟨hq.1,o',q2,by rw [<-q3.2.2.1];exact hq.2,?_⟩
     rw [<-p2.1]
     exact hk nm _ _ (Ext.refl nm) (.int _ _) (H.put ho hr ⟨q3.1,q3.2.1,((q3.2.2.take _).append (p2.take _)).append (q3.2.2.drop _)⟩)
    ·cases hv
   ·cases hv
  ·cases hv
 ·-- clear
  rename_i sz z x
  split at hv
  case isFalse=>cases hv
  rename_i hx
  have V:=E.x hx.1
  show clearE sz z (ev e' x) h K
  split at hv
  ·rename_i i sz' y' m e1
   rw [e1] at V
   obtain ⟨r,hfs,hr⟩:=V.osl_inv
   rw [hfs]
   split at hv
   ·rename_i o ho
    obtain ⟨s,o',q1,q2,q3,q4⟩:=H.obj _ o ho
    rw [hr] at q1;cases q1
    split at hv
    ·rename_i hq;cases hv
     exact ⟨hq.1,o',q2,by rw [<-q3.2.2.1];exact hq.2,hk nm _ _ (Ext.refl nm) (.dead _) (H.put ho hr ⟨q3.1,q3.2.1,((q3.2.2.take _).append (PW.replicate _ (flat_rl hx.2))).append (q3.2.2.drop _)⟩)⟩
    ·cases hv
   ·cases hv
  ·cases hv
 ·-- slX
  rename_i sz x lo hi
  split at hv
  case isFalse=>cases hv
  rename_i hx
  have V:=E.x hx.1
  show slXE sz (ev e' x) (evO e' lo) (evO e' hi) h K
  split at hv
  ·rename_i i sz' y' m e1
   rw [e1] at V
   obtain ⟨r,hfs,hr⟩:=V.osl_inv
   rw [hfs]
   split at hv
   ·rename_i o ho
    obtain ⟨s,o',q1,q2,q3,q4⟩:=H.obj _ o ho
    rw [hr] at q1;cases q1
    split at hv
    ·rename_i hq;cases hv
     obtain ⟨k1,k2,k3,k4,k5,k6⟩:=hq
     obtain ⟨p1,p2⟩:=VJ hx.2.1 k2 E
     obtain ⟨p3,p4⟩:=VJ hx.2.2 k3 E
     rw [p1,p3]
     exact ⟨k1,o',q2,p2,p4,k4,k5,by rw [<-q3.2.2.1];exact k6,kk (.osl _ _ _ _ _ hr) rfl⟩
    ·cases hv
   ·cases hv
  ·cases hv
 ·-- appIn
  rename_i ty sz x y
  split at hv
  case isFalse=>cases hv
  rename_i hx
  have V:=E.x hx.1
  split at hv
  ·rename_i es2 i sz' y' m he e1
   obtain ⟨fs2,p1,p2⟩:=rdC_sound he (E.x hx.2) H
   refine ⟨fs2,p1,?_⟩
   rw [e1] at V
   obtain ⟨r,hfs,hr⟩:=V.osl_inv
   rw [hfs]
   split at hv
   ·rename_i o ho
    obtain ⟨s,o',q1,q2,q3,q4⟩:=H.obj _ o ho
    rw [hr] at q1;cases q1
    split at hv
    ·rename_i hq;cases hv
     refine ⟨hq.1,o',q2,by rw [<-p2.1,<-q3.2.2.1];exact hq.2,?_⟩
     rw [<-p2.1]
     exact hk nm _ _ (Ext.refl nm) (.osl _ _ _ _ _ hr) (H.put ho hr ⟨q3.1,q3.2.1,((q3.2.2.take _).append p2).append (q3.2.2.drop _)⟩)
    ·cases hv
   ·cases hv
  ·cases hv
 ·-- call
  rename_i f args
  split at hv
  case isFalse=>cases hv
  rename_i hx
  have V:=E.x hx.1
  split at hv
  ·rename_i k first cap e1
   rw [e1] at V
   obtain ⟨bs,ds,hfs,p1,p2⟩:=V.fn_inv
   show callE P (ev e' f) (args.map (ev e')) h K
   rw [hfs]
   exact (hc _ _ _ _ _ hv nm _ hb hl h (p1.append ((E.xs hx.2).append p2)) H).mono fun r h' ⟨nm',q1,q2,q3⟩=>hk nm' r h' q1 q2 q3
  ·cases hv
 ·-- usd
  rename_i x
  split at hv
  case isFalse=>cases hv
  rename_i hx
  have V:=E.x hx
  show usdE (ev e' x) h K
  split at hv
  ·rename_i e1;rw [e1] at V;cases hv;rw [V.emp_eq];exact kk .anyp rfl
  ·rename_i e1;rw [e1] at V;cases hv
   obtain ⟨r,hfs,hr⟩:=V.osl_inv
   rw [hfs]
   exact ⟨by omega,kk (.ptr _ _ _ _ hr) rfl⟩
  ·cases hv
 ·-- s2b
  rename_i ty x
  split at hv
  case isFalse=>cases hv
  rename_i hx
  have V:=E.x hx
  show s2bE ty (ev e' x) h K
  split at hv
  ·rename_i e1;rw [e1] at V
   rw [V.str_eq]
   split at hv
   ·rename_i hq;cases hv
    exact ⟨hq,KW H hk ⟨rfl,rfl,strEs_rm _⟩ (osl_new H _ _ _)⟩
   ·cases hv
  ·cases hv
 ·-- b2s
  rename_i x
  split at hv
  case isFalse=>cases hv
  rename_i hx
  split at hv
  ·rename_i es he
   split at hv
   ·rename_i l hl
    cases hv
    obtain ⟨fs,p1,p2⟩:=rdC_sound he (E.x hx) H
    have:=bytesC_out hl
    subst this
    rw [strEs_eq p2] at p1
    exact ⟨l,p1,kk (.str l) rfl⟩
   ·cases hv
  ·cases hv
 ·-- ustr
  rename_i ty x y
  split at hv
  case isFalse=>cases hv
  rename_i hx
  have V:=E.x hx.1
  have W:=E.x hx.2
  show ustrE ty (ev e' x) (ev e' y) h K
  split at hv
  ·rename_i e1 e2
   rw [e1] at V;rw [e2] at W
   rw [V.anyp_eq,W.int_eq]
   split at hv
   ·rename_i hm;cases hv
    exact ⟨hm,kk (.str []) rfl⟩
   ·cases hv
  ·rename_i i z j m e1 e2
   rw [e1] at V;rw [e2] at W
   obtain ⟨r,hfs,hr⟩:=V.ptr_inv
   rw [hfs,W.int_eq]
   split at hv
   ·rename_i o ho
    obtain ⟨s,o',q1,q2,q3,q4⟩:=H.obj _ o ho
    rw [hr] at q1;cases q1
    split at hv
    ·rename_i hq
     obtain ⟨k1,k2,k3,k4,k5,k6⟩:=hq
     split at hv
     ·rename_i l hl
      cases hv
      have hb:=bytesC_out hl
      have hll:l.length=m.toNat:=by
       have:=congrArg List.length hb
       simp only [List.length_take,List.length_drop,Y8,List.length_map] at this
       omega
      have F:=(q3.2.2.drop z).take m.toNat
      rw [hb] at F
      refine ⟨k1,l,o',q2,by rw [q3.1,tyIs_out k2],by rw [q3.2.1];exact k3,by rw [hll,<-q3.2.2.1];exact k5,by rw [hll];exact strEs_eq F,by omega,by rintro rfl;simp at hll;omega,by omega,hk nm _ _ (Ext.refl nm) (.str l) (H.del ho hr)⟩
     ·cases hv
    ·cases hv
   ·cases hv
  ·cases hv
 ·split at hv
  ·rename_i u hu
   cases hv
   obtain ⟨q1,q2,q3⟩:=evS_sound hu E H
   have hs:∀ si:SI,si.gated=true->fok si e' h->K (fop si e' h) h->vcI P si e' h K:=fun si h1 h2 h3=>stable_vcI h1 h2 h3
   exact hs _ q1 q2 (kk q3 rfl)
  ·cases hv
end
end
end Go.Sim
end
section
namespace Go.Sim
open Go
noncomputable section
abbrev Ev:=List (Nat×AVal)
def lk (G:U5) (ce:Ev):Env:=fun t=>bif Nat.ble 1000000 t then G (t-1000000) else (look ce t).getD .dead
theorem lk_lt {G:U5} {ce:Ev} {t:Nat} (h:t<1000000):lk G ce t=(look ce t).getD .dead:=by
 unfold lk
 have:Nat.ble 1000000 t=false:=by cases hq:Nat.ble 1000000 t with
  | false=>rfl
  | true=>exact absurd (Nat.le_of_ble_eq_true hq) (by omega)
 rw [this];rfl
theorem lk_ge {G:U5} {ce:Ev} {t:Nat} (h:¬ t<1000000):lk G ce t=G (t-1000000):=by
 unfold lk
 rw [Nat.ble_eq_true_of_le (by omega)];rfl
def setL (ce:Ev) (dst:Option Nat) (v:AVal):Option Ev:=
 match dst with
 | none=>some ce
 | some d=>bif Nat.ble 1000000 d then none else some ((d,v) :: ce)
def argL:List AVal->Nat->Ev
 | [],_=>[]
 | a :: r,i=>(i,a) :: argL r (i+1)
theorem look_argL:∀ (as:List AVal) (i t:Nat),look (argL as i) (i+t)=as[t]?
 | [],i,t=>by simp [argL,look_nil]
 | a :: r,i,t=>by
   rw [argL,JW]
   cases t with
   | zero=>simp
   | succ t=>
     rw [if_neg (by simp only;omega),List.getElem?_cons_succ,<-look_argL r (i+1) t]
     congr 1;omega
def evOp (cl:Nat->List AVal->CH->ER) (op:SOp) (e:Env) (c:CH):ER:=
 match op.guard with
 | none=>evE cl op.si e c
 | some (s,b)=>match JY (e s) b with
   | some true=>evE cl op.si e c
   | some false=>some (.tup [],c)
   | none=>none
def evOps (G:U5) (cl:Nat->List AVal->CH->ER):List SOp->Ev->CH->Option (Ev×CH)
 | [],ce,c=>some (ce,c)
 | op :: r,ce,c=>match evOp cl op (lk G ce) c with
   | some (v,c')=>match setL ce op.dst v with
     | some ce'=>evOps G cl r ce' c'
     | none=>none
   | none=>none
def ptrI:AVal->List Nat
 | .ptr i _ _=>[i]
 | _=>[]
def ldR (si:SI) (e:Env):Option (List Nat):=
 match si with
 | .ld _ _ x=>if nfX x=true then (match ev e x with
   | .dead=>none
   | v=>some (ptrI (deVp v))) else none
 | .ldm .. => none
 | .lkp .. => none
 | _=>some []
def ordC (c:CH) (l:List Nat) (rd:List Nat) (cs:List (Nat×Nat)):Bool:=
 cs.all fun q=>rd.contains q.1||(!l.contains q.2&&(c.get q.2).isSome&&l.all fun k=>(c.get k).isSome||decide (c.nx<=k))
def evD (G:U5) (cl:Nat->List AVal->CH->ER):List (SOp×Option (List Nat))->List (Nat×Nat)->Ev->CH->Option (Ev×CH)
 | [],_,ce,c=>some (ce,c)
 | (op,an) :: r,cs,ce,c=>match evOp cl op (lk G ce) (c.to [] c.nx) with
   | some (v,c')=>if c'.b=c.nx then (match setL ce op.dst v with
     | some ce'=>match an with
       | none=>match ldR op.si (lk G ce) with
         | some l=>evD G cl r (l.map (fun i=>(op.dst.getD 0,i))++cs) ce' (c'.to (c'.log++c.log) c.b)
         | none=>none
       | some an=>if ordC c c'.log (op.rd++an) cs=true then evD G cl r (cs.filter fun q=>!(op.rd++an).contains q.1) ce' (c'.to (c'.log++c.log) c.b) else none
     | none=>none) else none
   | none=>none
abbrev EC:=Option (SExit×Ev×CH)
def QV (G:U5) (cl:Nat->List AVal->CH->ER) (ih:SCode->Ev->CH->EC) (s:SCode) (e:Ev) (c:CH):EC:=
 match s with
 | .skip=>some (.normal,e,c)
 | .reg ops=>match evOps G cl ops e c with
   | some (e',c')=>some (.normal,e',c')
   | none=>none
 | .dreg ops=>match evD G cl ops [] e c with
   | some (e',c')=>some (.normal,e',c')
   | none=>none
 | .seq a b=>match ih a e c with
   | some (.normal,e',c')=>ih b e' c'
   | r=>r
 | .cond x a b=>if nfX x=true then (match ev (lk G e) x with
   | .bool true=>ih a e c
   | .bool false=>ih b e c
   | _=>none) else none
 | .block id k=>match ih k e c with
   | some (.exit j,e',c')=>if j=id then some (.normal,e',c') else some (.exit j,e',c')
   | r=>r
 | .loop k=>match ih k e c with
   | some (.normal,e',c')=>ih (.loop k) e' c'
   | r=>r
 | .exit id=>some (.exit id,e,c)
 | .ret=>some (.ret,e,c)
 | .goto l=>some (.goto l,e,c)
 | .label _=>some (.normal,e,c)
 | .scope l k r=>match ih k e c with
   | some (.goto j,e',c')=>if j=l then (match ih r e' c' with
     | some (.goto _,_,_)=>none
     | q=>q) else none
   | q=>q
 | .range _ _ _ _=>none
def resC (G:U5) (e:Ev) (c:CH):SRes->Option AVal
 | .tmp t=>some (lk G e t)
 | .cell a s b=>ldC c s b (lk G e a)
def resCs (G:U5) (e:Ev) (c:CH):List SRes->Option (List AVal)
 | []=>some []
 | r :: l=>match resC G e c r,resCs G e c l with
   | some v,some vs=>some (v :: vs)
   | _,_=>none
def retC (G:U5) (rs:List SRes) (e:Ev) (c:CH):ER:=
 match resCs G e c rs with
 | some [v]=>some (v,c)
 | some vs=>some (.tup vs,c)
 | none=>none
def runF (G:U5) (ih:SCode->Ev->CH->EC) (sf:SFun) (n:Nat) (args:List AVal) (c:CH):ER:=
 if args.length<=n then (match ih sf.code (argL args 0) c with
  | some (.normal,e,c')=>retC G sf.res e c'
  | some (.ret,e,c')=>retC G sf.res e c'
  | _=>none) else none
def VW (G:U5) (fn:Nat->Option (SFun×Nat)) (pr:Nat->List AVal->CH->ER) (ih:SCode->Ev->CH->EC) (f:Nat) (args:List AVal) (c:CH):ER:=
 match pr f args c with
 | some r=>some r
 | none=>match fn f with
   | some (sf,n)=>runF G ih sf n args c
   | none=>none
def evN (G:U5) (fn:Nat->Option (SFun×Nat)) (pr:Nat->List AVal->CH->ER) (n:Nat):SCode->Ev->CH->EC:=
 Nat.rec (fun _ _ _=>none) (fun _ ih=>QV G (VW G fn pr ih) ih) n
section
variable {nm:List Nat} {e':Env} {ce ce':Ev} {c c':CH} {hb hl h:Z2} {a a' v:AVal} {P:PG} {G:U5} {cl:Nat->List AVal->CH->ER}
theorem want_rv {b t:Bool} (V:RV nm a a') (hw:JY a b=some t):JY a' b=some t:=by
 unfold JY at hw
 split at hw
 ·rw [V.bool_eq];exact hw
 ·obtain ⟨bs,rfl,_⟩:=V.tup_inv;exact hw
 ·cases hw
theorem gated_vcI {si:SI} {e:Env} {K:AVal->Z2->Prop} (hs:si.gated=true) (hk:vcI P si e h K):fok si e h/\K (fop si e h) h:=by
 cases si <;> first | (cases hs;done) | exact hk
theorem evOp_sound (hc:UU P cl) {op:SOp} {e:Env} (hv:evOp cl op e c=some (v,c')) (E:RE nm e e') (H:HR nm c hb hl h) {K:AVal->Z2->Prop}
 (hk:∀ nm' v' h',Ext nm nm'->RV nm' v v'->HR nm' c' hb hl h'->K v' h'):vcV P op e' h K:=by
 obtain ⟨dst,si,guard⟩:=op
 unfold evOp at hv
 cases guard with
 | none=>exact evE_sound hc hv E H hk
 | some sb=>
   obtain ⟨s,b⟩:=sb
   show vcG P s b si e' h K
   have hv:(match JY (e s) b with | some true=>evE cl si e c | some false=>some (.tup [],c) | none=>none)=some (v,c'):=hv
   have pc:∀ f args,si≠.pcall f args\/JY (e s) b=some false:=fun f args=>by
    by_cases hq:si=.pcall f args
    ·subst hq
     split at hv
     ·simp [evE,evS] at hv
     ·rename_i hw;exact .inr hw
     ·cases hv
    ·exact .inl hq
   split at hv
   ·rename_i hw
    have hw':=want_rv (E s) hw
    have key:=evE_sound hc hv E H hk
    unfold vcG
    split
    ·rcases pc _ _ with h1 | h1
     ·exact absurd rfl h1
     ·rw [hw] at h1;cases h1
    ·split
     ·rename_i hg
      obtain ⟨k1,k2⟩:=gated_vcI hg key
      rw [UQ hw',gateV_w hw']
      exact ⟨fun _=>k1,k2⟩
     ·rw [gateE_w hw']
      exact ⟨fun _=>key,fun hq=>by cases hq⟩
   ·rename_i hw
    have hw':=want_rv (E s) hw
    cases hv
    have k2:=hk nm _ h (Ext.refl nm) (.tup' PW.nil) H
    unfold vcG
    split
    ·refine ⟨.dead,?_⟩
     rw [UQ hw',gateV_w hw']
     exact ⟨fun hq=>(by cases hq),k2⟩
    ·split
     ·rw [UQ hw',gateV_w hw']
      exact ⟨fun hq=>(by cases hq),k2⟩
     ·rw [gateE_w hw']
      exact ⟨fun hq=>(by cases hq),fun _=>k2⟩
   ·cases hv
theorem setL_re {dst:Option Nat} {v':AVal} (hs:setL ce dst v=some ce') (E:RE nm (lk G ce) e') (V:RV nm v v'):RE nm (lk G ce') (V3 e' dst v'):=by
 unfold setL at hs
 cases dst with
 | none=>cases hs;exact E
 | some d=>
   simp only at hs
   cases hd:Nat.ble 1000000 d with
   | true=>rw [hd] at hs;cases hs
   | false=>
     rw [hd] at hs;cases hs
     have hd6:d<1000000:=by
      rcases Nat.lt_or_ge d 1000000 with h | h
      ·exact h
      ·rw [Nat.ble_eq_true_of_le h] at hd;cases hd
     intro t
     simp only [V3,upd]
     by_cases ht:t=d
     ·subst ht
      rw [if_pos rfl,lk_lt hd6,JW,if_pos rfl]
      exact V
     ·rw [if_neg ht]
      have:=E t
      by_cases h6:t<1000000
      ·rw [lk_lt h6] at this ⊢
       rw [JW,if_neg (fun e=>ht e.symm)]
       exact this
      ·rw [lk_ge h6] at this ⊢
       exact this
theorem evOps_sound (hc:UU P cl):∀ {l:List SOp} {nm:List Nat} {ce ce':Ev} {c c':CH} {e':Env} {h:Z2} {K:Env->Z2->Prop},evOps G cl l ce c=some (ce',c')->RE nm (lk G ce) e'->HR nm c hb hl h ->
 (∀ nm' e2 h2,Ext nm nm'->RE nm' (lk G ce') e2->HR nm' c' hb hl h2->K e2 h2)->vcOps P l e' h K
 | [],nm,ce,ce',c,c',e',h,K,hv,E,H,hk=>by
   simp only [evOps] at hv;cases hv
   exact hk nm _ _ (Ext.refl nm) E H
 | op :: r,nm,ce,ce',c,c',e',h,K,hv,E,H,hk=>by
   simp only [evOps] at hv
   split at hv
   ·rename_i v c1 h1
    split at hv
    ·rename_i ce1 h2
     exact evOp_sound hc h1 E H fun nm1 v1 hh1 x1 V1 H1=>evOps_sound hc hv (setL_re h2 (E.up x1) V1) H1 fun nm2 e2 hh2 x2=>hk nm2 e2 hh2 (x1.trans x2)
    ·cases hv
   ·cases hv
theorem rsOf_ld {op:SOp} {e:Env} {l:List Nat} (E:RE nm e e') (hl:ldR op.si e=some l) {p:Nat×Nat} (hp:p∈Z3 op e'):∃ i,i∈l/\p.1=op.dst.getD 0/\nm[i]? = some p.2:=by
 unfold Z3 at hp
 obtain ⟨t,ht,rfl⟩:=List.mem_map.1 hp
 unfold Q6 Q9 at ht
 unfold ldR at hl
 obtain ⟨dst,si,guard⟩:=op
 simp only at hl ht ⊢
 split at ht
 ·cases hl
 ·rename_i sz ag x
  simp only at hl
  split at hl
  case isFalse=>cases hl
  rename_i hx
  split at hl
  ·cases hl
  ·rename_i hv
   cases hl
   have V:=(E.x hx).deVp (fun hq=>hv hq)
   split at ht
   ·rename_i r a j hd
    rw [hd] at V
    generalize hq:Sim.deVp (ev e x)=q at V
    cases V with
    | ptr i _ _ _ hr=>exact by simp only [ptrI,List.mem_singleton];exact ⟨i,rfl,trivial,by rw [hr,List.mem_singleton.1 ht]⟩
    | dead=>exact absurd (by cases hh:ev e x <;> rw [hh] at hq <;> first | rfl | (cases hq;done)) (fun hh:ev e x=.dead=>hv hh)
   ·cases ht
 ·cases hl
 ·cases ht
theorem ordC_sound {rd:List Nat} {cs:List (Nat×Nat)} {rs:List (Nat×Nat)} {nm':List Nat} {h':Z2} (ho:ordC c c'.log rd cs=true) (hrs:∀ p∈rs,∃ i,(p.1,i)∈cs/\nm[i]? = some p.2) (H:HR nm c hb hl h) (x:Ext nm nm')
 (H':HR nm' c' hb h h') (hb1:c'.b=c.nx):keepR rd rs h h':=fun p hp hn=>by
 obtain ⟨i,hi,hnm⟩:=hrs p hp
 have q:=List.all_eq_true.1 ho _ hi
 simp only [hn,Bool.false_or,Bool.and_eq_true,Bool.not_eq_true'] at q
 obtain ⟨⟨q1,q2⟩,q3⟩:=q
 obtain ⟨o,ho2⟩:=Option.isSome_iff_exists.1 q2
 obtain ⟨s,o',k1,k2,_⟩:=H.obj i o ho2
 rw [hnm] at k1;cases k1
 have key:∀ k∈c'.log,k<c.nx->nm'[k]? = some p.2->False:=fun k hkl hlt hkr=>by
  have q4:=List.all_eq_true.1 q3 k hkl
  simp only [Bool.or_eq_true,decide_eq_true_eq] at q4
  rcases q4 with q4 | q4
  ·obtain ⟨o3,ho3⟩:=Option.isSome_iff_exists.1 q4
   obtain ⟨s3,o4,k3,k4,_⟩:=H.obj k o3 ho3
   have:=x k s3 k3
   rw [hkr] at this;cases this
   have:=H.inj k i _ _ _ ho3 ho2 k3 hnm
   subst this
   have:c'.log.contains k=true:=by simpa using hkl
   rw [this] at q1;cases q1
  ·omega
 refine H'.lg p.2 (by rw [k2];simp) fun k hkl hkr=>?_
 by_cases hk:k<c.nx
 ·exact key k hkl hk hkr
 ·rcases H'.nw k p.2 (by omega) hkr with q | ⟨j,j1,j2,j3⟩
  ·rw [k2] at q;cases q
  ·exact key j j1 (by omega) j3
theorem evD_sound (hc:UU P cl):∀ {l:List (SOp×Option (List Nat))} {cs:List (Nat×Nat)} {rs:List (Nat×Nat)} {nm:List Nat} {ce ce':Ev} {c c':CH} {e':Env} {h:Z2} {K:Env->Z2->Prop},evD G cl l cs ce c=some (ce',c')->(∀ p∈rs,∃ i,(p.1,i)∈cs/\nm[i]? = some p.2) ->
 RE nm (lk G ce) e'->HR nm c hb hl h->(∀ nm' e2 h2,Ext nm nm'->RE nm' (lk G ce') e2->HR nm' c' hb hl h2->K e2 h2)->vcD P l rs e' h K
 | [],cs,rs,nm,ce,ce',c,c',e',h,K,hv,hrs,E,H,hk=>by
   simp only [evD] at hv;cases hv
   exact hk nm _ _ (Ext.refl nm) E H
 | (op,an) :: r,cs,rs,nm,ce,ce',c,c',e',h,K,hv,hrs,E,H,hk=>by
   simp only [evD] at hv
   split at hv
   ·rename_i v c1 h1
    split at hv
    case isFalse=>cases hv
    rename_i hb1
    split at hv
    ·rename_i ce1 h2
     cases an with
     | none=>
       simp only at hv
       split at hv
       ·rename_i l hl
        refine evOp_sound hc h1 E H.fresh fun nm1 v1 hh1 x1 V1 H1=>evD_sound hc hv (fun p hp=>?_) (setL_re h2 (E.up x1) V1) (H.back x1 H1 hb1) fun nm2 e2 hh2 x2=>hk nm2 e2 hh2 (x1.trans x2)
        rcases List.mem_append.1 hp with hp | hp
        ·obtain ⟨i,q1,q2,q3⟩:=rsOf_ld E hl hp
         exact ⟨i,List.mem_append.2 (.inl (by rw [q2];exact List.mem_map_of_mem q1)),x1 _ _ q3⟩
        ·obtain ⟨i,q1,q2⟩:=hrs p hp
         exact ⟨i,List.mem_append.2 (.inr q1),x1 _ _ q2⟩
       ·cases hv
     | some an=>
       simp only at hv
       split at hv
       ·rename_i hall
        refine evOp_sound hc h1 E H.fresh fun nm1 v1 hh1 x1 V1 H1=>⟨ordC_sound hall hrs H x1 H1 hb1,evD_sound hc hv (fun p hp=>?_) (setL_re h2 (E.up x1) V1) (H.back x1 H1 hb1) fun nm2 e2 hh2 x2=>hk nm2 e2 hh2 (x1.trans x2)⟩
        unfold dropR at hp
        obtain ⟨p1,p2⟩:=List.mem_filter.1 hp
        obtain ⟨i,q1,q2⟩:=hrs p p1
        exact ⟨i,List.mem_filter.2 ⟨q1,p2⟩,x1 _ _ q2⟩
       ·cases hv
    ·cases hv
   ·cases hv
def CodeOK (P:PG) (G:U5) (ih:SCode->Ev->CH->EC):Prop:=∀ s ce c x ce' c',ih s ce c=some (x,ce',c') -> ∀ (nm:List Nat) (e':Env) (hb hl h:Z2) (Q:SExit->Env->Z2->Prop),RE nm (lk G ce) e'->HR nm c hb hl h ->
 (∀ nm' e2 h2,Ext nm nm'->RE nm' (lk G ce') e2->HR nm' c' hb hl h2->Q x e2 h2)->vc P s Q e' h
def FnE (P : PG) (f : Nat) (sf : SFun) (n : Nat) : Prop := ∃ (fnc : Func) (ann : Ann), P.p.funcs[f]? = some fnc /\ (fnc.name == "runtime.NumGoroutine") = false /\ Y6 P.p ann fnc = some sf /\ n <= fnc.ntmps /\ fnc.ntmps <= 1000000 /\ (ann.mp.all fun t => decide (n <= t /\ t < 1000000)) = true
def FnOK (P:PG) (fn:Nat->Option (SFun×Nat)):Prop:=∀ f sf n,fn f=some (sf,n)->FnE P f sf n
theorem resCs_sound:∀ {rs:List SRes} {vs:List AVal},resCs G ce c rs=some vs->RE nm (lk G ce) e'->HR nm c hb hl h->allOK e' h rs/\RL nm vs (rs.map (resV e' h))
 | [],vs,hv,E,H=>by simp only [resCs] at hv;cases hv;exact ⟨trivial,PW.nil⟩
 | r :: l,vs,hv,E,H=>by
   simp only [resCs] at hv
   split at hv
   ·rename_i v ws h1 h2
    cases hv
    obtain ⟨k1,k2⟩:=resCs_sound h2 E H
    have:resOK e' h r/\RV nm v (resV e' h r):=by
     cases r with
     | tmp t=>simp only [resC] at h1;cases h1;exact ⟨trivial,E t⟩
     | cell a s b=>exact ldC_rv h1 (E a) H
    exact ⟨⟨this.1,k1⟩,PW.cons this.2 k2⟩
   ·cases hv
theorem retC_sound {rs:List SRes} (hv:retC G rs ce c=some (v,c')) (E:RE nm (lk G ce) e') (H:HR nm c hb hl h):c'=c/\allOK e' h rs/\RV nm v (retV e' h rs):=by
 unfold retC at hv
 split at hv
 ·rename_i u hu
  cases hv
  obtain ⟨k1,k2⟩:=resCs_sound hu E H
  refine ⟨rfl,k1,?_⟩
  cases rs with
  | nil=>have:=k2.1;simp at this
  | cons r l=>
    cases l with
    | nil=>exact k2.2 0 _ _ rfl rfl
    | cons _ _=>have:=k2.1;simp at this
 ·rename_i vs hne hu
  cases hv
  obtain ⟨k1,k2⟩:=resCs_sound hu E H
  refine ⟨rfl,k1,?_⟩
  have:retV e' h rs=.tup (rs.map (resV e' h)):=by
   unfold retV
   split
   ·have hl:=k2.1
    simp only [List.map_cons,List.map_nil,List.length_cons,List.length_nil] at hl
    obtain ⟨u,rfl⟩:=List.length_eq_one_iff.1 hl
    exact absurd rfl (hne u)
   ·rfl
  rw [this]
  exact .tup' k2
 ·cases hv
theorem init_re {args args':List AVal} (hG:∀ b,Flat (G b)) (V:RL nm args args'):RE nm (lk G (argL args 0)) (T5 G args'):=fun t=>by
 unfold T5
 split
 ·rename_i h6
  have h1:=look_argL args 0 t
  rw [Nat.zero_add] at h1
  rw [lk_lt h6,h1,<-List.getD_eq_getElem?_getD]
  exact V.getD t (.dead _)
 ·rename_i h6
  rw [lk_ge h6]
  exact (hG _).rv
theorem runF_vc {ih:SCode->Ev->CH->EC} (hi:CodeOK P G ih) (hgl:P.gl=G) (hG:∀ b,Flat (G b)) {sf:SFun} {n:Nat} {args args':List AVal} (hv:runF G ih sf n args c=some (v,c')) (V:RL nm args args') (H:HR nm c hb hl h) {K:AVal->Z2->Prop}
 (hk:∀ nm' v' h',Ext nm nm'->RV nm' v v'->HR nm' c' hb hl h' -> ∃ h'',(∀ t o,h'' t=some o->h' t=some o)/\K v' h''):args.length<=n/\vc P sf.code (retK sf.res K) (T5 P.gl args') h:=by
 unfold runF at hv
 split at hv
 case isFalse=>cases hv
 rename_i hn
 refine ⟨hn,?_⟩
 rw [hgl]
 split at hv
 ·rename_i e1 c1 h1
  refine hi _ _ _ _ _ _ h1 nm _ hb hl h _ (init_re hG V) H fun nm' e2 h2 x E2 H2=>?_
  obtain ⟨rfl,k1,k2⟩:=retC_sound hv E2 H2
  exact ⟨k1,hk nm' _ h2 x k2 H2⟩
 ·rename_i e1 c1 h1
  refine hi _ _ _ _ _ _ h1 nm _ hb hl h _ (init_re hG V) H fun nm' e2 h2 x E2 H2=>?_
  obtain ⟨rfl,k1,k2⟩:=retC_sound hv E2 H2
  exact ⟨k1,hk nm' _ h2 x k2 H2⟩
 ·cases hv
theorem FnOK.dc {fn:Nat->Option (SFun×Nat)} (hf:FnOK P fn) {f n:Nat} {sf:SFun} (he:fn f=some (sf,n)) {args:List AVal} {K:AVal->Z2->Prop} (hl:args.length<=n) (hk:vc P sf.code (retK sf.res K) (T5 P.gl args) h):DCalls P f args h K:=by
 obtain ⟨fnc,ann,h1,h2,h3,h4,h5,h6⟩:=hf f sf n he
 refine Z4 (ann:=ann) h1 h2 h3 (by omega) h5 hk (List.all_eq_true.2 fun t ht=>?_)
 have:=List.all_eq_true.1 h6 t ht
 simp only [decide_eq_true_eq] at this ⊢
 omega
theorem callStep_ok {fn:Nat->Option (SFun×Nat)} {pr:Nat->List AVal->CH->ER} {ih:SCode->Ev->CH->EC} (hf:FnOK P fn) (hp:UU P pr) (hi:CodeOK P G ih) (hgl:P.gl=G) (hG:∀ b,Flat (G b)):UU P (VW G fn pr ih):=by
 intro f args c v c' hv nm args' hb hl h V H
 unfold VW at hv
 split at hv
 ·rename_i r hr
  cases hv
  exact hp f args c _ _ hr nm args' hb hl h V H
 ·split at hv
  ·rename_i sf n he
   obtain ⟨k1,k2⟩:=runF_vc (K:=fun v' h'=>∃ nm',Ext nm nm'/\RV nm' v v'/\HR nm' c' hb hl h') hi hgl hG hv V H fun nm' v' h' x V' H'=>⟨h',fun _ _ q=>q,nm',x,V',H'⟩
   exact hf.dc he (by rw [<-V.1];exact k1) k2
  ·cases hv
theorem evN_sound {fn:Nat->Option (SFun×Nat)} {pr:Nat->List AVal->CH->ER} (hf:FnOK P fn) (hp:UU P pr) (hgl:P.gl=G) (hG:∀ b,Flat (G b)) (n:Nat):CodeOK P G (evN G fn pr n):=by
 induction n using Nat.strongRecOn with
 | ind n IH=>
   cases n with
   | zero=>intro s ce c x ce' c' hv;cases hv
   | succ n=>
     intro s ce c x ce' c' hv nm e' hb hl h Q E H hk
     have hi:=IH n (Nat.lt_succ_self n)
     have hc:UU P (VW G fn pr (evN G fn pr n)):=callStep_ok hf hp hi hgl hG
     have hv:QV G (VW G fn pr (evN G fn pr n)) (evN G fn pr n) s ce c=some (x,ce',c'):=hv
     have stay:∀ {y},x=y->ce'=ce->c'=c->Q y e' h:=fun q1 q2 q3=>by subst q1 q2 q3;exact hk nm e' h (Ext.refl nm) E H
     cases s with
     | skip=>simp only [QV] at hv;cases hv;exact stay rfl rfl rfl
     | reg ops=>
       simp only [QV] at hv
       split at hv
       ·rename_i h1;cases hv;exact evOps_sound hc h1 E H hk
       ·cases hv
     | dreg ops=>
       simp only [QV] at hv
       split at hv
       ·rename_i h1;cases hv;exact evD_sound hc h1 (fun p hp=>by cases hp) E H hk
       ·cases hv
     | seq a b=>
       simp only [QV] at hv
       show vc P a (WW (vc P b Q) Q) e' h
       split at hv
       ·rename_i ce1 c1 h1
        exact hi _ _ _ _ _ _ h1 nm e' hb hl h _ E H fun nm1 e1 hh1 x1 E1 H1=>hi _ _ _ _ _ _ hv nm1 e1 hb hl hh1 _ E1 H1 fun nm2 e2 hh2 x2=>hk nm2 e2 hh2 (x1.trans x2)
       ·rename_i hne
        refine hi _ _ _ _ _ _ hv nm e' hb hl h _ E H fun nm1 e1 hh1 x1 E1 H1=>?_
        have hx:x≠.normal:=by rintro rfl;exact hne _ _ hv
        have:=hk nm1 e1 hh1 x1 E1 H1
        cases x with
        | normal=>exact absurd rfl hx
        | exit id=>exact this
        | ret=>exact this
        | goto l=>exact this
     | cond y a b=>
       simp only [QV] at hv
       split at hv
       case isFalse=>cases hv
       rename_i hx
       have V:=E.x hx
       show condOn (ev e' y) (vc P a Q e' h) (vc P b Q e' h)
       split at hv
       ·rename_i e1;rw [e1] at V;rw [V.bool_eq]
        exact ⟨fun _=>hi _ _ _ _ _ _ hv nm e' hb hl h _ E H hk,fun q=>by cases q⟩
       ·rename_i e1;rw [e1] at V;rw [V.bool_eq]
        exact ⟨fun q=>(by cases q),fun _=>hi _ _ _ _ _ _ hv nm e' hb hl h _ E H hk⟩
       ·cases hv
     | block id k=>
       simp only [QV] at hv
       show vc P k (TU id Q) e' h
       split at hv
       ·rename_i j ce1 c1 h1
        refine hi _ _ _ _ _ _ h1 nm e' hb hl h _ E H fun nm1 e1 hh1 x1 E1 H1=>?_
        show if j=id then Q .normal e1 hh1 else Q (.exit j) e1 hh1
        split at hv
        ·rename_i hj;rw [if_pos hj];cases hv;exact hk nm1 e1 hh1 x1 E1 H1
        ·rename_i hj;rw [if_neg hj];cases hv;exact hk nm1 e1 hh1 x1 E1 H1
       ·rename_i hne
        refine hi _ _ _ _ _ _ hv nm e' hb hl h _ E H fun nm1 e1 hh1 x1 E1 H1=>?_
        have:=hk nm1 e1 hh1 x1 E1 H1
        cases x with
        | exit j=>exact absurd hv (hne _ _ _)
        | normal=>exact this
        | ret=>exact this
        | goto l=>exact this
     | loop k=>
       show LoopVC (vc P k) Q e' h
       refine ⟨fun m e h=>m<=n+1 /\ ∃ nm1 ce1 c1,Ext nm nm1/\RE nm1 (lk G ce1) e/\HR nm1 c1 hb hl h/\evN G fn pr m (.loop k) ce1 c1=some (x,ce',c'),⟨n+1,Nat.le_refl _,nm,ce,c,Ext.refl nm,E,H,hv⟩,?_⟩
       rintro m e1 h1 ⟨hm,nm1,ce1,c1,x1,E1,H1,hv1⟩
       cases m with
       | zero=>cases hv1
       | succ m=>
         have hv1:QV G (VW G fn pr (evN G fn pr m)) (evN G fn pr m) (.loop k) ce1 c1=some (x,ce',c'):=hv1
         have hi1:=IH m (by omega)
         simp only [QV] at hv1
         split at hv1
         ·rename_i ce2 c2 h2
          exact hi1 _ _ _ _ _ _ h2 nm1 e1 hb hl h1 _ E1 H1 fun nm2 e2 hh2 x2 E2 H2=>⟨m,Nat.lt_succ_self m,by omega,nm2,ce2,c2,x1.trans x2,E2,H2,hv1⟩
         ·rename_i hne
          refine hi1 _ _ _ _ _ _ hv1 nm1 e1 hb hl h1 _ E1 H1 fun nm2 e2 hh2 x2 E2 H2=>?_
          have hx:x≠.normal:=by rintro rfl;exact hne _ _ hv1
          have:=hk nm2 e2 hh2 (x1.trans x2) E2 H2
          cases x with
          | normal=>exact absurd rfl hx
          | exit id=>exact this
          | ret=>exact this
          | goto l=>exact this
     | exit id=>simp only [QV] at hv;cases hv;exact stay rfl rfl rfl
     | ret=>simp only [QV] at hv;cases hv;exact stay rfl rfl rfl
     | goto l=>simp only [QV] at hv;cases hv;exact stay rfl rfl rfl
     | label l=>simp only [QV] at hv;cases hv;exact stay rfl rfl rfl
     | range f ps a b=>simp only [QV] at hv;cases hv
     | scope l k r=>
       simp only [QV] at hv
       show vc P k (gotoK l (vc P r (noGoK Q)) Q) e' h
       split at hv
       ·rename_i j ce1 c1 h1
        split at hv
        case isFalse=>cases hv
        rename_i hj
        refine hi _ _ _ _ _ _ h1 nm e' hb hl h _ E H fun nm1 e1 hh1 x1 E1 H1=>⟨hj,?_⟩
        split at hv
        ·cases hv
        ·rename_i hne
         refine hi _ _ _ _ _ _ hv nm1 e1 hb hl hh1 _ E1 H1 fun nm2 e2 hh2 x2 E2 H2=>?_
         have:=hk nm2 e2 hh2 (x1.trans x2) E2 H2
         cases x with
         | goto l=>exact absurd hv (hne _ _ _)
         | normal=>exact this
         | exit id=>exact this
         | ret=>exact this
       ·rename_i hne
        refine hi _ _ _ _ _ _ hv nm e' hb hl h _ E H fun nm1 e1 hh1 x1 E1 H1=>?_
        have:=hk nm1 e1 hh1 x1 E1 H1
        cases x with
        | goto l=>exact absurd hv (hne _ _ _)
        | normal=>exact this
        | exit id=>exact this
        | ret=>exact this
theorem pcalls_of_run {fn:Nat->Option (SFun×Nat)} {pr:Nat->List AVal->CH->ER} (hf:FnOK P fn) (hp:UU P pr) (hgl:P.gl=G) (hG:∀ b,Flat (G b)) {f:Nat} {args:List AVal} (n:Nat)
 (hv:((fn f).bind fun s=>(runF G (evN G fn pr n) s.1 s.2 args ⟨0,[],[],0⟩).map (·.1))=some v) (ha:args.all nf=true) (hn:nf v=true):PCalls P f args v:=fun h=>by
 simp only [Option.bind_eq_some_iff,Option.map_eq_some_iff] at hv
 obtain ⟨⟨sf,m⟩,he,⟨u,c1⟩,hr,rfl⟩:=hv
 obtain ⟨k1,k2⟩:=runF_vc (K:=fun v' h'=>v'=u/\h'=h) (evN_sound hf hp hgl hG n) hgl hG hr (nf_all ha) (HR.nil (h:=h)) fun nm' v' h' x V' H'=>⟨h,H'.base,V'.nf_eq hn,rfl⟩
 exact hf.dc he k1 k2
inductive AllE (P:PG):List (Nat×SFun×Nat)->Prop
 | nil:AllE P []
 | cons {f n:Nat} {sf:SFun} {l:List (Nat×SFun×Nat)} (h:FnE P f sf n) (r:AllE P l):AllE P ((f,sf,n) :: l)
theorem AllE.ok {l:List (Nat×SFun×Nat)} (h:AllE P l):FnOK P (look l):=by
 induction h with
 | nil=>intro f sf n he;cases he
 | cons h r ih=>
   intro f sf n he
   rw [JW] at he
   split at he
   ·rename_i e;cases he;subst e;exact h
   ·exact ih f sf n he
theorem fnE {f m n : Nat} {fnc : Func} {ann : Ann} {sf : SFun} (h1 : P.p.funcs[f]? = some fnc) (h2 : (fnc.name == "runtime.NumGoroutine") = false) (h3 : Y6 P.p ann fnc = some sf) (h4 : fnc.ntmps = m) (h5 : (Nat.ble n m && Nat.ble m 1000000) = true)
 (h6:(ann.mp.all fun t=>decide (n<=t/\t<1000000))=true):FnE P f sf n:=by
 simp only [Bool.and_eq_true] at h5
 exact ⟨fnc,ann,h1,h2,h3,by rw [h4];exact Nat.le_of_ble_eq_true h5.1,by rw [h4];exact Nat.le_of_ble_eq_true h5.2,h6⟩
def PrOK (P:PG) (f:Nat) (p:List AVal->CH->ER):Prop:=∀ args c v c',p args c=some (v,c') -> ∀ (nm:List Nat) (args':List AVal) (hb hl h:Z2),RL nm args args'->HR nm c hb hl h ->
 DCalls P f args' h fun v' h'=>∃ nm',Ext nm nm'/\RV nm' v v'/\HR nm' c' hb hl h'
theorem PrOK.pc {f:Nat} {p:List AVal->CH->ER} (hp:∀ args c v c',p args c=some (v,c')->args.all nf=true/\nf v=true/\c'=c/\PCalls P f args v):PrOK P f p:=fun args c v c' hv nm args' hb hl h V H=>by
 obtain ⟨h1,h2,rfl,h3⟩:=hp _ _ _ _ hv
 rw [V.nf_eq h1]
 exact h3.d ⟨nm,Ext.refl nm,(nf_flat h2).rv,H⟩
inductive AllP (P:PG):List (Nat×(List AVal->CH->ER))->Prop
 | nil:AllP P []
 | cons {f:Nat} {p:List AVal->CH->ER} {l:List (Nat×(List AVal->CH->ER))} (h:PrOK P f p) (r:AllP P l):AllP P ((f,p) :: l)
def prL (l:List (Nat×(List AVal->CH->ER))) (f:Nat) (args:List AVal) (c:CH):ER:=
 match look l f with
 | some p=>p args c
 | none=>none
theorem AllP.ok {l:List (Nat×(List AVal->CH->ER))} (h:AllP P l):UU P (prL l):=fun f args c v c' hv=>by
 unfold prL at hv
 split at hv
 ·rename_i p hp
  have:PrOK P f p:=by
   clear hv
   induction h with
   | nil=>cases hp
   | cons h r ih=>
     rw [JW] at hp
     split at hp
     ·rename_i e;cases hp;subst e;exact h
     ·exact ih hp
  exact this args c v c' hv
 ·cases hv
theorem HR.swap (H:HR nm c hb hl h) {i r r':Nat} {o o1 o2:AObj} {h':Z2} (hi:c.get i=some o) (hr:nm[i]? = some r) (h1:h' r'=some o2) (h2:r=r'\/h r'=none) (h3:∀ t x,h t=some x->r≠t->h' t=some x) (ho:RO (nm++[r']) o1 o2):HR (nm++[r']) ((c.del i).add o1) hb hl h':=by
 have D:=H.del hi hr
 have hn:Sim.del h r r'=none:=by
  unfold Sim.del
  rcases h2 with h2 | h2
  ·rw [if_pos h2.symm]
  ·split
   ·rfl
   ·exact h2
 have A:=D.alloc hn ho
 have low:∀ t x,upd (Sim.del h r) r' (some o2) t=some x->h' t=some x:=fun t x hx=>by
  unfold Sim.upd at hx
  split at hx
  ·rename_i e;cases hx;rw [e];exact h1
  ·unfold Sim.del at hx
   split at hx
   ·cases hx
   ·rename_i e;exact h3 t x hx (Ne.symm e)
 exact { obj:=fun j x hj=>by
          obtain ⟨s,x',q1,q2,q3,q4⟩:=A.obj j x hj
          exact ⟨s,x',q1,low s x' q2,q3,q4⟩
         inj:=A.inj
         base:=fun s x hs=>low s x (A.base s x hs)
         len:=A.len
         lg:=fun s q1 q2=>by
          have q3:=A.lg s q1 q2
          cases hx:hl s with
          | none=>exact absurd hx q1
          | some x=>rw [hx] at q3;exact low s x q3
         nw:=A.nw }
theorem HR.made (H:HR nm c hb hl h) {r':Nat} {o1 o2:AObj} {h':Z2} (h1:h' r'=some o2) (h2:h r'=none) (h3:∀ t x,h t=some x->h' t=some x) (ho:RO (nm++[r']) o1 o2):HR (nm++[r']) (c.add o1) hb hl h':=by
 have A:=H.alloc h2 ho
 have low:∀ t x,upd h r' (some o2) t=some x->h' t=some x:=fun t x hx=>by
  unfold Sim.upd at hx
  split at hx
  ·rename_i e;cases hx;rw [e];exact h1
  ·exact h3 t x hx
 exact { obj:=fun j x hj=>by
          obtain ⟨s,x',q1,q2,q3,q4⟩:=A.obj j x hj
          exact ⟨s,x',q1,low s x' q2,q3,q4⟩
         inj:=A.inj
         base:=fun s x hs=>low s x (A.base s x hs)
         len:=A.len
         lg:=fun s q1 q2=>by
          have q3:=A.lg s q1 q2
          cases hx:hl s with
          | none=>exact absurd hx q1
          | some x=>rw [hx] at q3;exact low s x q3
         nw:=A.nw }
theorem DCalls.empty {f:Nat} {args:List AVal} {K:AVal->Z2->Prop} (hd:DCalls P f args h fun r h'=>(∃ r0 sz i,r=.emp\/r=.osl r0 sz i 0)/\K (.slc []) h'):DCalls P f args h K:=
 ⟨hd.1,fun g w vs H GR V=>(hd.2 g w vs H GR V).mono fun e w' ⟨v,r,h',g',he,⟨⟨r0,sz,i,hr⟩,k⟩,H',V',S⟩=>by
   refine ⟨v,.slc [],h',g',he,k,H',?_,S⟩
   rcases hr with rfl | rfl
   ·obtain ⟨A,rfl,_⟩:=V'.emp_inv;exact .slc0 _ _
   ·obtain ⟨_,_,hc⟩:=V'.osl_inv
    rcases hc with ⟨rfl,_⟩ | ⟨cap,off,rfl,_⟩
    ·exact .slc0 _ _
    ·exact .slc0 _ _⟩
end
end
end Go.Sim
end
