/- Texts of this claim, one behind the other. -/
import Derived.Test.YtbieeakcnechoaaGreatDoorM1
import Derived.Orders
import Derived.OrdersIn
import Derived.TacticsIn
import Derived.RangeFuncLeaves
import Derived.RangeFuncWrites
set_option maxHeartbeats 4000000
set_option maxRecDepth 100000
section
namespace Go.Sim
open Go
structure Callable (P:Program) (f:Nat):Prop where
 ex : ∃ fn, P.funcs[f]? = some fn /\ (fn.name == "runtime.NumGoroutine") = false /\ fn.body.isSome = true
def DCalls (P:PG) (f:Nat) (args:List AVal) (h:Z2) (K:AVal->Z2->Prop):Prop:=
 Callable P f /\ ∀ (g:Ghost) (w:World) (vs:Array Value),HRel h g w->GRel P.gl g w->VRelL g w vs args ->
  Calls P f vs w fun e w'=>∃ v r h' g',e=.returned v/\K r h'/\HRel h' g' w'/\VRel g' w' v r/\GS g w g' w'
def PCalls (P:PG) (f:Nat) (args:List AVal) (v:AVal):Prop:=∀ h,DCalls P f args h fun r h'=>r=v/\h'=h
theorem DCalls.mono {P:PG} {f:Nat} {args:List AVal} {h:Z2} {K K':AVal->Z2->Prop} (hd:DCalls P f args h K) (hk:∀ r h',K r h'->K' r h'):DCalls P f args h K':=
 ⟨hd.1,fun g w vs H GR V=>(hd.2 g w vs H GR V).mono fun _ _ ⟨v,r,h',g',he,k,rest⟩=>⟨v,r,h',g',he,hk r h' k,rest⟩⟩
theorem PCalls.d {P:PG} {f:Nat} {args:List AVal} {v:AVal} (hp:PCalls P f args v) {h:Z2} {K:AVal->Z2->Prop} (hk:K v h):DCalls P f args h K:=
 (hp h).mono fun r h' ⟨e1,e2⟩=>by subst e1 e2;exact hk
def callE (P:PG) (f:AVal) (args:List AVal) (h:Z2) (K:AVal->Z2->Prop):Prop:=
 match f with
 | .fn k first cap=>DCalls P k (first++(args++cap)) h K
 | _=>False
def stE (size:Nat) (p v:AVal) (h:Z2) (K:AVal->Z2->Prop):Prop:=
 match deVp p with
 | .ptr r i j=>∃ ob,h r=some ob/\i<ob.es.length/\j+size<=(ob.es.getD i []).length/\isV v=true/\(cellsOf v).length=size /\
    K .dead (upd h r (some { ob with es:=ob.es.set i (Z0 (ob.es.getD i []) j (cellsOf v)) }))
 | .pin _=>size=0/\isV v=true/\cellsOf v=[]/\K .dead h
 | _=>False
def appE (ty sz bytes:Nat) (x:AVal) (es2:List (List AVal)) (h:Z2) (K:AVal->Z2->Prop):Prop:=
 match x with
 | .emp=>es2.length*bytes<=140737488355328/\es2.length<=140737488355328 /\ ∀ r,h r=none->K (.osl r sz 0 es2.length) (upd h r (some ⟨ty,sz,es2⟩))
 | .osl r sz' i m=>sz'=sz /\ ∃ ob,h r=some ob/\ob.ty=ty/\i+m<=ob.es.length/\(m+es2.length)*bytes<=140737488355328/\m+es2.length<=140737488355328 /\
    ∀ r',del h r r'=none->K (.osl r' sz 0 (m+es2.length)) (upd (del h r) r' (some ⟨ty,sz,(ob.es.drop i).take m++es2⟩))
 | _=>False
def appFE (ty sz bytes:Nat) (x:AVal) (es2:List (List AVal)) (h:Z2) (K:AVal->Z2->Prop):Prop:=
 match x with
 | .emp=>es2.length*bytes<=140737488355328/\es2.length<=140737488355328/\K (.slc es2) h
 | .osl r sz' i m=>sz'=sz /\ ∃ ob,h r=some ob/\ob.ty=ty/\i+m<=ob.es.length/\(m+es2.length)*bytes<=140737488355328/\m+es2.length<=140737488355328/\K (.slc ((ob.es.drop i).take m++es2)) (del h r)
 | _=>False
def frzE (x:AVal) (h:Z2) (K:AVal->Z2->Prop):Prop:=
 match x with
 | .emp=>K (.slc []) h
 | .slc es=>K (.slc es) h
 | .osl r _ i m=>∃ ob,h r=some ob/\i+m<=ob.es.length/\K (.slc ((ob.es.drop i).take m)) (del h r)
 | _=>False
def appInE (sz:Nat) (x:AVal) (es2:List (List AVal)) (h:Z2) (K:AVal->Z2->Prop):Prop:=
 match x with
 | .osl r sz' i m=>sz'=sz /\ ∃ ob,h r=some ob/\i+m+es2.length<=ob.es.length /\
    K (.osl r sz i (m+es2.length)) (upd h r (some { ob with es:=ob.es.take (i+m)++es2++ob.es.drop (i+m+es2.length) }))
 | _=>False
def slXE (sz:Nat) (x:AVal) (lo hi:Option AVal) (h:Z2) (K:AVal->Z2->Prop):Prop:=
 match x with
 | .osl r sz' i m=>sz'=sz /\ ∃ ob,h r=some ob/\okB lo/\okB hi/\0<=X2 lo/\X2 lo<=X4 m hi/\i+(X4 m hi).toNat<=ob.es.length /\
    K (.osl r sz (i+(X2 lo).toNat) ((X4 m hi).toNat-(X2 lo).toNat)) h
 | _=>False
def mksE (ty sz bytes:Nat) (z:List AVal) (x y:AVal) (h:Z2) (K:AVal->Z2->Prop):Prop:=
 match x,y with
 | .int _ l,.int _ c=>0<=l/\l<=c/\c*bytes<=140737488355328/\c<=140737488355328 /\ ∀ r,h r=none->K (.osl r sz 0 l.toNat) (upd h r (some ⟨ty,sz,List.replicate c.toNat z⟩))
 | _,_=>False
def W7 (sz:Nat) (x:AVal) (es2:List (List AVal)) (h:Z2) (K:AVal->Z2->Prop):Prop:=
 match x with
 | .osl r sz' i m=>sz'=sz /\ ∃ ob,h r=some ob/\i+m<=ob.es.length /\
    K (Y0 (min es2.length m:Nat)) (upd h r (some { ob with es:=ob.es.take i++es2.take (min es2.length m)++ob.es.drop (i+min es2.length m) }))
 | _=>False
def clearE (sz:Nat) (z:List AVal) (x:AVal) (h:Z2) (K:AVal->Z2->Prop):Prop:=
 match x with
 | .osl r sz' i m=>sz'=sz /\ ∃ ob,h r=some ob/\i+m<=ob.es.length/\K .dead (upd h r (some { ob with es:=ob.es.take i++List.replicate m z++ob.es.drop (i+m) }))
 | _=>False
def Q5 (sz:Nat) (e:Env):List SX->Prop
 | []=>True
 | x :: r=>isV (ev e x)=true/\(cellsOf (ev e x)).length=sz/\Q5 sz e r
def litE (ty sz:Nat) (parts:List SX) (e:Env) (h:Z2) (K:AVal->Z2->Prop):Prop:=
 Q5 sz e parts /\ ∀ r,h r=none->K (.osl r sz 0 parts.length) (upd h r (some ⟨ty,sz,parts.map fun x=>cellsOf (ev e x)⟩))
def mupE (kt:Option IntKind) (m k v:AVal) (h:Z2) (K:AVal->Z2->Prop):Prop:=
 match m with
 | .mpr r=>∃ ob,h r=some ob/\ob.ty.isM=true/\U1 kt k=true/\ob.ty.ents.all (fun p=>U1 kt p.1)=true /\
    K .dead (upd h r (some { ob with ty:=ob.ty.setM (mPut k v ob.ty.ents) }))
 | _=>False
def rngE (x:AVal) (h:Z2) (K:AVal->Z2->Prop):Prop:=
 match x with
 | .str l=>∀ r,h r=none->K (.ptr r 0 0) (upd h r (some (itO l 0)))
 | _=>False
def nxtE (x:AVal) (h:Z2) (K:AVal->Z2->Prop):Prop:=
 match x with
 | .ptr r 0 0=>∃ l p,h r=some (itO l p)/\(p<l.length->K (.tup [.bool true,Y0 p,.int .i32 (T8 l p).1]) (upd h r (some (itO l (p+(T8 l p).2)))))/\(l.length<=p->K (.tup [.bool false]) h)
 | _=>False
def vcI (P:PG) (si:SI) (e:Env) (h:Z2) (K:AVal->Z2->Prop):Prop:=
 match si with
 | .isnil k neg x=>YK k neg (ev e x) fun r=>K r h
 | .bldR ty sz parts=>litE ty sz parts e h K
 | .box ty sz x=>isV (ev e x)=true/\(cellsOf (ev e x)).length=sz /\ ∀ r,h r=none->K (.vp r 0) (upd h r (some ⟨ty,sz,[cellsOf (ev e x)]⟩))
 | .boxF _ sz x=>isV (ev e x)=true/\(cellsOf (ev e x)).length=sz/\K (.pin (cellsOf (ev e x))) h
 | .new ty sz z=>∀ r,h r=none->K (.vp r 0) (upd h r (some ⟨ty,sz,[z]⟩))
 | .newnil ty sz=>∀ r,h r=none->K (.osl r sz 0 0) (upd h r (some ⟨ty,sz,[]⟩))
 | .st size x v=>stE size (ev e x) (ev e v) h K
 | .app ty sz b x y=>∃ es2,Rd h sz (ev e y) es2/\appE ty sz b (ev e x) es2 h K
 | .appS ty b x y=>∃ l,ev e y=.str l/\((ev e x=.emp/\l=[]/\K .emp h)\/appE ty 1 b (ev e x) (Y8 l) h K)
 | .appIn _ sz x y=>∃ es2,Rd h sz (ev e y) es2/\appInE sz (ev e x) es2 h K
 | .appF ty sz b x y=>∃ es2,Rd h sz (ev e y) es2/\appFE ty sz b (ev e x) es2 h K
 | .frz x=>frzE (ev e x) h K
 | .slX sz x lo hi=>slXE sz (ev e x) (evO e lo) (evO e hi) h K
 | .mks ty sz b z n c=>mksE ty sz b z (ev e n) (ev e c) h K
 | .copy sz x y=>∃ es2,Rd h sz (ev e y) es2/\W7 sz (ev e x) es2 h K
 | .clear sz z x=>clearE sz z (ev e x) h K
 | .call f args=>callE P (ev e f) (args.map (ev e)) h K
 | .pcall f args=>∃ v,PCalls P f (args.map (ev e)) v/\K v h
 | .b2s x=>∃ l,Rd h 1 (ev e x) (Y8 l)/\K (.str l) h
 | .usd x=>usdE (ev e x) h K
 | .ustr ty x y=>ustrE ty (ev e x) (ev e y) h K
 | .mkm ty=>∀ r,h r=none->K (.mpr r) (upd h r (some ⟨.m ty [],1,[]⟩))
 | .mup kt m k v=>mupE kt (ev e m) (ev e k) (ev e v) h K
 | .s2b ty x=>s2bE ty (ev e x) h K
 | .rng x=>rngE (ev e x) h K
 | .nxt x=>nxtE (ev e x) h K
 | .bldF ty sz parts=>Q5 sz e parts/\K (fop (.bldF ty sz parts) e h) h
 | si=>fok si e h/\K (fop si e h) h
section
variable {P:PG} {o:Oper} {a:Act} {w:World} {g:Ghost} {h:Z2} {n:Nat} {e:Env}
theorem wp_of_V {next:Act->World->Prop} {Q:Exit->Act->World->Prop} {r:AVal} (s:U4 P o a w g r) (hn:∀ v,VRel g w v r->next (a.put o.dst v) w):o.wp P a w next Q:=by
 obtain ⟨v,hr,hv⟩:=s
 unfold Oper.wp
 rw [hr]
 exact hn v hv
theorem K5 {next:Act->World->Prop} {Q:Exit->Act->World->Prop} {K:AVal->Z2->Prop} (s:StepW P o a w g K)
 (hn:∀ v w' g' r h',GS g w g' w'->HRel h' g' w'->VRel g' w' v r->K r h'->next (a.put o.dst v) w'):o.wp P a w next Q:=by
 obtain ⟨v,w',g',r,h',hr,S,H,V,k⟩:=s
 unfold Oper.wp
 rcases hr with hr | ⟨hr,rfl⟩
 ·rw [hr];exact hn v w' g' r h' S H V k
 ·rw [hr];exact hn undef w' g' r h' S H V k
theorem VRelL.append {vs us:Array Value} {as bs:List AVal} (h1:VRelL g w vs as) (h2:VRelL g w us bs):VRelL g w (vs++us) (as++bs):=by
 refine ⟨by rw [Array.size_append,List.length_append,h1.1,h2.1],fun j u x hu hx=>?_⟩
 by_cases hj:j<vs.size
 ·rw [Array.getElem?_append_left hj] at hu
  rw [List.getElem?_append_left (by rw [<-h1.1];exact hj)] at hx
  exact h1.2 j u x hu hx
 ·rw [Array.getElem?_append_right (by omega)] at hu
  rw [List.getElem?_append_right (by rw [<-h1.1];omega),<-h1.1] at hx
  exact h2.2 _ u x hu hx
theorem okParts_out {sz:Nat}:∀ {parts:List SX},Q5 sz e parts -> ∀ x∈parts,isV (ev e x)=true/\(cellsOf (ev e x)).length=sz
 | [],_,x,hx=>by cases hx
 | y :: r,hk,x,hx=>by
   obtain ⟨h1,h2,h3⟩:=hk
   rcases List.mem_cons.1 hx with rfl | hx
   ·exact ⟨h1,h2⟩
   ·exact okParts_out h3 x hx
theorem call_wp {c:Call} {f:Operand} {k:Nat} {first cap:List AVal} {ss:List SX} (ho:o.op=.call c) (hc:c.callee=.value f) (hf:VRel g w (a.eval f) (.fn k first cap)) (hs:toSXs c.args.toList=some ss) (E:ERel n e g w a) (H:HRel h g w) (GR:GRel P.gl g w)
 {K:AVal->Z2->Prop} (hd:DCalls P k (first++(ss.map (ev e)++cap)) h K) {next:Act->World->Prop} {Q:Exit->Act->World->Prop}
 (hn:∀ v w' g' r h',GS g w g' w'->HRel h' g' w'->VRel g' w' v r->K r h'->next (a.put o.dst v) w'):o.wp P a w next Q:=by
 obtain ⟨⟨fn,hfn,hname,hbody⟩,hcalls⟩:=hd
 have hA:=evs_rel E hs
 obtain ⟨fs,cs,hv,hF,hC⟩:∃ fs cs,a.eval f=.func (.func k) fs cs/\VRelL g w fs first/\VRelL g w cs cap:=by
  revert hf
  generalize a.eval f=q
  intro hf
  cases hf with
  | fn f fs cs as bs hf hc h1 h2=>exact ⟨fs,cs,rfl,⟨hf,h1⟩,⟨hc,h2⟩⟩
 have hV:=hF.append (hA.append hC)
 have hb:fn.body.isNone=false:=by cases hb:fn.body <;> simp_all
 have hrun:(execOp a.eval o).run P w=.ok (.enter k (fs++(c.args.map a.eval++cs))) w:=by
  simp only [execOp,ho,resolve,hc,hv,Deferred.ofValue,Sem.run_bind,Sem.run_pure,Result.andThen_ok,invoke,callFunc,run_program,hfn,hname,hb,Bool.false_eq_true,if_false,Array.append_assoc]
 unfold Oper.wp
 rw [hrun]
 refine (hcalls g w _ H GR hV).mono fun e' w' ⟨v,r,h',g',he,hk,H',V',S'⟩=>?_
 subst he
 exact hn v w' g' r h' S' H' V' hk
theorem appE_out {ty sz b:Nat} {x:AVal} {es2:List (List AVal)} {K:AVal->Z2->Prop} (hk:appE ty sz b x es2 h K) :
 (x=.emp/\es2.length*b<=140737488355328/\es2.length<=140737488355328 /\ ∀ r,h r=none->K (.osl r sz 0 es2.length) (upd h r (some ⟨ty,sz,es2⟩))) \/
   ∃ r i m ob,x=.osl r sz i m/\h r=some ob/\ob.ty=ty/\i+m<=ob.es.length/\(m+es2.length)*b<=140737488355328/\m+es2.length<=140737488355328 /\
     ∀ r',del h r r'=none->K (.osl r' sz 0 (m+es2.length)) (upd (del h r) r' (some ⟨ty,sz,(ob.es.drop i).take m++es2⟩)):=by
 cases x <;> try exact hk.elim
 ·obtain ⟨h1,h2,h3⟩:=hk
  exact .inl ⟨rfl,h1,h2,h3⟩
 ·obtain ⟨rfl,ob,h1,h2,h3,h4,h5,h6⟩:=hk
  exact .inr ⟨_,_,_,ob,rfl,h1,h2,h3,h4,h5,h6⟩
theorem osl_frz (H:HRel h g w) {r:Nat} {ob:AObj} (hr:h r=some ob) {v:Value} {sz i m:Nat} (V:VRel g w v (.osl r sz i m)) (hle:i+m<=ob.es.length) :
 ∃ g',GS g w g' w/\HRel (del h r) g' w/\VRel g' w v (.slc ((ob.es.drop i).take m)):=by
 obtain ⟨hrl,hsz,hc⟩:=V.osl_inv
 have O:=H.obj r ob hr
 have hl:((ob.es.drop i).take m).length=m:=by simp;omega
 have nil:∀ A c,v=.slice A 0 c->m=0 -> ∃ g',GS g w g' w/\HRel (del h r) g' w/\VRel g' w v (.slc ((ob.es.drop i).take m)):=fun A c hv hm=>by
  subst hm;subst hv
  exact ⟨g,GS.refl g w,H.del r,by simpa using VRel.slc0 (g:=g) (w:=w) A c⟩
 rcases hc with ⟨hv,_,hm,_⟩ | ⟨cap,off,hv,hnc,hm,hi,hoff⟩
 ·exact nil none 0 hv hm
 ·by_cases hn:m=0
  ·subst hn
   exact nil _ _ hv rfl
  ·subst hv
   have hof:=hoff (by omega)
   rcases O.block with h0 | ⟨hlt,_,cur,hcur,_,hcell⟩
   ·have:=O.le;omega
   ·obtain ⟨S,H'⟩:=H.freeze hr (by omega)
    refine ⟨_,S,H',?_⟩
    have key:=VRel.slc_mk (g:=g.frz (g.eta r)) (w:=w) (ad:=⟨g.eta r,off,none⟩) (c:=cap) (sz:=sz) (es:=(ob.es.drop i).take m) (by rw [hl];exact hnc)
     (fun f hf'=>by rw [O.len f (List.mem_of_mem_drop (List.mem_of_mem_take hf')),<-O.sz,hsz]) rfl (.inr rfl) (fun k j f x hk hx=>by
     obtain ⟨hkn,hk'⟩:=ZZ _ _ _ _ _ hk
     obtain ⟨u,hu,h1,h2⟩:=hcell _ j _ _ hk' hx
     refine ⟨u,?_,h1,h2.step S.toGStep⟩
     rw [Addr.add_lit,hcur.cell,<-hu,hof,<-O.sz,hsz,Nat.add_mul]
     congr 1;omega)
    rw [hl] at key
    exact key
theorem del_upd0 {h:Z2} {r:Nat} {o:Option AObj} (hr:h r=none):del (upd h r o) r=h:=by
 funext t;unfold del upd;by_cases ht:t=r
 ·subst ht;simp [hr]
 ·simp [ht]
theorem StepW.fz {K K':AVal->Z2->Prop} (s:StepW P o a w g K') (hk:∀ r h',K' r h' -> ∃ r' ob sz i m,r=.osl r' sz i m/\h' r'=some ob/\i+m<=ob.es.length/\K (.slc ((ob.es.drop i).take m)) (del h' r')):StepW P o a w g K:=by
 obtain ⟨v,w',g',r,h',hr,S,H,V,k⟩:=s
 obtain ⟨r',ob,sz,i,m,rfl,h1,h2,h3⟩:=hk r h' k
 obtain ⟨g2,S2,H2,V2⟩:=osl_frz H h1 V h2
 exact ⟨v,w',g2,_,_,hr,S.trans S2,H2,V2,h3⟩
def SI.gated:SI->Bool
 | .bldF .. => false
 | si=>si.stable
def SI.isMup:SI->Bool
 | .mup .. => true
 | .nxt .. => true
 | _=>false
theorem TQ {ann:Ann} {si:SI} {K:AVal->Z2->Prop} (ht:toSI P ann o=some si) (hnm:si.isMup=false) (hk:vcI P si e h K) (E:ERel n e g w a) (H:HRel h g w) (GR:GRel P.gl g w) {next:Act->World->Prop} {Q:Exit->Act->World->Prop}
 (hn:∀ v w' g' r h',GS g w g' w'->HRel h' g' w'->VRel g' w' v r->K r h'->(si.gated=true->g'=g/\w'=w)->next (a.put o.dst v) w'):o.wp P a w next Q:=by
 have fV:∀ {r:AVal},U4 P o a w g r->K r h->o.wp P a w next Q:=fun s k=>wp_of_V s fun v hv=>hn v w g _ h (GS.refl g w) H hv k fun _=>⟨rfl,rfl⟩
 have hW:si.gated=false -> ∀ v w' g' r h',GS g w g' w'->HRel h' g' w'->VRel g' w' v r->K r h'->next (a.put o.dst v) w':=fun hs v w' g' r h' S H V k=>hn v w' g' r h' S H V k fun q=>by rw [hs] at q;cases q
 have mv:∀ x,(o.op=.move x\/o.op=.assign x)->toMv P ann o x=some si->o.wp P a w next Q:=by
  intro x ho hx
  unfold toMv at hx
  split at hx
  ·split at hx
   ·simp only [Option.bind_eq_some_iff] at hx
    obtain ⟨el,hel,s,hs,hx⟩:=hx
    split at hx
    ·rename_i hs0
     cases hx
     exact K5 (s_newnil ho rfl hs0 H hk) (hW rfl)
    ·cases hx
   ·cases hx
  ·split at hx
   ·rename_i hnil
    have hnil:=hnil.2
    unfold isSNil at hnil
    split at hnil
    ·cases hx
     have sv:U4 P o a w g (.prim (.slice none 0 0)):=by
      rcases ho with h | h <;> exact ⟨.slice none 0 0,by simp [execOp,h,Act.eval],.prim _⟩
     exact fV sv hk.2
    ·cases hnil
   ·split at hx
    ·rw [Option.map_eq_some_iff] at hx
     obtain ⟨sx,hsx,rfl⟩:=hx
     obtain ⟨v,hrun,hv⟩:=s_mv ho hsx E
     have hk':frzE (ev e sx) h K:=hk
     unfold frzE at hk'
     split at hk'
     ·rename_i hp
      rw [hp] at hv
      obtain ⟨A,rfl,_⟩:=hv.emp_inv
      exact K5 ⟨_,w,g,_,h,.inl hrun,GS.refl g w,H,.slc0 A 0,hk'⟩ (hW rfl)
     ·rename_i es hp
      rw [hp] at hv
      exact K5 ⟨_,w,g,_,h,.inl hrun,GS.refl g w,H,hv,hk'⟩ (hW rfl)
     ·rename_i r sz i m hp
      rw [hp] at hv
      obtain ⟨ob,h1,h2,h3⟩:=hk'
      obtain ⟨g2,S2,H2,V2⟩:=osl_frz H h1 hv h2
      exact K5 ⟨_,w,g2,_,_,.inl hrun,S2,H2,V2,h3⟩ (hW rfl)
     ·exact hk'.elim
    ·rw [Option.map_eq_some_iff] at hx
     obtain ⟨sx,hsx,rfl⟩:=hx
     exact fV (s_mv ho hsx E) hk.2
 unfold toSI at ht
 split at ht
 ·rename_i x ho;exact mv x (.inl ho) ht
 ·rename_i x ho;exact mv x (.inr ho) ht
 ·rename_i c x y ho
  simp only [Option.bind_eq_some_iff,Option.map_eq_some_iff] at ht
  obtain ⟨sc,hc,sx,hx,sy,hy,rfl⟩:=ht
  exact fV (s_pick ho hc hx hy E hk.1) hk.2
 ·rename_i op t x y t' ho
  unfold toBin at ht
  split at ht
  ·simp only [Option.bind_eq_some_iff] at ht
   obtain ⟨kd,hkd,ht⟩:=ht
   have go:∀ neg,op=.eql/\neg=false\/op=.neq/\neg=true->(Y5 x).map (.isnil kd neg)=some si->o.wp P a w next Q:=by
    intro neg hop hx
    rw [Option.map_eq_some_iff] at hx
    obtain ⟨sx,hsx,rfl⟩:=hx
    obtain ⟨v,x',hr,hv,hkk⟩:=s_isnil (K:=fun r=>K r h) ho hkd hop hsx E hk
    exact fV ⟨v,hr,hv⟩ hkk
   split at ht
   ·rename_i hop;exact go false (.inl ⟨hop,rfl⟩) ht
   ·split at ht
    ·rename_i hop;exact go true (.inr ⟨hop,rfl⟩) ht
    ·cases ht
  ·split at ht
   ·cases ht
   ·split at ht
    ·have go:∀ neg,op=.eql/\neg=false\/op=.neq/\neg=true->((eqTy P t).bind fun ks=>(Y5 x).bind fun x=>(Y5 y).map (.eqs neg ks x))=some si->o.wp P a w next Q:=by
      intro neg hop hx
      simp only [Option.bind_eq_some_iff,Option.map_eq_some_iff] at hx
      obtain ⟨ks,hks,sx,hsx,sy,hsy,rfl⟩:=hx
      exact fV (s_eqs ho hks hop hsx hsy E hk.1) hk.2
     split at ht
     ·rename_i hop;exact go false (.inl ⟨hop,rfl⟩) ht
     ·split at ht
      ·rename_i hop;exact go true (.inr ⟨hop,rfl⟩) ht
      ·cases ht
    ·split at ht
     ·rename_i hbt
      have go:∀ neg,op=.eql/\neg=false\/op=.neq/\neg=true->((Y5 x).bind fun x=>(Y5 y).map (.eqb neg x))=some si->o.wp P a w next Q:=by
       intro neg hop hx
       simp only [Option.bind_eq_some_iff,Option.map_eq_some_iff] at hx
       obtain ⟨sx,hsx,sy,hsy,rfl⟩:=hx
       exact fV (s_eqb ho hbt hop hsx hsy E hk.1) hk.2
      split at ht
      ·rename_i hop;exact go false (.inl ⟨hop,rfl⟩) ht
      ·split at ht
       ·rename_i hop;exact go true (.inr ⟨hop,rfl⟩) ht
       ·cases ht
     ·simp only [Option.bind_eq_some_iff,Option.map_eq_some_iff] at ht
      obtain ⟨sx,hsx,sy,hsy,rfl⟩:=ht
      exact fV (s_bin ho hsx hsy E hk.1) hk.2
 ·rename_i op t x ho
  rw [Option.map_eq_some_iff] at ht
  obtain ⟨sx,hsx,rfl⟩:=ht
  exact fV (s_un ho hsx E hk.1) hk.2
 ·rename_i s d x ho
  unfold toCv at ht
  split at ht
  ·rename_i hs hd
   rw [Option.map_eq_some_iff] at ht
   obtain ⟨sx,hsx,rfl⟩:=ht
   exact fV (s_cvi ho hs hd hsx E hk.1) hk.2
  ·rename_i hs hd
   rw [Option.map_eq_some_iff] at ht
   obtain ⟨sx,hsx,rfl⟩:=ht
   exact fV (s_idc ho hs hd hsx E hk.1) hk.2
  ·rename_i hs hd
   rw [Option.map_eq_some_iff] at ht
   obtain ⟨sx,hsx,rfl⟩:=ht
   exact fV (s_r2s ho hs hd hsx E hk.1) hk.2
  ·rename_i el hs hd
   split at ht
   ·rename_i hel
    rw [Option.map_eq_some_iff] at ht
    obtain ⟨sx,hsx,rfl⟩:=ht
    obtain ⟨l,h1,h2⟩:=hk
    exact fV (s_b2s ho hs hel hd hsx E H h1) h2
   ·cases ht
  ·rename_i el hs hd
   split at ht
   ·rename_i hel
    rw [Option.map_eq_some_iff] at ht
    obtain ⟨sx,hsx,rfl⟩:=ht
    exact K5 (s_s2b ho hs hd hel hsx E H hk) (hW rfl)
   ·cases ht
  ·cases ht
 ·rename_i t x f ho
  simp only [Option.bind_eq_some_iff,Option.map_eq_some_iff] at ht
  obtain ⟨fd,hfd,s,hs,b,hb,sx,hsx,rfl⟩:=ht
  exact fV (s_fld ho hfd hs hb hsx E hk.1) hk.2
 ·rename_i t x f ho
  simp only [Option.bind_eq_some_iff] at ht
  obtain ⟨fd,hfd,s,hs,ht⟩:=ht
  split at ht
  ·rename_i hs0
   rw [Option.map_eq_some_iff] at ht
   obtain ⟨sx,hsx,rfl⟩:=ht
   exact fV (s_fldA ho hfd hs hs0 hsx E hk.1) hk.2
  ·cases ht
 ·rename_i x ho
  rw [Option.map_eq_some_iff] at ht
  obtain ⟨sx,hsx,rfl⟩:=ht
  exact fV (s_nck ho hsx E hk.1) hk.2
 ·rename_i t x i ho
  split at ht
  ·rename_i m el hel
   split at ht
   ·rename_i hs
    simp only [Option.bind_eq_some_iff,Option.map_eq_some_iff] at ht
    obtain ⟨sx,hsx,sy,hsy,rfl⟩:=ht
    exact fV (s_idxG ho hel hs hsx hsy E hk.1) hk.2
   ·cases ht
  ·simp only [Option.bind_eq_some_iff,Option.map_eq_some_iff] at ht
   obtain ⟨el,hel,s,hs,sx,hsx,sy,hsy,rfl⟩:=ht
   exact fV (s_idxA ho hel hs hsx hsy E hk.1) hk.2
 ·rename_i t x i ho
  split at ht
  ·rename_i hu
   simp only [Option.bind_eq_some_iff,Option.map_eq_some_iff] at ht
   obtain ⟨sx,hsx,sy,hsy,rfl⟩:=ht
   exact fV (s_idxS ho hu hsx hsy E hk.1) hk.2
  ·cases ht
 ·rename_i t x ho
  simp only [Option.bind_eq_some_iff,Option.map_eq_some_iff] at ht
  obtain ⟨s,hs,b,hb,sx,hsx,rfl⟩:=ht
  have hk':okLd h s b (ev e sx)/\K (aLd h s b (ev e sx)) h:=by
   by_cases hc:1000<=ann.at o.dst
   ·rw [if_pos hc] at hk
    exact ⟨hk.1.1,hk.2⟩
   ·rw [if_neg hc] at hk
    exact hk
  exact fV (s_ld ho hs hb hsx E H hk'.1) hk'.2
 ·rename_i t x v ho
  simp only [Option.bind_eq_some_iff,Option.map_eq_some_iff] at ht
  obtain ⟨s,hs,sx,hsx,sy,hsy,rfl⟩:=ht
  have hk':stE s (ev e sx) (ev e sy) h K:=hk
  unfold stE at hk'
  split at hk'
  ·rename_i r i j hp
   obtain ⟨ob,h1,h2,h3,h4,h5,h6⟩:=hk'
   exact K5 (s_st ho hs hsx hsy E H hp h1 h2 h3 h4 h5 h6) (hW rfl)
  ·rename_i hp
   obtain ⟨rfl,h1,h2,h3⟩:=hk'
   exact K5 (s_st0 ho hs hsx hsy E H hp h1 h2 h3) (hW rfl)
  ·exact hk'.elim
 ·rename_i t x lo hi mx ho
  split at ht
  ·rename_i hu
   split at ht
   ·rename_i hmx
    simp only [Option.bind_eq_some_iff,Option.map_eq_some_iff] at ht
    obtain ⟨sx,hsx,sl,hsl,sh,hsh,rfl⟩:=ht
    obtain rfl:mx=none:=by simpa using hmx
    exact fV (s_slS ho hu hsx hsl hsh E hk.1) hk.2
   ·cases ht
  ·rename_i el hu
   simp only [Option.bind_eq_some_iff] at ht
   obtain ⟨s,hs,sx,hsx,sl,hsl,sh,hsh,ht⟩:=ht
   split at ht
   ·rename_i hmx
    obtain rfl:mx=none:=by simpa using hmx
    split at ht
    ·cases ht
     have hk':slXE s (ev e sx) (evO e sl) (evO e sh) h K:=hk
     unfold slXE at hk'
     split at hk'
     ·rename_i r sz' i m hp
      obtain ⟨rfl,ob,h1,h2,h3,h4,h5,h6,h7⟩:=hk'
      exact fV (s_slX ho hu hs hsx hsl hsh E H hp h1 h2 h3 h4 h5 h6) h7
     ·exact hk'.elim
    ·cases ht
     exact fV (s_slA ho hu hs hsx hsl hsh E hk.1) hk.2
   ·split at ht
    ·rename_i hhi
     rw [Option.map_eq_some_iff] at ht
     obtain ⟨sm,hsm,rfl⟩:=ht
     have hhs:hi.isSome=true:=by
      cases hi with
      | none=>simp [JX] at hsh;subst hsh;cases hhi
      | some u=>rfl
     have hms:mx.isSome=true:=by
      rename_i hmx _
      cases mx <;> simp_all
     exact fV (s_slM ho hu hs hsx hsl hsh hsm hhs hms E hk.1) hk.2
    ·cases ht
  ·cases ht
 ·rename_i x i ho
  rw [Option.map_eq_some_iff] at ht
  obtain ⟨sx,hsx,rfl⟩:=ht
  exact fV (s_ext ho hsx E hk.1) hk.2
 ·rename_i t parts ho
  split at ht
  ·rename_i fs hu
   split at ht
   ·rename_i hm
    simp only [Option.bind_eq_some_iff,Option.map_eq_some_iff] at ht
    obtain ⟨z,hz,qs,hqs,rfl⟩:=ht
    exact fV (s_bld ho hu hm hz hqs E hk.1) hk.2
   ·cases ht
  ·cases ht
 ·rename_i t m parts ho
  simp only [Option.bind_eq_some_iff] at ht
  obtain ⟨el,hel,s,hs,row,hrow,ht⟩:=ht
  split at ht
  ·rename_i hc
   obtain ⟨hs0,hm,hsm,hz⟩:=hc
   split at ht
   ·cases ht
    have hk':litE el s row e h K:=hk
    exact K5 (s_bldR hel hs hs0 hrow hm hsm hz ho E H (okParts_out hk'.1) hk'.2) (hW rfl)
   ·cases ht
    obtain ⟨v,w',g',hr,S,H',V⟩:=s_bldF hel hs hs0 hrow hm hsm hz ho E H (okParts_out hk.1)
    exact K5 ⟨v,w',g',_,h,.inl hr,S,H',V,hk.2⟩ (hW rfl)
  ·cases ht
 ·rename_i t x ho
  simp only [Option.bind_eq_some_iff] at ht
  obtain ⟨s,hs,ht⟩:=ht
  split at ht
  ·rename_i hs0
   rw [Option.map_eq_some_iff] at ht
   obtain ⟨sx,hsx,ht⟩:=ht
   split at ht
   ·subst ht
    obtain ⟨h1,h2,h3⟩:=hk
    exact K5 (s_box ho hs hs0 hsx E H h1 h2 h3) (hW rfl)
   ·subst ht
    obtain ⟨h1,h2,h3⟩:=hk
    exact K5 (s_boxF ho hsx E H h1 h2 h3) (hW rfl)
  ·cases ht
 ·rename_i t ho
  simp only [Option.bind_eq_some_iff] at ht
  obtain ⟨s,hs,z,hz,ht⟩:=ht
  split at ht
  ·rename_i hc
   cases ht
   exact K5 (s_new ho hs hz hc.1 hc.2 H hk) (hW rfl)
  ·split at ht
   ·cases ht
    exact K5 (s_new0 ho hz H hk.2.2) (hW rfl)
   ·cases ht
 ·rename_i f first captured ho
  simp only [Option.bind_eq_some_iff,Option.map_eq_some_iff] at ht
  obtain ⟨sf,hsf,sc,hsc,rfl⟩:=ht
  exact fV (s_mkf ho hsf hsc E) hk.2
 ·rename_i t x y ho
  simp only [Option.bind_eq_some_iff] at ht
  obtain ⟨el,hel,s,hs,b,hb,z,hz,sx,hsx,sy,hsy,ht⟩:=ht
  split at ht
  ·rename_i hc
   cases ht
   have hk':mksE el s b z (ev e sx) (ev e sy) h K:=hk
   unfold mksE at hk'
   split at hk'
   ·rename_i k1 l k2 c h1 h2
    obtain ⟨h3,h4,h5,h6,h7⟩:=hk'
    exact K5 (s_mks ho hel hs hb hz hc.1 hc.2 hsx hsy E H h1 h2 h3 h4 h5 h6 h7) (hW rfl)
   ·exact hk'.elim
  ·cases ht
 ·rename_i c ho
  unfold toCall at ht
  split at ht
  ·rename_i f hc
   simp only [Option.bind_eq_some_iff] at ht
   obtain ⟨ss,hss,ht⟩:=ht
   split at ht
   ·rename_i k
    have hf:VRel g w (a.eval (.func k)) (.fn k [] []):=J1 E (x:=.func k) rfl
    split at ht
    ·cases ht
     obtain ⟨v,hp,hkk⟩:=hk
     exact call_wp ho hc hf hss E H GR (by simpa using (hp h).mono (K':=K) (by rintro r h' ⟨rfl,rfl⟩;exact hkk)) (hW rfl)
    ·cases ht
     exact call_wp ho hc hf hss E H GR hk (hW rfl)
   ·rename_i t
    split at ht
    case isFalse=>cases ht
    rename_i h6
    cases ht
    have hk':callE P (e t) (ss.map (ev e)) h K:=hk
    unfold callE at hk'
    split at hk'
    ·rename_i k first cap hf
     have hv:=J1 E (x:=.tmp t) (if_pos h6)
     simp only [ev] at hv
     rw [hf] at hv
     exact call_wp ho hc hv hss E H GR hk' (hW rfl)
    ·exact hk'.elim
   ·cases ht
  ·rename_i hc
   split at ht
   ·rename_i x t ha htt
    split at ht
    ·rename_i hu
     rw [Option.map_eq_some_iff] at ht
     obtain ⟨sx,hsx,rfl⟩:=ht
     exact fV (s_lenS ho hc ha htt hu hsx E hk.1) hk.2
    ·rename_i el hu
     rw [Option.map_eq_some_iff] at ht
     obtain ⟨sx,hsx,rfl⟩:=ht
     exact fV (s_len ho hc ha htt hu hsx E hk.1) hk.2
    ·cases ht
   ·cases ht
  ·rename_i hc
   split at ht
   ·rename_i x y ha
    simp only [Option.bind_eq_some_iff,Option.map_eq_some_iff] at ht
    obtain ⟨sx,hsx,sy,hsy,rfl⟩:=ht
    exact fV (s_min2 ho hc ha hsx hsy E hk.1) hk.2
   ·cases ht
  ·rename_i hc
   split at ht
   ·rename_i x y ha
    simp only [Option.bind_eq_some_iff,Option.map_eq_some_iff] at ht
    obtain ⟨sx,hsx,sy,hsy,rfl⟩:=ht
    exact fV (s_max2 ho hc ha hsx hsy E hk.1) hk.2
   ·cases ht
  ·rename_i hc
   split at ht
   ·rename_i x y t u ha htt
    simp only [Option.bind_eq_some_iff] at ht
    obtain ⟨el,hel,s,hs,b,hb,z,hz,sx,hsx,sy,hsy,ht⟩:=ht
    split at ht
    ·rename_i hcc
     split at ht
     ·rename_i htu
      subst htu
      split at ht
      ·cases ht
       obtain ⟨es2,hR,hk'⟩:=hk
       unfold appInE at hk'
       split at hk'
       ·rename_i r sz' i m hp
        obtain ⟨rfl,ob,h1,h2,h3⟩:=hk'
        exact K5 (s_appIn ho hc ha htt hel hs hsx hsy E H hR hp h1 h2 h3) (hW rfl)
       ·exact hk'.elim
      ·split at ht
       ·cases ht
        obtain ⟨es2,hR,hk'⟩:=hk
        have hk2:appE el s b (ev e sx) es2 h (fun r h'=>∃ r' L,r=.osl r' s 0 L.length/\h' r'=some ⟨el,s,L⟩/\K (.slc L) (del h' r')):=by
         unfold appFE at hk'
         split at hk'
         ·rename_i hp
          rw [hp]
          exact ⟨hk'.1,hk'.2.1,fun r hr=>⟨r,es2,rfl,Z9 _ _ _,by rw [del_upd0 hr];exact hk'.2.2⟩⟩
         ·rename_i r sz' i m hp
          rw [hp]
          obtain ⟨h1,ob,h2,h3,h4,h5,h6,h7⟩:=hk'
          refine ⟨h1,ob,h2,h3,h4,h5,h6,fun r' hr'=>⟨r',(ob.es.drop i).take m++es2,?_,Z9 _ _ _,by rw [del_upd0 hr'];exact h7⟩⟩
          congr 1
          simp;omega
         ·exact hk'.elim
        exact K5 (StepW.fz (s_app ho hc ha htt hel hs hb hz hcc.1 hcc.2 hsx hsy E H hR (appE_out hk2)) fun r h' ⟨r',L,e1,e2,e3⟩=>⟨r',⟨el,s,L⟩,s,0,L.length,e1,e2,by simp,by simpa using e3⟩) (hW rfl)
       ·cases ht
        obtain ⟨es2,hR,hk'⟩:=hk
        exact K5 (s_app ho hc ha htt hel hs hb hz hcc.1 hcc.2 hsx hsy E H hR (appE_out hk')) (hW rfl)
     ·split at ht
      ·rename_i hus
       cases ht
       obtain ⟨l,hl,hk'⟩:=hk
       obtain ⟨hu,rfl⟩:=hus
       rcases hk' with ⟨hx0,rfl,hk'⟩ | hk'
       ·exact K5 (s_appS0 ho hc ha htt hel hs hu hsx hsy E H hx0 hl hk') (hW rfl)
       exact K5 (s_appS ho hc ha htt hel hs hb hz hcc.2 hu hsx hsy E H hl (appE_out hk')) (hW rfl)
      ·cases ht
    ·cases ht
   ·cases ht
  ·rename_i hc
   split at ht
   ·rename_i x y t u ha htt
    simp only [Option.bind_eq_some_iff,Option.map_eq_some_iff] at ht
    obtain ⟨el,hel,s,hs,sx,hsx,sy,hsy,rfl⟩:=ht
    obtain ⟨es2,hR,hk'⟩:=hk
    unfold W7 at hk'
    split at hk'
    ·rename_i r sz' i m hp
     obtain ⟨rfl,ob,h1,h2,h3⟩:=hk'
     exact K5 (s_copy ho hc ha htt hel hs hsx hsy E H hR hp h1 h2 h3) (hW rfl)
    ·exact hk'.elim
   ·cases ht
  ·rename_i hc
   split at ht
   ·rename_i x t ha htt
    simp only [Option.bind_eq_some_iff] at ht
    obtain ⟨el,hel,s,hs,z,hz,ht⟩:=ht
    split at ht
    ·rename_i hcc
     rw [Option.map_eq_some_iff] at ht
     obtain ⟨sx,hsx,rfl⟩:=ht
     have hk':clearE s z (ev e sx) h K:=hk
     unfold clearE at hk'
     split at hk'
     ·rename_i r sz' i m hp
      obtain ⟨rfl,ob,h1,h2,h3⟩:=hk'
      exact K5 (s_clear ho hc ha htt hel hs hz hcc.1 hcc.2 hsx E H hp h1 h2 h3) (hW rfl)
     ·exact hk'.elim
    ·cases ht
   ·cases ht
  ·rename_i hc
   split at ht
   ·rename_i x el ha hp
    rw [Option.map_eq_some_iff] at ht
    obtain ⟨sx,hsx,rfl⟩:=ht
    exact K5 (s_usd ho hc ha hp hsx E H hk) (hW rfl)
   ·cases ht
  ·rename_i hc
   split at ht
   ·rename_i x y t u ha htt
    split at ht
    ·rename_i el hp
     split at ht
     ·rename_i hcl
      simp only [Option.bind_eq_some_iff,Option.map_eq_some_iff] at ht
      obtain ⟨sx,hsx,sy,hsy,rfl⟩:=ht
      exact K5 (s_ustr ho hc ha htt hp hcl hsx hsy E H hk) (hW rfl)
     ·cases ht
    ·cases ht
   ·cases ht
  ·cases ht
 ·rename_i t ho
  cases ht
  obtain ⟨g',hr,S,H',V,_⟩:=s_mkm (P:=P) (a:=a) (o:=o) ho H
  exact K5 ⟨_,_,g',_,_,.inl hr,S,H',V,hk _ H.none_nxt⟩ (hW rfl)
 ·rename_i t m k v ho
  simp only [Option.bind_eq_some_iff,Option.map_eq_some_iff] at ht
  obtain ⟨q,hq,kt,hkt,sm,hsm,sk,hsk,sv,hsv,rfl⟩:=ht
  cases hnm
 ·rename_i t x ho
  split at ht
  ·rename_i hst
   rw [Option.map_eq_some_iff] at ht
   obtain ⟨sx,hsx,rfl⟩:=ht
   have hk':rngE (ev e sx) h K:=hk
   unfold rngE at hk'
   split at hk'
   ·rename_i l hl
    obtain ⟨w',g',hr,S,H',V,_⟩:=s_rng ho (isStrT_out hst) hsx E hl H
    exact K5 ⟨_,_,g',_,_,.inl hr,S,H',V,hk' _ H.none_nxt⟩ (hW rfl)
   ·exact hk'.elim
  ·cases ht
 ·rename_i x ho
  rw [Option.map_eq_some_iff] at ht
  obtain ⟨sx,hsx,rfl⟩:=ht
  cases hnm
 ·rename_i t m k ok ho
  simp only [Option.bind_eq_some_iff,Option.map_eq_some_iff] at ht
  obtain ⟨q,hq,kt,hkt,z,hz,sm,hsm,sk,hsk,rfl⟩:=ht
  exact fV (s_lkp ho hq hkt hz hsm hsk E H hk.1) hk.2
 ·cases ht
end
end Go.Sim
end
section
namespace Go.Sim
open Go
structure SOp where
 dst:Option Nat
 si:SI
 guard:Option (Nat×Bool)
inductive SExit | normal | exit (id:Nat) | ret | goto (l:Nat)
inductive SCode:Type
 | skip
 | reg (ops:List SOp)
 | dreg (ops:List (SOp×Option (List Nat)))
 | seq (a b:SCode)
 | cond (x:SX) (a b:SCode)
 | block (id:Nat) (c:SCode)
 | loop (c:SCode)
 | exit (id:Nat)
 | ret
 | range (f:SX) (ps:List Nat) (asg body:SCode)
 | goto (l:Nat)
 | label (l:Nat)
 | scope (l:Nat) (c rest:SCode)
def JY (v:AVal) (b:Bool):Option Bool:=
 match v with
 | .bool t=>some (t==b)
 | .tup _=>some false
 | _=>none
def WZ (v:AVal) (b:Bool) (ok:Prop) (k:Prop):Prop:=
 match JY v b with
 | some t=>(t=true->ok)/\k
 | none=>False
def gateV (v:AVal) (b:Bool) (r:AVal):AVal:=
 match JY v b with
 | some t=>if t=true then r else .tup []
 | none=>.tup []
def gateE (v:AVal) (b:Bool) (k1 k2:Prop):Prop:=
 match JY v b with
 | some t=>(t=true->k1)/\(t=false->k2)
 | none=>False
def vcG (P:PG) (s:Nat) (b:Bool) (si:SI) (e:Env) (h:Z2) (K:AVal->Z2->Prop):Prop:=
 match si with
 | .pcall f args=>∃ v,WZ (e s) b (PCalls P f (args.map (ev e)) v) (K (gateV (e s) b v) h)
 | si=>if si.gated=true then WZ (e s) b (fok si e h) (K (gateV (e s) b (fop si e h)) h)
   else gateE (e s) b (vcI P si e h K) (K (.tup []) h)
def vcV (P:PG) (op:SOp) (e:Env) (h:Z2) (K:AVal->Z2->Prop):Prop:=
 match op with
 | ⟨_,si,none⟩=>vcI P si e h K
 | ⟨_,si,some (s,b)⟩=>vcG P s b si e h K
def vcOp (P:PG) (op:SOp) (e:Env) (h:Z2) (K:Env->Z2->Prop):Prop:=
 vcV P op e h fun r h'=>K (V3 e op.dst r) h'
def vcOps (P:PG):List SOp->Env->Z2->(Env->Z2->Prop)->Prop
 | [],e,h,K=>K e h
 | op :: r,e,h,K=>vcOp P op e h fun e' h'=>vcOps P r e' h' K
def SX.rd:SX->List Nat
 | .t n=>[n]
 | .c _=>[]
def rdO:Option SX->List Nat
 | some x=>x.rd
 | none=>[]
def rdL:List SX->List Nat
 | []=>[]
 | x :: r=>x.rd++rdL r
def rdP:List (Nat×Nat×SX)->List Nat
 | []=>[]
 | p :: r=>p.2.2.rd++rdP r
def SI.rd:SI->List Nat
 | .mv x=>x.rd
 | .pick c a b=>c.rd++(a.rd++b.rd)
 | .bin _ x y=>x.rd++y.rd
 | .eqs _ _ x y=>x.rd++y.rd
 | .eqb _ x y=>x.rd++y.rd
 | .un _ x=>x.rd
 | .cvi _ x=>x.rd
 | .r2s x=>x.rd
 | .idc x=>x.rd
 | .fld _ _ _ x=>x.rd
 | .fldA _ x=>x.rd
 | .idxA _ x i=>x.rd++i.rd
 | .idxG _ x i=>x.rd++i.rd
 | .idxS x i=>x.rd++i.rd
 | .ld _ _ x=>x.rd
 | .ldm s _ _ x=>s :: x.rd
 | .slS x lo hi=>x.rd++(rdO lo++rdO hi)
 | .slA _ x lo hi=>x.rd++(rdO lo++rdO hi)
 | .slM _ x lo hi mx=>x.rd++(rdO lo++(rdO hi++rdO mx))
 | .ext x _=>x.rd
 | .bld _ parts=>rdP parts
 | .bldF _ _ parts=>rdL parts
 | .len x=>x.rd
 | .lenS x=>x.rd
 | .min2 x y=>x.rd++y.rd
 | .max2 x y=>x.rd++y.rd
 | .mkf _ a b=>rdL a++rdL b
 | .isnil _ _ x=>x.rd
 | .bldR _ _ parts=>rdL parts
 | .box _ _ x=>x.rd
 | .boxF _ _ x=>x.rd
 | .new _ _ _=>[]
 | .newnil _ _=>[]
 | .st _ x v=>x.rd++v.rd
 | .app _ _ _ x y=>x.rd++y.rd
 | .appS _ _ x y=>x.rd++y.rd
 | .appIn _ _ x y=>x.rd++y.rd
 | .appF _ _ _ x y=>x.rd++y.rd
 | .frz x=>x.rd
 | .slX _ x lo hi=>x.rd++(rdO lo++rdO hi)
 | .mks _ _ _ _ n c=>n.rd++c.rd
 | .copy _ x y=>x.rd++y.rd
 | .clear _ _ x=>x.rd
 | .call f args=>f.rd++rdL args
 | .pcall _ args=>rdL args
 | .b2s x=>x.rd
 | .usd x=>x.rd
 | .ustr _ x y=>x.rd++y.rd
 | .mkm _=>[]
 | .mup _ m k v=>m.rd++(k.rd++v.rd)
 | .lkp _ _ _ m k=>m.rd++k.rd
 | .s2b _ x=>x.rd
 | .rng x=>x.rd
 | .nxt x=>x.rd
def SOp.rd (op:SOp):List Nat:=op.si.rd++(match op.guard with | some (s,_)=>[s] | none=>[])
def Q9 (si:SI) (e:Env):List Nat:=
 match si with
 | .ldm _ _ _ x=>match deVp (ev e x) with
   | .ptr r _ _=>[r]
   | _=>[]
 | .ld _ _ x=>match deVp (ev e x) with
   | .ptr r _ _=>[r]
   | _=>[]
 | .lkp _ _ _ m _=>match ev e m with
   | .mpr r=>[r]
   | _=>[]
 | _=>[]
def Q6 (op:SOp) (e:Env):List Nat:=Q9 op.si e
def Z3 (op:SOp) (e:Env):List (Nat×Nat):=(Q6 op e).map fun t=>(op.dst.getD 0,t)
def keepR (rd:List Nat) (rs:List (Nat×Nat)) (h h':Z2):Prop:=∀ p∈rs,rd.contains p.1=false->h' p.2=h p.2
def dropR (rd:List Nat) (rs:List (Nat×Nat)):List (Nat×Nat):=rs.filter fun p=>!rd.contains p.1
def vcD (P:PG):List (SOp×Option (List Nat))->List (Nat×Nat)->Env->Z2->(Env->Z2->Prop)->Prop
 | [],_,e,h,K=>K e h
 | (op,none) :: r,rs,e,h,K=>vcOp P op e h fun e' h'=>vcD P r (Z3 op e++rs) e' h' K
 | (op,some an) :: r,rs,e,h,K=>vcOp P op e h fun e' h'=>keepR (op.rd++an) rs h h'/\vcD P r (dropR (op.rd++an) rs) e' h' K
def condOn (v:AVal) (A B:Prop):Prop:=
 match v with
 | .bool t=>(t=true->A)/\(t=false->B)
 | _=>False
def WW (N:Env->Z2->Prop) (Q:SExit->Env->Z2->Prop):SExit->Env->Z2->Prop
 | .normal,e,h=>N e h
 | x,e,h=>Q x e h
def TU (id:Nat) (Q:SExit->Env->Z2->Prop):SExit->Env->Z2->Prop
 | .exit j,e,h=>if j=id then Q .normal e h else Q (.exit j) e h
 | x,e,h=>Q x e h
def LoopVC (body:(SExit->Env->Z2->Prop)->Env->Z2->Prop) (Q:SExit->Env->Z2->Prop) (e:Env) (h:Z2):Prop:=
 ∃ I:Nat->Env->Z2->Prop,(∃ m,I m e h) /\ ∀ m e h,I m e h->body (WW (fun e' h'=>∃ m',m'<m/\I m' e' h') Q) e h
def IterV (P:PG) (k:Nat) (cap:List AVal) {X:Type} (enc:X->List AVal) (xs:List X) (N:Nat):Prop:=
 Callable P.p k /\ ∀ (g:Ghost) (w:World) (cs:Array Value),(∀ b,g.fz b->b<w.heap.size)->GRel P.gl g w->VRelL g w cs cap ->
  SeqStopsK Fence.wide 1 P.p k cs (fun p:{ p:X×Array Value // VRelL g w p.2 (enc p.1) }=>p.1.2) (fun W W'=>∀ b,g.fz b->W'.heap[b]? = W.heap[b]?)
   (fun l=>l.map (fun p=>p.1.1)=xs) (fun l=>l.map (fun p=>p.1.1) <+: xs) N w
def setPs (e:Env):List Nat->List AVal->Env
 | p :: ps,v :: vs=>setPs (upd e p v) ps vs
 | _,_=>e
def roundK {X:Type} (I:List X->Z2->Prop) (Ix:SExit->List X->Z2->Prop) (pre:List X):SExit->Env->Z2->Prop
 | .normal,_,h=>I pre h
 | .goto _,_,_=>False
 | ex,_,h=>Ix ex pre h
def Strp (h:Z2) (J:Z2->Prop):Prop:=∀ h' h'',J h'->(∀ r o,h'' r=some o->h' r=some o)->(∀ r o,h' r=some o->o.ty.isM=false\/h r=some o->h'' r=some o)->J h''
def StrpM (h:Z2) (J:Z2->Prop):Prop:=∀ h' h'',J h'->(∀ r o,h'' r=some o->h' r=some o)->(∀ r o,h' r=some o->o.ty.isM=false\/h r=some o->h'' r=some o)->(∀ r o o',h' r=some o->h r=some o'->o'.ty.isM=true->h'' r=some o)->J h''
theorem Strp.toM {h:Z2} {J:Z2->Prop} (s:Strp h J):StrpM h J:=fun h' h'' j a b _=>s h' h'' j a b
def RangeV0 (P:PG) (f:SX) (ps:List Nat) (va vb:(SExit->Env->Z2->Prop)->Env->Z2->Prop) (Q:SExit->Env->Z2->Prop) (e:Env) (h:Z2):Prop:=
 ∃ (X:Type) (enc:X->List AVal) (xs:List X) (N k:Nat) (cap:List AVal),ev e f=.fn k [] cap/\IterV P k cap enc xs N/\(∀ x,(enc x).length=ps.length) /\
   ∃ (I:List X->Z2->Prop) (Ix:SExit->List X->Z2->Prop),((∀ pre,StrpM h (I pre)) /\ ∀ ex pre,StrpM h (Ix ex pre))/\I [] h/\(∀ pre x h',I pre h'->pre.length<N->va (WW (vb (roundK I Ix (pre++[x]))) fun _ _ _=>False) (setPs e ps (enc x)) h') /\
     (∀ h',I xs h'->Q .normal e h')/\(∀ ex pre h',ex≠.normal->pre <+: xs->Ix ex pre h'->Q ex e h')
def Ghost.cut (g:Ghost) (m:Nat):Ghost:={ g with fz:=fun b=>g.fz b/\b<m,tn:=fun _=>False }
def wcut (w:World) (m:Nat):World:={ w with heap:=w.heap.extract 0 m }
abbrev Bdy:=List AVal->Z2->(SExit->Z2->Prop)->Prop
abbrev ITr:=Bdy->Z2->(Option SExit->Z2->Prop)->Prop
abbrev Inv:=Option SExit->Z2->Ghost->World->Prop
structure InvOK (P:PG) (l m:Nat) (Z:Inv):Prop where
 H:∀ {s h g W},Z s h g W->HRel h g W
 sz:∀ {s h g W},Z s h g W->m<=W.heap.size
 fz:∀ {s h g W},Z s h g W -> ∀ b,g.fz b->b<m\/¬ V8 W b
 G:∀ {s h g W},Z s h g W->GRel P.gl (g.cut m) (wcut W m)
 step:∀ {s h g W h' g' W'},Z s h g W->HRel h' g' W'->GS (g.cut m) (wcut W m) g' W'->Z s h' g' W'
def YPost (m:Nat) (Z:Inv) (K:SExit->Z2->Prop) (g:Ghost) (W:World) (e:Ending) (W':World):Prop:=
 ∃ s' h' g',Z s' h' g' W'/\GStep g W g' W'/\(∀ b o,m<=b->W.heap[b]? = some o->o.isCells=false->W'.heap[b]? = some o)/\(∀ b,g'.fz b->g.fz b\/¬ V8 W' b)/\(∀ b,b<W.heap.size->Own g' b->Own g b) /\
   ((e=.returned (.bool true)/\s'=none/\K .normal h')\/(e=.returned (.bool false) /\ ∃ ex,s'=some ex/\K ex h'/\ex≠.normal))
structure IterS (P:PG) (k:Nat) (cap:List AVal) (IT:ITr):Prop where
 call:Callable P.p k
 run:∀ (l m:Nat) (B:Bdy) (Z:Inv),l<m->InvOK P l m Z ->
  (∀ h g W args vals K,Z none h g W->VRelL g W vals args->B args h K->YieldAt Fence.wide 0 P.p l vals W (YPost m Z K g W)) ->
  ∀ h g W cs Q,Z none h g W->VRelL g W cs cap->IT B h Q->CallsIn Fence.wide 1 P.p k (#[.func (.yield l) #[] #[]]++cs) W fun e W'=>(∃ v,e=.returned v) /\ ∃ s' h' g',Q s' h'/\Z s' h' g' W'
def ngK (K:SExit->Z2->Prop):SExit->Env->Z2->Prop
 | .goto _,_,_=>False
 | x,_,h=>K x h
def bdy (ps:List Nat) (va vb:(SExit->Env->Z2->Prop)->Env->Z2->Prop) (e:Env):Bdy:=fun args h K=>args.length=ps.length/\va (WW (vb (ngK K)) fun _ _ _=>False) (setPs e ps args) h
def doneK (Q:SExit->Env->Z2->Prop) (e:Env):Option SExit->Z2->Prop
 | none,h=>Q .normal e h
 | some x,h=>Q x e h
def RangeI (P:PG) (f:SX) (ps:List Nat) (va vb:(SExit->Env->Z2->Prop)->Env->Z2->Prop) (Q:SExit->Env->Z2->Prop) (e:Env) (h:Z2):Prop:=
 ∃ (k:Nat) (cap:List AVal) (IT:ITr),ev e f=.fn k [] cap/\IterS P k cap IT/\IT (bdy ps va vb e) h (doneK Q e)
def RangeVC (P:PG) (f:SX) (ps:List Nat) (va vb:(SExit->Env->Z2->Prop)->Env->Z2->Prop) (Q:SExit->Env->Z2->Prop) (e:Env) (h:Z2):Prop:=RangeV0 P f ps va vb Q e h\/RangeI P f ps va vb Q e h
def gotoK (l:Nat) (N:Env->Z2->Prop) (Q:SExit->Env->Z2->Prop):SExit->Env->Z2->Prop
 | .goto j,e,h=>j=l/\N e h
 | x,e,h=>Q x e h
def noGoK (Q:SExit->Env->Z2->Prop):SExit->Env->Z2->Prop
 | .goto _,_,_=>False
 | x,e,h=>Q x e h
def vc (P:PG):SCode->(SExit->Env->Z2->Prop)->Env->Z2->Prop
 | .skip,Q,e,h=>Q .normal e h
 | .reg ops,Q,e,h=>vcOps P ops e h (Q .normal)
 | .dreg ops,Q,e,h=>vcD P ops [] e h (Q .normal)
 | .seq a b,Q,e,h=>vc P a (WW (vc P b Q) Q) e h
 | .cond x a b,Q,e,h=>condOn (ev e x) (vc P a Q e h) (vc P b Q e h)
 | .block id c,Q,e,h=>vc P c (TU id Q) e h
 | .loop c,Q,e,h=>LoopVC (vc P c) Q e h
 | .exit id,Q,e,h=>Q (.exit id) e h
 | .ret,Q,e,h=>Q .ret e h
 | .range f ps a b,Q,e,h=>RangeVC P f ps (vc P a) (vc P b) Q e h
 | .goto l,Q,e,h=>Q (.goto l) e h
 | .label _,Q,e,h=>Q .normal e h
 | .scope l c r,Q,e,h=>vc P c (gotoK l (vc P r (noGoK Q)) Q) e h
def mpOK (ann:Ann) (dst:Option Nat) (si:SI) (guard:Bool):Bool:=
 (match dst with
  | some d=>!ann.mp.contains d||(match si with
    | .mkm _=>!ann.mp.contains 1000000
    | .rng _=>!ann.mp.contains 1000000
    | .mv (.t s)=>ann.mp.contains s&&decide (s<1000000)
    | .mv (.c (.prim _))=>true
    | .ldm s _ _ _=>ann.mp.contains s&&decide (s<1000000)
    | _=>false)
  | none=>true) &&
 (match si with
  | .mup _ (.t s) _ _=>ann.mp.contains s&&decide (s<1000000) && !guard
  | .mup _ _ _ _=>false
  | .nxt (.t s)=>ann.mp.contains s&&decide (s<1000000) && !guard
  | .nxt _=>false
  | _=>true)
def dstOK (n:Nat):Option Nat->Bool
 | some d=>decide (d<n)
 | none=>true
def XK (P:Program) (ann:Ann) (n:Nat) (ops:Array Oper) (o:Oper):Option SOp:=
 (toSI P ann o).bind fun si=>
   if dstOK n o.dst/\mpOK ann o.dst si o.guard.isSome=true then
    match o.guard with
    | none=>some ⟨o.dst,si,none⟩
    | some (j,b)=>(ops[j]?.bind (·.dst)).bind fun s=>if s<1000000 then some ⟨o.dst,si,some (s,b)⟩ else none
   else none
def YT (P:Program) (ann:Ann) (n:Nat) (ops:Array Oper):List Oper->Option (List SOp)
 | []=>some []
 | o :: r=>(XK P ann n ops o).bind fun s=>(YT P ann n ops r).map (s :: ·)
section
variable {P:PG} {a:Act} {w:World} {g:Ghost} {h:Z2} {n:Nat} {e:Env}
def MK (ms:List Nat) (w0:World) (a:Act):Prop:=ms.contains 1000000=false -> ∀ d∈a.defers,∀ D,d.target=.collected D->w0.heap.size<=D
theorem put_defers (a:Act) (d:Option Nat) (v:Value):(a.put d v).defers=a.defers:=by cases d <;> rfl
theorem MK.put {ms:List Nat} {w0:World} {a:Act} (h:MK ms w0 a) (d:Option Nat) (v:Value):MK ms w0 (a.put d v):=by unfold MK;rw [put_defers];exact h
def isMR (x:AVal) (r:Nat):Prop:=x=.mpr r\/x=.ptr r 0 0
def MO (ms:List Nat) (g0:Ghost) (w0:World) (e:Env) (g:Ghost) (w:World):Prop:=∀ t,t<1000000->ms.contains t=true -> ∀ r,isMR (e t) r->((ms.contains 1000000=false/\w0.heap.size<=g.eta r)\/g0.tn (g.eta r))/\g.eta r<w.heap.size
theorem MK.body {ms:List Nat} {w0:World} {a:Act}:MK (1000000 :: ms) w0 a:=fun h=>by simp at h
theorem MO.nil {g0:Ghost} {w0 w:World} {e:Env} {g:Ghost}:MO [] g0 w0 e g w:=fun t _ h=>by simp at h
theorem MO.step {ms:List Nat} {g0:Ghost} {w0:World} {e:Env} {g g':Ghost} {w w':World} {n:Nat} {a:Act} (h:MO ms g0 w0 e g w) (E:ERel n e g w a) (S:GStep g w g' w'):MO ms g0 w0 e g' w':=fun t h6 ht r hr=>by
 have hv:=E.slot t h6
 have hlt:r<g.nxt:=by
  rcases hr with hr | hr <;> rw [hr] at hv
  ·exact hv.mpr_inv.1
  ·exact hv.ptr_inv.1
 rw [S.eta r hlt]
 exact ⟨(h t h6 ht r hr).1,Nat.lt_of_lt_of_le (h t h6 ht r hr).2 S.size⟩
theorem MO.grow {ms:List Nat} {g0:Ghost} {w0 w w':World} {e:Env} {g:Ghost} (h:MO ms g0 w0 e g w) (hs:w.heap.size<=w'.heap.size):MO ms g0 w0 e g w':=fun t h6 ht r hr=>⟨(h t h6 ht r hr).1,Nat.lt_of_lt_of_le (h t h6 ht r hr).2 hs⟩
theorem MO.put {ms:List Nat} {g0:Ghost} {w0 w:World} {e:Env} {g:Ghost} (h:MO ms g0 w0 e g w) {dst:Option Nat} {x:AVal} (hx:∀ d,dst=some d->ms.contains d=true -> ∀ r,isMR x r->((ms.contains 1000000=false/\w0.heap.size<=g.eta r)\/g0.tn (g.eta r))/\g.eta r<w.heap.size):MO ms g0 w0 (V3 e dst x) g w:=fun t h6 ht r hr=>by
 cases dst with
 | none=>exact h t h6 ht r hr
 | some d=>
   simp only [V3,upd] at hr
   split at hr
   ·rename_i e1;subst e1;exact hx _ rfl ht r hr
   ·exact h t h6 ht r hr
structure St (ms:List Nat) (n:Nat) (g0:Ghost) (w0:World) (e:Env) (h:Z2) (g:Ghost) (a:Act) (w:World):Prop where
 E:ERel n e g w a
 H:HRel h g w
 S:GSh g0 w0 g w
 M:MK ms w0 a
 O:MO ms g0 w0 e g w
def Lift (ms:List Nat) (n:Nat) (g0:Ghost) (w0:World) (K:Env->Z2->Prop) (a:Act) (w:World):Prop:=∃ e h g,K e h/\St ms n g0 w0 e h g a w
theorem yielded_bool {ops:Array Oper} {tmps:Array Value} {j s:Nat} {t:Bool} (hj:ops[j]?.bind (·.dst)=some s) (hv:tmps.getD s undef=.bool t):yielded ops tmps j=some t:=by
 unfold yielded
 rw [hj]
 simp only [Option.bind_some]
 rw [Array.getD_eq_getD_getElem?] at hv
 cases hs:tmps[s]? with
 | none=>rw [hs] at hv;simp [undef] at hv
 | some v=>rw [hs] at hv;simp at hv;subst hv;rfl
theorem QZ {v:AVal} {b:Bool} {ok k:Prop} (hk:WZ v b ok k):∃ t,JY v b=some t/\(t=true->ok)/\k:=by
 unfold WZ at hk
 split at hk
 ·rename_i t ht;exact ⟨t,ht,hk⟩
 ·exact hk.elim
theorem WQ {v:AVal} {b:Bool} {k1 k2:Prop} (hk:gateE v b k1 k2):∃ t,JY v b=some t/\(t=true->k1)/\(t=false->k2):=by
 unfold gateE at hk
 split at hk
 ·rename_i t ht;exact ⟨t,ht,hk⟩
 ·exact hk.elim
theorem UQ {v:AVal} {b t:Bool} {ok k:Prop} (hw:JY v b=some t):WZ v b ok k=((t=true->ok)/\k):=by unfold WZ;rw [hw]
theorem gateE_w {v:AVal} {b t:Bool} {k1 k2:Prop} (hw:JY v b=some t):gateE v b k1 k2=((t=true->k1)/\(t=false->k2)):=by unfold gateE;rw [hw]
theorem gateV_w {v:AVal} {b t:Bool} {r:AVal} (hw:JY v b=some t):gateV v b r=if t=true then r else .tup []:=by unfold gateV;rw [hw]
theorem want_off {ops:Array Oper} {tmps:Array Value} {j s:Nat} {b:Bool} {v:AVal} (hj:ops[j]?.bind (·.dst)=some s) (hv:VRel g w (tmps.getD s undef) v) (hw:JY v b=some false):yielded ops tmps j≠some b:=by
 unfold JY at hw
 split at hw
 ·rename_i t
  rw [yielded_bool hj hv.bool_inv]
  intro h;cases h;simp at hw
 ·obtain ⟨vs,he,_⟩:=hv.tup_inv
  unfold yielded
  rw [hj]
  simp only [Option.bind_some]
  rw [Array.getD_eq_getD_getElem?] at he
  cases hs:tmps[s]? with
  | none=>simp
  | some v=>rw [hs] at he;simp at he;subst he;simp
 ·cases hw
theorem want_on {ops:Array Oper} {tmps:Array Value} {j s:Nat} {b:Bool} {v:AVal} (hj:ops[j]?.bind (·.dst)=some s) (hv:VRel g w (tmps.getD s undef) v) (hw:JY v b=some true):yielded ops tmps j=some b:=by
 unfold JY at hw
 split at hw
 ·rename_i t
  rw [yielded_bool hj hv.bool_inv]
  simpa using hw
 ·cases hw
 ·cases hw
theorem dstOK_out {d:Option Nat} (hd:dstOK n d=true):∀ x,d=some x->x<n:=by
 intro x hx;subst hx;simpa [dstOK] using hd
theorem stable_vcI {si:SI} (hs:si.gated=true) {K:AVal->Z2->Prop} (h1:fok si e h) (h2:K (fop si e h) h):vcI P si e h K:=by
 cases si <;> first | (cases hs;done) | exact ⟨h1,h2⟩
theorem toSI_mkm {ann:Ann} {o:Oper} {ty:Nat} (h:toSI P.p ann o=some (.mkm ty)):o.op=.makeMap ty none:=by
 unfold toSI toMv toBin toCv toCall at h
 repeat' split at h
 all_goals first
  | (cases h;assumption)
  | (simp at h;done)
  | (exfalso;simp only [Option.bind_eq_some_iff,Option.map_eq_some_iff] at h;revert h;simp;done)
  | (exfalso;simp only [Option.bind_eq_some_iff] at h;obtain ⟨_,_,_,_,h⟩:=h; (repeat' split at h) <;> (cases h;done))
  | skip
theorem toSI_mup {ann:Ann} {o:Oper} {kt:Option IntKind} {sm sk sv:SX} (h:toSI P.p ann o=some (.mup kt sm sk sv)):∃ t m k v q,o.op=.mapUpdate t m k v/\mapT P.p t=some q/\keyT P.p q.1=some kt/\Y5 m=some sm/\Y5 k=some sk/\Y5 v=some sv:=by
 unfold toSI toMv toBin toCv toCall at h
 repeat' split at h
 all_goals first
  | (simp at h;done)
  | (exfalso;simp only [Option.bind_eq_some_iff,Option.map_eq_some_iff] at h;revert h;simp;done)
  | (exfalso;simp only [Option.bind_eq_some_iff] at h;obtain ⟨_,_,_,_,h⟩:=h; (repeat' split at h) <;> (cases h;done))
  | skip
 all_goals
  simp only [Option.bind_eq_some_iff,Option.map_eq_some_iff] at h
  obtain ⟨q,hq,kt',hkt,sm',hsm,sk',hsk,sv',hsv,hh⟩:=h
  cases hh
  exact ⟨_,_,_,_,q,by assumption,hq,hkt,hsm,hsk,hsv⟩
theorem toSI_rng {ann:Ann} {o:Oper} {sx:SX} (h:toSI P.p ann o=some (.rng sx)):∃ t x,o.op=.range t x/\isStrT P.p t=true/\Y5 x=some sx:=by
 unfold toSI toMv toBin toCv toCall at h
 repeat' split at h
 all_goals first
  | (simp at h;done)
  | (exfalso;simp only [Option.bind_eq_some_iff,Option.map_eq_some_iff] at h;revert h;simp;done)
  | (exfalso;simp only [Option.bind_eq_some_iff] at h;obtain ⟨_,_,_,_,h⟩:=h; (repeat' split at h) <;> (cases h;done))
  | skip
 all_goals
  simp only [Option.map_eq_some_iff] at h
  obtain ⟨sx',hsx,hh⟩:=h
  cases hh
  exact ⟨_,_,by assumption,by assumption,hsx⟩
theorem toSI_nxt {ann:Ann} {o:Oper} {sx:SX} (h:toSI P.p ann o=some (.nxt sx)):∃ x,o.op=.next x true/\Y5 x=some sx:=by
 unfold toSI toMv toBin toCv toCall at h
 repeat' split at h
 all_goals first
  | (simp at h;done)
  | (exfalso;simp only [Option.bind_eq_some_iff,Option.map_eq_some_iff] at h;revert h;simp;done)
  | (exfalso;simp only [Option.bind_eq_some_iff] at h;obtain ⟨_,_,_,_,h⟩:=h; (repeat' split at h) <;> (cases h;done))
  | skip
 all_goals
  simp only [Option.map_eq_some_iff] at h
  obtain ⟨sx',hsx,hh⟩:=h
  cases hh
  exact ⟨_,by assumption,hsx⟩
theorem vcOp_soundS {ann:Ann} {ops:Array Oper} {o:Oper} {op:SOp} (ht:XK P ann n ops o=some op) (hnm:op.si.isMup=false) {K:Env->Z2->Prop} (hk:vcOp P op e h K) {g0:Ghost} {w0:World} (GR:GRel P.gl g0 w0) (T:St ann.mp n g0 w0 e h g a w)
 {next:Act->World->Prop} {Q:Exit->Act->World->Prop} (hn:∀ a' w',(∃ e' h' g' v,K e' h'/\St ann.mp n g0 w0 e' h' g' a' w'/\GS g w g' w'/\a'=a.put o.dst v)->next a' w') :
 if Region.wanted o (yielded ops a.tmps) then o.wp P a w next Q\/(o.asks P a w/\LetsOut Q) else next (a.put o.dst undef) w:=by
 unfold XK at ht
 simp only [Option.bind_eq_some_iff] at ht
 obtain ⟨si,hsi,ht⟩:=ht
 split at ht
 ·rename_i hd
  obtain ⟨hd,hmp⟩:=hd
  have hd:=dstOK_out hd
  have run:∀ {K':AVal->Z2->Prop},si.isMup=false->vcI P si e h K'->(∀ r h',K' r h'->K (V3 e o.dst r) h')->o.wp P a w next Q:=by
   intro K' hm hv hK'
   have fin:∀ v w' g' r h',GS g w g' w'->HRel h' g' w'->VRel g' w' v r->K' r h'->(∀ d,o.dst=some d->ann.mp.contains d=true -> ∀ x,isMR r x->((ann.mp.contains 1000000=false/\w0.heap.size<=g'.eta x)\/g0.tn (g'.eta x))/\g'.eta x<w'.heap.size)->next (a.put o.dst v) w':=fun v w' g' r h' S' H' V' k' hO=>
    hn _ _ ⟨_,h',g',v,hK' r h' k',⟨(T.E.step S').put hd V',H',T.S.trans S',T.M.put _ _,(T.O.step T.E S'.toGStep).put hO⟩,S',rfl⟩
   by_cases hc:∃ d,o.dst=some d/\ann.mp.contains d=true
   ·obtain ⟨d,hod,hdm⟩:=hc
    unfold mpOK at hmp
    rw [hod] at hmp
    simp only [hdm,Bool.not_true,Bool.false_or,Bool.and_eq_true] at hmp
    obtain ⟨hmp,hmp2⟩:=hmp
    clear hmp2
    split at hmp
    ·rename_i ty
     have ho:=toSI_mkm hsi
     obtain ⟨g',hr,S',H',V',en⟩:=s_mkm (P:=P.p) (a:=a) (o:=o) ho T.H
     unfold Oper.wp
     rw [hr]
     refine fin _ _ g' _ _ S' H' V' ((show ∀ r,h r=none->K' (.mpr r) (upd h r (some ⟨.m ty [],1,[]⟩)) from hv) _ T.H.none_nxt) fun _ _ _ x hx=>?_
     rcases hx with hx | hx <;> cases hx
     exact ⟨by rw [en];exact .inl ⟨by simpa using hmp,T.S.size⟩,by obtain ⟨o1,hb1,_⟩:=(H'.mob.one g.nxt _ _ ⟨_,_,Z9 _ _ _⟩).block;exact (Array.getElem?_eq_some_iff.1 hb1).1⟩
    ·rename_i sx
     obtain ⟨t,x,ho,hst,hsx⟩:=toSI_rng hsi
     have hv':rngE (ev e sx) h K':=hv
     unfold rngE at hv'
     split at hv'
     ·rename_i l hl
      obtain ⟨w',g',hr,S',H',V',en⟩:=s_rng ho (isStrT_out hst) hsx T.E hl T.H
      unfold Oper.wp
      rw [hr]
      refine fin _ _ g' _ _ S' H' V' (hv' _ T.H.none_nxt) fun _ _ _ x hx=>?_
      rcases hx with hx | hx <;> cases hx
      exact ⟨by rw [en];exact .inl ⟨by simpa using hmp,T.S.size⟩,by obtain ⟨o1,hb1,_⟩:=(H'.mob.one g.nxt _ _ ⟨_,_,Z9 _ _ _⟩).block;exact (Array.getElem?_eq_some_iff.1 hb1).1⟩
     ·exact hv'.elim
    ·rename_i s
     refine TQ (K:=fun r h'=>(r=e s/\h'=h)/\K' r h') hsi hm ⟨trivial,⟨rfl,rfl⟩,hv.2⟩ T.E T.H (GR.step T.S) fun v w' g' r h' S' H' V' k' _=>fin v w' g' r h' S' H' V' k'.2 fun _ _ _ x hx=>?_
     simp only [Bool.and_eq_true,decide_eq_true_eq] at hmp
     exact (T.O.step T.E S'.toGStep) s hmp.2 hmp.1 x (by rw [<-k'.1.1];exact hx)
    ·rename_i v0
     refine TQ (K:=fun r h'=>(r=.prim v0/\h'=h)/\K' r h') hsi hm ⟨trivial,⟨rfl,rfl⟩,hv.2⟩ T.E T.H (GR.step T.S) fun v w' g' r h' S' H' V' k' _=>fin v w' g' r h' S' H' V' k'.2 fun _ _ _ x hx=>?_
     rcases hx with hx | hx <;> (rw [k'.1.1] at hx;cases hx)
    ·rename_i s size agg x
     refine TQ (K:=fun r h'=>(r=e s/\h'=h)/\K' r h') hsi hm ⟨hv.1,⟨hv.1.2,rfl⟩,hv.2⟩ T.E T.H (GR.step T.S) fun v w' g' r h' S' H' V' k' _=>fin v w' g' r h' S' H' V' k'.2 fun _ _ _ x hx=>?_
     simp only [Bool.and_eq_true,decide_eq_true_eq] at hmp
     exact (T.O.step T.E S'.toGStep) s hmp.2 hmp.1 x (by rw [<-k'.1.1];exact hx)
    ·cases hmp
   ·exact TQ hsi hm hv T.E T.H (GR.step T.S) fun v w' g' r h' S' H' V' k' _=>fin v w' g' r h' S' H' V' k' fun d hod hdm=>absurd ⟨d,hod,hdm⟩ hc
  split at ht
  ·rename_i hg
   cases ht
   have hw:Region.wanted o (yielded ops a.tmps)=true:=by simp [Region.wanted,hg]
   rw [if_pos hw]
   exact .inl (run hnm hk fun _ _ k=>k)
  ·rename_i j b hg
   rw [Option.bind_eq_some_iff] at ht
   obtain ⟨s,hs,ht⟩:=ht
   split at ht
   case isFalse=>cases ht
   rename_i h6
   cases ht
   have skip:JY (e s) b=some false->K (V3 e o.dst (.tup [])) h->(if Region.wanted o (yielded ops a.tmps) then o.wp P a w next Q\/(o.asks P a w/\LetsOut Q) else next (a.put o.dst undef) w):=by
    intro het hK
    have hy:=want_off hs (T.E.slot s h6) het
    rw [if_neg (by simp [Region.wanted,hg,hy])]
    exact hn _ _ ⟨_,h,g,undef,hK,⟨T.E.put hd (.tup #[] [] rfl (by simp)),T.H,T.S,T.M.put _ _,T.O.put fun _ _ _ x hx=>by rcases hx with hx | hx <;> cases hx⟩,GS.refl g w,rfl⟩
   have go:JY (e s) b=some true->o.wp P a w next Q->(if Region.wanted o (yielded ops a.tmps) then o.wp P a w next Q\/(o.asks P a w/\LetsOut Q) else next (a.put o.dst undef) w):=by
    intro het hwp
    have hy:=want_on hs (T.E.slot s h6) het
    rw [if_pos (by simp [Region.wanted,hg,hy])]
    exact .inl hwp
   have hk:vcG P s b si e h (fun r h'=>K (V3 e o.dst r) h'):=hk
   unfold vcG at hk
   split at hk
   ·rename_i f args
    obtain ⟨v,hk⟩:=hk
    obtain ⟨t,het,h1,h2⟩:=QZ hk
    rw [gateV_w het] at h2
    cases t with
    | true=>exact go het (run hnm (K':=fun r h'=>r=v/\h'=h) ⟨v,h1 rfl,rfl,rfl⟩ (by rintro r h' ⟨rfl,rfl⟩;exact h2))
    | false=>exact skip het h2
   ·split at hk
    ·rename_i hst
     obtain ⟨t,het,h1,h2⟩:=QZ hk
     rw [gateV_w het] at h2
     cases t with
     | true=>exact go het (run hnm (K':=fun r h'=>r=fop si e h/\h'=h) (stable_vcI hst (h1 rfl) ⟨rfl,rfl⟩) (by rintro r h' ⟨rfl,rfl⟩;exact h2))
     | false=>exact skip het h2
    ·obtain ⟨t,het,h1,h2⟩:=WQ hk
     cases t with
     | true=>exact go het (run hnm (h1 rfl) fun _ _ k=>k)
     | false=>exact skip het (h2 rfl)
 ·cases ht
theorem mup_sound {ann:Ann} {ops:Array Oper} {o:Oper} {op:SOp} (ht:XK P ann n ops o=some op) (hm:op.si.isMup=true) {K:Env->Z2->Prop} (hk:vcOp P op e h K) {g0:Ghost} {w0:World} (T:St ann.mp n g0 w0 e h g a w)
 {next:Act->World->Prop} {Q:Exit->Act->World->Prop} (hn:∀ a' w',Lift ann.mp n g0 w0 K a' w'->next a' w') :
 if Region.wanted o (yielded ops a.tmps) then o.wp P a w next Q\/(o.asks P a w/\LetsOut Q) else next (a.put o.dst undef) w:=by
 unfold XK at ht
 simp only [Option.bind_eq_some_iff] at ht
 obtain ⟨si,hsi,ht⟩:=ht
 split at ht
 case isFalse=>cases ht
 rename_i hd
 obtain ⟨hd,hmp⟩:=hd
 have hd:=dstOK_out hd
 unfold mpOK at hmp
 simp only [Bool.and_eq_true] at hmp
 obtain ⟨hmp1,hmp2⟩:=hmp
 split at ht
 ·rename_i hg
  cases ht
  have hw:Region.wanted o (yielded ops a.tmps)=true:=by simp [Region.wanted,hg]
  rw [if_pos hw]
  refine .inl ?_
  have hk:vcI P si e h (fun r h'=>K (V3 e o.dst r) h'):=hk
  cases si <;> try (cases hm;done)
  case nxt=>
   rename_i sx _
   cases sx
   case c=>simp at hmp2
   rename_i s _
   simp only [Bool.and_eq_true,decide_eq_true_eq] at hmp2
   obtain ⟨x,ho,hsx⟩:=toSI_nxt hsi
   have hk:nxtE (e s) h (fun r h'=>K (V3 e o.dst r) h'):=hk
   unfold nxtE at hk
   split at hk
   case h_2=>exact hk.elim
   rename_i r her
   obtain ⟨l,p,hr,hK1,hK2⟩:=hk
   obtain ⟨w',v,hrun,⟨S',hgw⟩,E',hh⟩:=s_nxt ho hsx T.E T.H (show ev e (.t s)=.ptr r 0 0 from her) hr T.S ((T.O s hmp2.1.2 hmp2.1.1 r (.inr her)).1.imp And.right id)
   unfold Oper.wp
   rw [hrun]
   split at hh
   ·rename_i hp
    exact hn _ _ ⟨_,_,g,hK1 hp,⟨E'.put hd hh.2,hh.1,S',T.M.put _ _,(T.O.grow hgw).put fun _ _ _ x hx=>by rcases hx with hx | hx <;> cases hx⟩⟩
   ·rename_i hp
    exact hn _ _ ⟨_,_,g,hK2 (by omega),⟨E'.put hd hh.2,hh.1,S',T.M.put _ _,(T.O.grow hgw).put fun _ _ _ x hx=>by rcases hx with hx | hx <;> cases hx⟩⟩
  rename_i kt sm sk sv _
  cases sm
  case c=>simp at hmp2
  rename_i s _
  simp only [Bool.and_eq_true,decide_eq_true_eq] at hmp2
  have hsc:=hmp2.1.1
  have hs6:=hmp2.1.2
  obtain ⟨t,m,k,v,q,ho,hq,hkt,hsm,hsk,hsv⟩:=toSI_mup hsi
  have hk:mupE kt (e s) (ev e sk) (ev e sv) h (fun r h'=>K (V3 e o.dst r) h'):=hk
  unfold mupE at hk
  split at hk
  case h_2=>exact hk.elim
  rename_i r her
  obtain ⟨ob,hr,hM,hkk,hall,hK⟩:=hk
  obtain ⟨w',hrun,⟨S',hgw⟩,E',H'⟩:=s_mup ho hq hkt hsm hsk hsv T.E T.H (show ev e (.t s)=.mpr r from her) hr hM hkk hall T.S ((T.O s hs6 hsc r (.inl her)).1.imp And.right id)
  unfold Oper.wp
  rw [hrun]
  refine hn _ _ ⟨_,_,g,hK,⟨E'.put hd (.dead _),H',S',T.M.put _ _,(T.O.grow hgw).put fun _ _ _ x hx=>by rcases hx with hx | hx <;> cases hx⟩⟩
 ·rename_i j b hg
  rw [Option.bind_eq_some_iff] at ht
  obtain ⟨s,hs,ht⟩:=ht
  split at ht
  case isFalse=>cases ht
  cases ht
  cases si <;> try (cases hm;done)
  ·rename_i kt sm sk sv
   cases sm <;> simp [hg] at hmp2
  ·rename_i sx
   cases sx <;> simp [hg] at hmp2
theorem vcOp_sound {ann:Ann} {ops:Array Oper} {o:Oper} {op:SOp} (ht:XK P ann n ops o=some op) {K:Env->Z2->Prop} (hk:vcOp P op e h K) {g0:Ghost} {w0:World} (GR:GRel P.gl g0 w0) (T:St ann.mp n g0 w0 e h g a w)
 {next:Act->World->Prop} {Q:Exit->Act->World->Prop} (hn:∀ a' w',Lift ann.mp n g0 w0 K a' w'->next a' w') :
 if Region.wanted o (yielded ops a.tmps) then o.wp P a w next Q\/(o.asks P a w/\LetsOut Q) else next (a.put o.dst undef) w:=by
 by_cases hm:op.si.isMup=true
 ·exact mup_sound ht hm hk T hn
 ·exact vcOp_soundS ht (by simpa using hm) hk GR T fun a' w' ⟨e',h',g',_,k,T',_,_⟩=>hn a' w' ⟨e',h',g',k,T'⟩
theorem vcOps_sound {ann:Ann} {ops:Array Oper} {g0:Ghost} {w0:World} (GR:GRel P.gl g0 w0) {K:Env->Z2->Prop} {Q:Exit->Act->World->Prop} (hQ:∀ a w,Lift ann.mp n g0 w0 K a w->Q .normal a w) :
 ∀ (l:List Oper) (sl:List SOp) (e:Env) (h:Z2) (g:Ghost) (a:Act) (w:World),YT P ann n ops l=some sl->vcOps P sl e h K->St ann.mp n g0 w0 e h g a w->wpList P ops Q l a w
 | [],sl,e,h,g,a,w,ht,hk,T=>by
   simp [YT] at ht;subst ht
   exact hQ a w ⟨e,h,g,hk,T⟩
 | o :: r,sl,e,h,g,a,w,ht,hk,T=>by
   simp only [YT,Option.bind_eq_some_iff,Option.map_eq_some_iff] at ht
   obtain ⟨s,hs,sr,hsr,rfl⟩:=ht
   exact vcOp_sound hs hk GR T fun a' w' ⟨e',h',g',k',T'⟩=>vcOps_sound GR hQ r sr e' h' g' a' w' hsr k' T'
end
end Go.Sim
end
section
namespace Go.Sim
open Go
section
variable {P:PG} {h h':Z2} {e e':Env}
theorem J5 {x:SX} (ha:∀ t∈x.rd,e t=e' t):ev e x=ev e' x:=by
 cases x with
 | t n=>exact ha n (by simp [SX.rd])
 | c v=>rfl
theorem T9 {x:Option SX} (ha:∀ t∈rdO x,e t=e' t):evO e x=evO e' x:=by
 cases x with
 | none=>rfl
 | some x=>simp only [evO,J5 (x:=x) ha]
theorem JV:∀ {l:List SX},(∀ t∈rdL l,e t=e' t)->l.map (ev e)=l.map (ev e')
 | [],_=>rfl
 | x :: r,ha=>by
   simp only [List.map_cons]
   rw [J5 (x:=x) (fun t ht=>ha t (List.mem_append.2 (.inl ht))),JV (l:=r) (fun t ht=>ha t (List.mem_append.2 (.inr ht)))]
theorem evP_congr:∀ {l:List (Nat×Nat×SX)},(∀ t∈rdP l,e t=e' t)->(l.map fun p=>(p.1,p.2.1,ev e p.2.2))=l.map fun p=>(p.1,p.2.1,ev e' p.2.2)
 | [],_=>rfl
 | p :: r,ha=>by
   simp only [List.map_cons]
   rw [J5 (x:=p.2.2) (fun t ht=>ha t (List.mem_append.2 (.inl ht))),evP_congr (l:=r) (fun t ht=>ha t (List.mem_append.2 (.inr ht)))]
theorem VY {sz:Nat}:∀ {l:List SX},(∀ t∈rdL l,e t=e' t)->Q5 sz e l=Q5 sz e' l
 | [],_=>rfl
 | x :: r,ha=>by
   simp only [Q5]
   rw [J5 (x:=x) (fun t ht=>ha t (List.mem_append.2 (.inl ht))),VY (l:=r) (fun t ht=>ha t (List.mem_append.2 (.inr ht)))]
theorem evC_congr {l:List SX} (ha:∀ t∈rdL l,e t=e' t):(l.map fun x=>cellsOf (ev e x))=l.map fun x=>cellsOf (ev e' x):=by
 have:=congrArg (List.map cellsOf) (JV (l:=l) ha)
 simpa [List.map_map] using this
theorem Y9 {l1 l2:List Nat} (ha:∀ t∈l1++l2,e t=e' t):(∀ t∈l1,e t=e' t) /\ ∀ t∈l2,e t=e' t:=
 ⟨fun t ht=>ha t (List.mem_append.2 (.inl ht)),fun t ht=>ha t (List.mem_append.2 (.inr ht))⟩
theorem fopk_congr {si:SI} (hg:si.gated=true) (ha:∀ t∈si.rd,e t=e' t):fop si e h=fop si e' h/\fok si e h=fok si e' h:=by
 cases si with
 | mv x=>simp only [fok,fop,J5 (x:=x) ha,and_self]
 | pick c a b=>obtain ⟨h1,h2⟩:=Y9 ha;obtain ⟨h2,h3⟩:=Y9 h2;simp only [fok,fop,J5 h1,J5 h2,J5 h3,and_self]
 | bin op x y=>obtain ⟨h1,h2⟩:=Y9 ha;simp only [fok,fop,J5 h1,J5 h2,and_self]
 | eqs n ks x y=>obtain ⟨h1,h2⟩:=Y9 ha;simp only [fok,fop,J5 h1,J5 h2,and_self]
 | eqb n x y=>obtain ⟨h1,h2⟩:=Y9 ha;simp only [fok,fop,J5 h1,J5 h2,and_self]
 | un op x=>simp only [fok,fop,J5 (x:=x) ha,and_self]
 | cvi k x=>simp only [fok,fop,J5 (x:=x) ha,and_self]
 | r2s x=>simp only [fok,fop,J5 (x:=x) ha,and_self]
 | idc x=>simp only [fok,fop,J5 (x:=x) ha,and_self]
 | fld o s b x=>simp only [fok,fop,J5 (x:=x) ha,and_self]
 | fldA o x=>simp only [fok,fop,J5 (x:=x) ha,and_self]
 | idxA s x i=>obtain ⟨h1,h2⟩:=Y9 ha;simp only [fok,fop,J5 h1,J5 h2,and_self]
 | idxG s x i=>obtain ⟨h1,h2⟩:=Y9 ha;simp only [fok,fop,J5 h1,J5 h2,and_self]
 | idxS x i=>obtain ⟨h1,h2⟩:=Y9 ha;simp only [fok,fop,J5 h1,J5 h2,and_self]
 | ld s b x=>simp only [fok,fop,J5 (x:=x) ha,and_self]
 | ldm t s b x=>simp only [fok,fop,J5 (x:=x) (fun t ht=>ha t (List.mem_cons_of_mem _ ht)),ha t List.mem_cons_self,and_self]
 | slS x lo hi=>obtain ⟨h1,h2⟩:=Y9 ha;obtain ⟨h2,h3⟩:=Y9 h2;simp only [fok,fop,J5 h1,T9 h2,T9 h3,and_self]
 | slA s x lo hi=>obtain ⟨h1,h2⟩:=Y9 ha;obtain ⟨h2,h3⟩:=Y9 h2;simp only [fok,fop,J5 h1,T9 h2,T9 h3,and_self]
 | slM s x lo hi mx=>obtain ⟨h1,h2⟩:=Y9 ha;obtain ⟨h2,h3⟩:=Y9 h2;obtain ⟨h3,h4⟩:=Y9 h3;simp only [fok,fop,J5 h1,T9 h2,T9 h3,T9 h4,and_self]
 | ext x i=>simp only [fok,fop,J5 (x:=x) ha,and_self]
 | bld z parts=>simp only [fok,fop,evP_congr (l:=parts) ha,and_self]
 | bldF ty s parts=>cases hg
 | len x=>simp only [fok,fop,J5 (x:=x) ha,and_self]
 | lenS x=>simp only [fok,fop,J5 (x:=x) ha,and_self]
 | min2 x y=>obtain ⟨h1,h2⟩:=Y9 ha;simp only [fok,fop,J5 h1,J5 h2,and_self]
 | max2 x y=>obtain ⟨h1,h2⟩:=Y9 ha;simp only [fok,fop,J5 h1,J5 h2,and_self]
 | mkf f a b=>obtain ⟨h1,h2⟩:=Y9 ha;simp only [fok,fop,JV h1,JV h2,and_self]
 | isnil k n x=>cases hg
 | bldR ty s p=>cases hg
 | box ty s x=>cases hg
 | boxF ty s x=>cases hg
 | new ty s z=>cases hg
 | newnil ty s=>cases hg
 | st s x v=>cases hg
 | app ty s b x y=>cases hg
 | appS ty b x y=>cases hg
 | appIn ty s x y=>cases hg
 | appF ty s b x y=>cases hg
 | frz x=>cases hg
 | slX s x lo hi=>cases hg
 | mks ty s b z m c=>cases hg
 | copy s x y=>cases hg
 | clear s z x=>cases hg
 | call f args=>cases hg
 | pcall f args=>cases hg
 | b2s x=>cases hg
 | usd x=>cases hg
 | ustr ty x y=>cases hg
 | mkm ty=>cases hg
 | mup kt m k v=>cases hg
 | s2b ty x=>cases hg
 | rng x=>cases hg
 | nxt x=>cases hg
 | lkp kt ok z m k=>obtain ⟨h1,h2⟩:=Y9 ha;simp only [fok,fop,J5 h1,J5 h2,and_self]
theorem vcI_congr {si:SI} (ha:∀ t∈si.rd,e t=e' t) {K:AVal->Z2->Prop}:vcI P si e h K=vcI P si e' h K:=by
 by_cases hg:si.gated=true
 ·have hf:=fopk_congr (h:=h) hg ha
  have hv:∀ e,vcI P si e h K=(fok si e h/\K (fop si e h) h):=by
   intro e
   cases si <;> first | rfl | cases hg
  rw [hv,hv,hf.1,hf.2]
 cases si with
 | mv x=>exact absurd rfl hg
 | pick c a b=>exact absurd rfl hg
 | bin op x y=>exact absurd rfl hg
 | eqs n ks x y=>exact absurd rfl hg
 | eqb n x y=>exact absurd rfl hg
 | un op x=>exact absurd rfl hg
 | cvi k x=>exact absurd rfl hg
 | r2s x=>exact absurd rfl hg
 | idc x=>exact absurd rfl hg
 | fld o s b x=>exact absurd rfl hg
 | fldA o x=>exact absurd rfl hg
 | idxA s x i=>exact absurd rfl hg
 | idxG s x i=>exact absurd rfl hg
 | ldm t s b x=>exact absurd rfl hg
 | idxS x i=>exact absurd rfl hg
 | ld s b x=>exact absurd rfl hg
 | slS x lo hi=>exact absurd rfl hg
 | slA s x lo hi=>exact absurd rfl hg
 | slM s x lo hi mx=>exact absurd rfl hg
 | ext x i=>exact absurd rfl hg
 | bld z parts=>exact absurd rfl hg
 | len x=>exact absurd rfl hg
 | lenS x=>exact absurd rfl hg
 | min2 x y=>exact absurd rfl hg
 | max2 x y=>exact absurd rfl hg
 | mkf f a b=>exact absurd rfl hg
 | bldF ty s parts=>simp only [vcI,fop,evC_congr (l:=parts) ha,VY (l:=parts) ha]
 | isnil k n x=>simp only [vcI,J5 (x:=x) ha]
 | bldR ty s parts=>simp only [vcI,litE,evC_congr (l:=parts) ha,VY (l:=parts) ha]
 | box ty s x=>simp only [vcI,J5 (x:=x) ha]
 | boxF ty s x=>simp only [vcI,J5 (x:=x) ha]
 | new ty s z=>rfl
 | newnil ty s=>rfl
 | st s x v=>obtain ⟨h1,h2⟩:=Y9 ha;simp only [vcI,J5 h1,J5 h2]
 | app ty s b x y=>obtain ⟨h1,h2⟩:=Y9 ha;simp only [vcI,J5 h1,J5 h2]
 | appS ty b x y=>obtain ⟨h1,h2⟩:=Y9 ha;simp only [vcI,J5 h1,J5 h2]
 | appIn ty s x y=>obtain ⟨h1,h2⟩:=Y9 ha;simp only [vcI,J5 h1,J5 h2]
 | appF ty s b x y=>obtain ⟨h1,h2⟩:=Y9 ha;simp only [vcI,J5 h1,J5 h2]
 | frz x=>simp only [vcI,J5 (x:=x) ha]
 | slX s x lo hi=>obtain ⟨h1,h2⟩:=Y9 ha;obtain ⟨h2,h3⟩:=Y9 h2;simp only [vcI,J5 h1,T9 h2,T9 h3]
 | mks ty s b z m c=>obtain ⟨h1,h2⟩:=Y9 ha;simp only [vcI,J5 h1,J5 h2]
 | copy s x y=>obtain ⟨h1,h2⟩:=Y9 ha;simp only [vcI,J5 h1,J5 h2]
 | clear s z x=>simp only [vcI,J5 (x:=x) ha]
 | call f args=>obtain ⟨h1,h2⟩:=Y9 ha;simp only [vcI,J5 h1,JV h2]
 | pcall f args=>simp only [vcI,JV (l:=args) ha]
 | b2s x=>simp only [vcI,J5 (x:=x) ha]
 | usd x=>simp only [vcI,J5 (x:=x) ha]
 | ustr ty x y=>obtain ⟨h1,h2⟩:=Y9 ha;simp only [vcI,J5 h1,J5 h2]
 | mkm ty=>rfl
 | mup kt m k v=>obtain ⟨h1,h2⟩:=Y9 ha;obtain ⟨h2,h3⟩:=Y9 h2;simp only [vcI,J5 h1,J5 h2,J5 h3]
 | s2b ty x=>simp only [vcI,J5 (x:=x) ha]
 | rng x=>simp only [vcI,J5 (x:=x) ha]
 | nxt x=>simp only [vcI,J5 (x:=x) ha]
 | lkp kt ok z m k=>exact absurd rfl hg
def SI.stb:SI->Bool
 | .pcall _ _=>true
 | si=>si.stable
theorem fop_heap {si:SI} (hr:∀ r∈Q9 si e,h r=h' r):fop si e h=fop si e h'/\fok si e h=fok si e h':=by
 cases si <;> first | exact ⟨rfl,rfl⟩ | skip
 ·rename_i s b x
  simp only [fop,fok,aLd,okLd]
  simp only [Q9] at hr
  cases hx:deVp (ev e x) <;> first | exact ⟨rfl,rfl⟩ | skip
  rename_i r i j
  rw [hx] at hr
  have hh:=hr r (by simp)
  simp only [aLd0,okLd0,hh,and_self]
 ·rename_i t s b x
  simp only [fop,fok,aLd,okLd]
  simp only [Q9] at hr
  cases hx:deVp (ev e x) <;> first | exact ⟨rfl,rfl⟩ | skip
  rename_i r i j
  rw [hx] at hr
  have hh:=hr r (by simp)
  simp only [aLd0,okLd0,hh,and_self]
 ·rename_i kt ok z m k
  simp only [fop,fok]
  simp only [Q9] at hr
  cases hx:ev e m <;> first | exact ⟨rfl,rfl⟩ | skip
  rename_i r
  rw [hx] at hr
  have hh:=hr r (by simp)
  simp only [aLkp,okLkp,hh,and_self]
theorem vcG_congr {s:Nat} {b:Bool} {si:SI} (ha:∀ t∈si.rd,e t=e' t) (hs:e s=e' s) {K:AVal->Z2->Prop}:vcG P s b si e h K=vcG P s b si e' h K:=by
 have hv:∀ K,vcI P si e h K=vcI P si e' h K:=fun K=>vcI_congr ha
 unfold vcG
 split
 ·rename_i f args
  rw [hs,JV (l:=args) ha]
 ·have hf:si.gated=true->fop si e h=fop si e' h/\fok si e h=fok si e' h:=by
   intro hg
   exact fopk_congr hg ha
  rw [hs,hv]
  split
  ·rename_i hg;rw [(hf hg).1,(hf hg).2]
  ·rfl
end
def W9 (ops:Array Oper) (i:Nat):List Nat:=
 match ops[i]? with
 | some o=>(o.after.toList.filter fun e=>Region.binds .any e).map (·.on)
 | none=>[]
def dd:List Nat->List Nat
 | []=>[]
 | x :: r=>if (dd r).contains x then dd r else x :: dd r
def T3 (ops:Array Oper):List Nat->List (Nat×List Nat)->List (Nat×List Nat)
 | [],T=>T
 | i :: r,T=>T3 ops r ((i,dd (W9 ops i++(W9 ops i).flatMap fun p=>(T.lookup p).getD [])) :: T)
def XQ (T:List (Nat×List Nat)) (i:Nat):List Nat:=(T.lookup i).getD []
def XZ (sops:List SOp) (T:List (Nat×List Nat)) (i:Nat):Bool:=
 match sops[i]? with
 | some op=>!op.si.stb||(match op.dst with
   | some d=>op.rd.contains d||(List.range sops.length).any fun j=>j != i&&(match sops[j]? with
     | some o2=>(o2.rd.contains d && !(XQ T j).contains i)||o2.dst==some d
     | none=>false)
   | none=>true)
 | none=>true
def slotOK (sops:List SOp) (T:List (Nat×List Nat)) (i:Nat):Bool:=
 match sops[i]? with
 | some op=>match op.dst with
   | some d=>(List.range sops.length).all fun j=>j==i||(match sops[j]? with
     | some o2=>!o2.rd.contains d||(XQ T j).contains i||(XQ T i).contains j
     | none=>true)
   | none=>true
 | none=>false
def isAlloc (ops:Array Oper) (i:Nat):Bool:=
 match ops[i]? with
 | some o=>(match o.op with | .alloc _=>true | _=>false)
 | none=>false
def dlyOf (ops:Array Oper) (sops:List SOp) (T:List (Nat×List Nat)) (eff:Nat->Bool) (i:Nat):Bool:=
 isAlloc ops i&&match sops[i]? with
 | some ⟨some d,.new _ _ _,none⟩=>(List.range sops.length).all fun j=>j==i||(match sops[j]? with
    | some o2=>o2.dst != some d&&(!o2.rd.contains d||(eff j&&(XQ T j).contains i))&&(eff j || !(W9 ops j).contains i)
    | none=>true)
 | _=>false
def ancD (sops:List SOp) (T:List (Nat×List Nat)) (i:Nat):List Nat:=
 (XQ T i).filterMap fun j=>match sops[j]? with
   | some (SOp.mk (some d) (SI.ld _ _ _) _)=>some d
   | _=>none
def flg (sops:List SOp) (T:List (Nat×List Nat)) (eff:Nat->Bool) (i:Nat):Option (List Nat):=if eff i=true then some (ancD sops T i) else none
def chkL (ops:Array Oper) (sops:List SOp) (T:List (Nat×List Nat)) (eff dly:Nat->Bool):List Nat->List Nat->Bool
 | _,[]=>true
 | done,i :: r=>decide (i<sops.length)&&(W9 ops i).all (fun p=>done.contains p) && !done.contains i &&
    (if eff i then ((List.range sops.length).all fun s=>eff s||done.contains s||(W9 ops s).any fun p=>!done.contains p)&&(r.all fun j=>!eff j||(dly j||(XQ T j).contains i))&&slotOK sops T i else true) &&
    chkL ops sops T eff dly (i :: done) r
def sfo (ops:Array Oper) (eff dly:Nat->Bool) (n:Nat):Nat->List Nat->List Nat
 | 0,_=>[]
 | f+1,done=>
   match (List.range n).find? fun i=>!done.contains i && !eff i&&(W9 ops i).all fun p=>done.contains p with
   | some i=>i :: sfo ops eff dly n f (i :: done)
   | none=>match (List.range n).find? fun i=>!done.contains i && !dly i&&(W9 ops i).all fun p=>done.contains p with
     | some i=>i :: sfo ops eff dly n f (i :: done)
     | none=>match (List.range n).find? fun i=>!done.contains i&&(W9 ops i).all fun p=>done.contains p with
       | some i=>i :: sfo ops eff dly n f (i :: done)
       | none=>[]
def mupOK (sops:List SOp) (T:List (Nat×List Nat)):Bool:=
 (List.range sops.length).all fun i=>!((sops.getD i ⟨none,.mv (.c .dead),none⟩).si.isMup)||(List.range sops.length).all fun j=>j==i||(XQ T i).contains j
def toSD (P:Program) (ann:Ann) (n:Nat) (ops:Array Oper):Option (List (SOp×Option (List Nat))):=
 (YT P ann n ops ops.toList).bind fun sops=>
   let T:=T3 ops (List.range sops.length) []
   let effs:=(List.range sops.length).map (XZ sops T)
   let eff:=fun i=>effs.getD i true
   let dlys:=(List.range sops.length).map (dlyOf ops sops T eff)
   let dly:=fun i=>dlys.getD i true
   let L:=sfo ops eff dly sops.length sops.length []
   if mupOK sops T=true/\P.follows .mixedOrders=true/\((List.range sops.length).all fun i=>(W9 ops i).all fun p=>decide (p<i))=true/\((List.range sops.length).all fun i=>L.contains i)=true/\chkL ops sops T eff dly [] L=true then
    some (L.map fun i=>(sops.getD i ⟨none,.mv (.c .dead),none⟩,flg sops T eff i))
   else none
theorem dd_sub:∀ (l:List Nat) (x:Nat),x∈dd l->x∈l
 | [],x,h=>by cases h
 | y :: r,x,h=>by
   unfold dd at h
   split at h
   ·exact List.mem_cons_of_mem _ (dd_sub r x h)
   ·rcases List.mem_cons.1 h with rfl | h
    ·exact List.mem_cons_self
    ·exact List.mem_cons_of_mem _ (dd_sub r x h)
def Closed (ops:Array Oper) (A:Nat->Prop):Prop:=∀ i,A i -> ∀ p∈W9 ops i,A p
def TblOK (ops:Array Oper) (T:List (Nat×List Nat)):Prop:=∀ i l,T.lookup i=some l -> ∀ j∈l,∀ A:Nat->Prop,Closed ops A->(∀ p∈W9 ops i,A p)->A j
theorem ancTbl_ok (ops:Array Oper):∀ (l:List Nat) (T:List (Nat×List Nat)),TblOK ops T->TblOK ops (T3 ops l T)
 | [],_,h=>h
 | i :: r,T,h=>by
   refine ancTbl_ok ops r _ fun k l hk j hj A hA hp=>?_
   rw [List.lookup_cons] at hk
   split at hk
   ·rename_i hki
    have hki:k=i:=by simpa using hki
    subst hki
    cases hk
    rcases List.mem_append.1 (dd_sub _ _ hj) with h1 | h1
    ·exact hp j h1
    ·obtain ⟨p,hpp,hjp⟩:=List.mem_flatMap.1 h1
     cases hl:T.lookup p with
     | none=>rw [hl] at hjp;cases hjp
     | some l'=>rw [hl] at hjp;exact h p l' hl j hjp A hA (hA p (hp p hpp))
   ·exact h k l hk j hj A hA hp
theorem KY {ops:Array Oper} {T:List (Nat×List Nat)} (hT:TblOK ops T) {i j:Nat} (hj:(XQ T i).contains j=true) {A:Nat->Prop} (hA:Closed ops A) (hp:∀ p∈W9 ops i,A p):A j:=by
 unfold XQ at hj
 cases hl:T.lookup i with
 | none=>rw [hl] at hj;simp at hj
 | some l=>rw [hl] at hj;exact hT i l hl j (by simpa using hj) A hA hp
theorem filter_lt {p q:Nat->Bool}:∀ {l:List Nat} {i:Nat},i∈l->p i=true->q i=false->(∀ x,q x=true->p x=true)->(l.filter q).length<(l.filter p).length
 | x :: r,i,hi,hp,hq,hh=>by
   have hle:(r.filter q).length<=(r.filter p).length:=by
    clear hi
    induction r with
    | nil=>simp
    | cons y r ih=>
      simp only [List.filter_cons]
      cases hqy:q y with
      | true=>rw [hh y hqy];simpa using ih
      | false=>cases p y <;> simp <;> omega
   rcases List.mem_cons.1 hi with rfl | hi
   ·simp only [List.filter_cons,hp,hq,if_true,Bool.false_eq_true,if_false,List.length_cons]
    omega
   ·have:=filter_lt hi hp hq hh
    simp only [List.filter_cons]
    cases hqx:q x with
    | true=>rw [hh x hqx];simpa using this
    | false=>cases p x <;> simp <;> omega
theorem ready_iff {ops:Array Oper} {listed:Array Bool} {i:Nat}:i∈Region.ready .any ops listed↔i<ops.size/\listed.getD i true=false /\ ∀ p∈W9 ops i,listed.getD p false=true:=by
 unfold Region.ready
 rw [List.mem_filter,List.mem_range]
 constructor
 ·rintro ⟨hi,h⟩
  simp only [Bool.and_eq_true,Bool.not_eq_true'] at h
  refine ⟨hi,h.1,fun p hp=>?_⟩
  have h2:=h.2
  rw [Array.getElem?_eq_getElem hi] at h2
  simp only [Option.map_some,Option.getD_some] at h2
  unfold W9 at hp
  rw [Array.getElem?_eq_getElem hi] at hp
  simp only [List.mem_map,List.mem_filter,Array.mem_toList_iff] at hp
  obtain ⟨ed,⟨hed,hb⟩,rfl⟩:=hp
  have:=Array.all_eq_true'.1 h2 ed hed
  simpa [hb] using this
 ·rintro ⟨hi,h1,h2⟩
  refine ⟨hi,?_⟩
  rw [Array.getElem?_eq_getElem hi]
  simp only [Option.map_some,Option.getD_some,Bool.and_eq_true,Bool.not_eq_true']
  refine ⟨h1,Array.all_eq_true'.2 fun ed hed=>?_⟩
  cases hb:Region.binds .any ed with
  | false=>simp
  | true=>
    have:=h2 ed.on (by
     unfold W9
     rw [Array.getElem?_eq_getElem hi]
     simp only [List.mem_map,List.mem_filter,Array.mem_toList_iff]
     exact ⟨ed,⟨hed,hb⟩,rfl⟩)
    simp [this]
section
variable {P:PG} {h h':Z2} {e e':Env}
def stbR (P:PG) (si:SI) (e:Env) (h:Z2) (r:AVal):Prop:=
 match si with
 | .pcall f args=>PCalls P f (args.map (ev e)) r
 | .bldF ty sz parts=>Q5 sz e parts/\r=fop (.bldF ty sz parts) e h
 | si=>fok si e h/\r=fop si e h
theorem UK {si:SI} (hs:si.stb=true) {K:AVal->Z2->Prop}:vcI P si e h K ↔ ∃ r,stbR P si e h r/\K r h:=by
 cases si <;> first
  | (cases hs;done)
  | exact Iff.rfl
  | exact ⟨fun ⟨h1,h2⟩=>⟨_,⟨h1,rfl⟩,h2⟩,fun ⟨r,⟨h1,h2⟩,h3⟩=>by subst h2;exact ⟨h1,h3⟩⟩
theorem stbR_heap {si:SI} (_hs:si.stb=true) (hr:∀ r∈Q9 si e,h r=h' r) {r:AVal} (k:stbR P si e h r):stbR P si e h' r:=by
 obtain ⟨h1,h2⟩:=fop_heap hr
 cases si <;> first
  | exact k
  | exact ⟨k.1,k.2⟩
  | exact ⟨h2 ▸ k.1,h1 ▸ k.2⟩
def SV (P:PG) (op:SOp) (e:Env) (h:Z2) (r:AVal):Prop:=vcV P op e h fun r' h'=>r'=r/\h'=h
theorem TZ {op:SOp} (ha:∀ t∈op.rd,e t=e' t) {K:AVal->Z2->Prop}:vcV P op e h K=vcV P op e' h K:=by
 obtain ⟨dst,si,g⟩:=op
 cases g with
 | none=>exact vcI_congr fun t ht=>ha t (List.mem_append.2 (.inl ht))
 | some sb=>
   obtain ⟨s,b⟩:=sb
   exact vcG_congr (fun t ht=>ha t (List.mem_append.2 (.inl ht))) (ha s (List.mem_append.2 (.inr (by simp))))
theorem vcI_mono {si:SI} {K K':AVal->Z2->Prop} (hk:vcI P si e h K) (hm:∀ r h',K r h'->K' r h'):vcI P si e h K':=by
 have app:∀ {ty sz b:Nat} {x:AVal} {es2:List (List AVal)},appE ty sz b x es2 h K->appE ty sz b x es2 h K':=by
  intro ty sz b x es2 hk
  cases x <;> try exact hk.elim
  ·exact ⟨hk.1,hk.2.1,fun r hr=>hm _ _ (hk.2.2 r hr)⟩
  ·obtain ⟨h1,ob,h2,h3,h4,h5,h6,h7⟩:=hk
   exact ⟨h1,ob,h2,h3,h4,h5,h6,fun r hr=>hm _ _ (h7 r hr)⟩
 cases si with
 | isnil k neg x=>
   have hk:YK k neg (ev e x) (fun r=>K r h):=hk
   show YK k neg (ev e x) (fun r=>K' r h)
   unfold YK at hk ⊢
   split <;> simp_all
 | bldR ty sz parts=>exact ⟨hk.1,fun r hr=>hm _ _ (hk.2 r hr)⟩
 | box ty sz x=>exact ⟨hk.1,hk.2.1,fun r hr=>hm _ _ (hk.2.2 r hr)⟩
 | boxF ty sz x=>exact ⟨hk.1,hk.2.1,hm _ _ hk.2.2⟩
 | new ty sz z=>exact fun r hr=>hm _ _ (hk r hr)
 | newnil ty sz=>exact fun r hr=>hm _ _ (hk r hr)
 | st size x v=>
   have hk:stE size (ev e x) (ev e v) h K:=hk
   show stE size (ev e x) (ev e v) h K'
   revert hk
   cases ev e x <;> intro hk <;> try exact hk.elim
   all_goals first
    | (obtain ⟨ob,h1,h2,h3,h4,h5,h6⟩:=hk;exact ⟨ob,h1,h2,h3,h4,h5,hm _ _ h6⟩)
    | (obtain ⟨h1,h2,h3,h4⟩:=hk;exact ⟨h1,h2,h3,hm _ _ h4⟩)
 | app ty sz b x y=>
   obtain ⟨es2,h1,h2⟩:=hk
   exact ⟨es2,h1,app h2⟩
 | appS ty b x y=>
   obtain ⟨l,h1,h2⟩:=hk
   refine ⟨l,h1,?_⟩
   rcases h2 with ⟨q1,q2,q3⟩ | h2
   ·exact .inl ⟨q1,q2,hm _ _ q3⟩
   ·exact .inr (app h2)
 | appIn ty sz x y=>
   obtain ⟨es2,h1,hk⟩:=hk
   refine ⟨es2,h1,?_⟩
   revert hk
   cases ev e x <;> intro hk <;> try exact hk.elim
   obtain ⟨h1,ob,h2,h3,h4⟩:=hk
   exact ⟨h1,ob,h2,h3,hm _ _ h4⟩
 | appF ty sz b x y=>
   obtain ⟨es2,h1,hk⟩:=hk
   refine ⟨es2,h1,?_⟩
   revert hk
   cases ev e x <;> intro hk <;> try exact hk.elim
   ·exact ⟨hk.1,hk.2.1,hm _ _ hk.2.2⟩
   ·obtain ⟨h1,ob,h2,h3,h4,h5,h6,h7⟩:=hk
    exact ⟨h1,ob,h2,h3,h4,h5,h6,hm _ _ h7⟩
 | frz x=>
   have hk:frzE (ev e x) h K:=hk
   show frzE (ev e x) h K'
   revert hk
   cases ev e x <;> intro hk <;> try exact hk.elim
   ·exact hm _ _ hk
   ·exact hm _ _ hk
   ·obtain ⟨ob,h1,h2,h3⟩:=hk
    exact ⟨ob,h1,h2,hm _ _ h3⟩
 | slX sz x lo hi=>
   have hk:slXE sz (ev e x) (evO e lo) (evO e hi) h K:=hk
   show slXE sz (ev e x) (evO e lo) (evO e hi) h K'
   revert hk
   cases ev e x <;> intro hk <;> try exact hk.elim
   obtain ⟨h1,ob,h2,h3,h4,h5,h6,h7,h8⟩:=hk
   exact ⟨h1,ob,h2,h3,h4,h5,h6,h7,hm _ _ h8⟩
 | mks ty sz b z m c=>
   have hk:mksE ty sz b z (ev e m) (ev e c) h K:=hk
   show mksE ty sz b z (ev e m) (ev e c) h K'
   revert hk
   cases ev e m <;> cases ev e c <;> intro hk <;> try exact hk.elim
   obtain ⟨h1,h2,h3,h4,h5⟩:=hk
   exact ⟨h1,h2,h3,h4,fun r hr=>hm _ _ (h5 r hr)⟩
 | copy sz x y=>
   obtain ⟨es2,h1,hk⟩:=hk
   refine ⟨es2,h1,?_⟩
   revert hk
   cases ev e x <;> intro hk <;> try exact hk.elim
   obtain ⟨h1,ob,h2,h3,h4⟩:=hk
   exact ⟨h1,ob,h2,h3,hm _ _ h4⟩
 | clear sz z x=>
   have hk:clearE sz z (ev e x) h K:=hk
   show clearE sz z (ev e x) h K'
   revert hk
   cases ev e x <;> intro hk <;> try exact hk.elim
   obtain ⟨h1,ob,h2,h3,h4⟩:=hk
   exact ⟨h1,ob,h2,h3,hm _ _ h4⟩
 | call f args=>
   have hk:callE P (ev e f) (args.map (ev e)) h K:=hk
   show callE P (ev e f) (args.map (ev e)) h K'
   revert hk
   cases ev e f <;> intro hk <;> try exact hk.elim
   exact DCalls.mono hk hm
 | pcall f args=>
   obtain ⟨v,h1,h2⟩:=hk
   exact ⟨v,h1,hm _ _ h2⟩
 | mkm ty=>exact fun r hr=>hm _ _ (hk r hr)
 | s2b ty x=>
   have hk:s2bE ty (ev e x) h K:=hk
   show s2bE ty (ev e x) h K'
   revert hk
   cases ev e x <;> intro hk <;> try exact hk.elim
   exact ⟨hk.1,fun r hr=>hm _ _ (hk.2 r hr)⟩
 | rng x=>
   have hk:rngE (ev e x) h K:=hk
   show rngE (ev e x) h K'
   revert hk
   cases ev e x <;> intro hk <;> try exact hk.elim
   exact fun r hr=>hm _ _ (hk r hr)
 | nxt x=>
   have hk:nxtE (ev e x) h K:=hk
   show nxtE (ev e x) h K'
   unfold nxtE at hk ⊢
   split at hk
   ·obtain ⟨l,p,h1,h2,h3⟩:=hk
    exact ⟨l,p,h1,fun hp=>hm _ _ (h2 hp),fun hp=>hm _ _ (h3 hp)⟩
   ·exact hk.elim
 | mup kt m k v=>
   have hk:mupE kt (ev e m) (ev e k) (ev e v) h K:=hk
   show mupE kt (ev e m) (ev e k) (ev e v) h K'
   revert hk
   cases ev e m <;> intro hk <;> try exact hk.elim
   obtain ⟨ob,h1,h2,h3,h4,h5⟩:=hk
   exact ⟨ob,h1,h2,h3,h4,hm _ _ h5⟩
 | b2s x=>
   obtain ⟨l,h1,h2⟩:=hk
   exact ⟨l,h1,hm _ _ h2⟩
 | usd x=>
   have hk:usdE (ev e x) h K:=hk
   show usdE (ev e x) h K'
   revert hk
   cases ev e x <;> intro hk <;> try exact hk.elim
   ·exact hm _ _ hk
   ·exact ⟨hk.1,hm _ _ hk.2⟩
 | ustr ty x y=>
   have hk:ustrE ty (ev e x) (ev e y) h K:=hk
   show ustrE ty (ev e x) (ev e y) h K'
   unfold ustrE at hk ⊢
   split
   ·simp_all
   ·simp_all
    obtain ⟨h1,l,ob,h2,h3,h4,h5,h6,h7,h8,h9,h10⟩:=hk
    exact ⟨l,ob,h2,h3,h4,h5,h6,h7,h8,h9,hm _ _ h10⟩
   ·simp_all
 | _=>exact ⟨hk.1,hm _ _ hk.2⟩
theorem gateP_mono {v:AVal} {b:Bool} {ok ok' k k':Prop} (hk:WZ v b ok k) (h1:ok->ok') (h2:k->k'):WZ v b ok' k':=by
 obtain ⟨t,ht,k1,k2⟩:=QZ hk
 rw [UQ ht];exact ⟨fun h=>h1 (k1 h),h2 k2⟩
theorem gateE_mono {v:AVal} {b:Bool} {ok ok' k k':Prop} (hk:gateE v b ok k) (h1:ok->ok') (h2:k->k'):gateE v b ok' k':=by
 obtain ⟨t,ht,k1,k2⟩:=WQ hk
 rw [gateE_w ht];exact ⟨fun h=>h1 (k1 h),fun h=>h2 (k2 h)⟩
theorem vcV_mono {op:SOp} {K K':AVal->Z2->Prop} (hk:vcV P op e h K) (hm:∀ r h',K r h'->K' r h'):vcV P op e h K':=by
 obtain ⟨dst,si,g⟩:=op
 cases g with
 | none=>exact vcI_mono (si:=si) hk hm
 | some sb=>
   obtain ⟨s,b⟩:=sb
   have hk:vcG P s b si e h K:=hk
   show vcG P s b si e h K'
   unfold vcG at hk ⊢
   split at hk
   ·obtain ⟨v,hk⟩:=hk
    exact ⟨v,gateP_mono hk id (hm _ _)⟩
   ·split at hk
    ·rename_i hg;rw [if_pos hg];exact gateP_mono hk id (hm _ _)
    ·rename_i hg;rw [if_neg hg];exact gateE_mono hk (fun h=>vcI_mono h hm) (hm _ _)
theorem WT {s:Nat} {b:Bool} {si:SI} {K:AVal->Z2->Prop} (hn:¬ ∃ f args,si=.pcall f args) :
 vcG P s b si e h K=(if si.gated=true then WZ (e s) b (fok si e h) (K (gateV (e s) b (fop si e h)) h) else gateE (e s) b (vcI P si e h K) (K (.tup []) h)):=by
 cases si <;> first | rfl | exact absurd ⟨_,_,rfl⟩ hn
theorem stable_split {op:SOp} (hs:op.si.stb=true) {K:AVal->Z2->Prop} (hk:vcV P op e h K):∃ r,SV P op e h r/\K r h:=by
 obtain ⟨dst,si,g⟩:=op
 cases g with
 | none=>
   obtain ⟨r,h1,h2⟩:=(UK (si:=si) hs).1 hk
   refine ⟨r,?_,h2⟩
   show vcI P si e h (fun r' h'=>r'=r/\h'=h)
   exact (UK hs).2 ⟨r,h1,rfl,rfl⟩
 | some sb=>
   obtain ⟨s,b⟩:=sb
   have hk:vcG P s b si e h K:=hk
   show ∃ r,vcG P s b si e h (fun r' h'=>r'=r/\h'=h)/\K r h
   by_cases hp:∃ f args,si=.pcall f args
   ·obtain ⟨f,args,rfl⟩:=hp
    obtain ⟨v,hk⟩:=hk
    obtain ⟨t,het,h1,h2⟩:=QZ hk
    refine ⟨_,⟨v,?_⟩,h2⟩
    rw [UQ het]
    exact ⟨h1,rfl,rfl⟩
   ·rw [WT hp] at hk
    by_cases hg:si.gated=true
    ·rw [if_pos hg] at hk
     obtain ⟨t,het,h1,h2⟩:=QZ hk
     refine ⟨_,?_,h2⟩
     rw [WT hp,if_pos hg,UQ het]
     exact ⟨h1,rfl,rfl⟩
    ·rw [if_neg hg] at hk
     obtain ⟨t,het,h1,h2⟩:=WQ hk
     cases t with
     | true=>
       obtain ⟨r,h3,h4⟩:=(UK (si:=si) hs).1 (h1 rfl)
       refine ⟨r,?_,h4⟩
       rw [WT hp,if_neg hg,gateE_w het]
       exact ⟨fun _=>(UK hs).2 ⟨r,h3,rfl,rfl⟩,fun hne=>by cases hne⟩
     | false=>
       refine ⟨.tup [],?_,h2 rfl⟩
       rw [WT hp,if_neg hg,gateE_w het]
       exact ⟨(fun h=>by cases h),fun _=>⟨rfl,rfl⟩⟩
theorem SV.heap {op:SOp} (hs:op.si.stb=true) {r:AVal} (hk:SV P op e h r) (hr:∀ t∈Q6 op e,h' t=h t):SV P op e h' r:=by
 have hroot:∀ r∈Q9 op.si e,h r=h' r:=fun r hr'=>(hr r hr').symm
 obtain ⟨dst,si,g⟩:=op
 cases g with
 | none=>
   have hk:vcI P si e h (fun r' h'=>r'=r/\h'=h):=hk
   obtain ⟨r',h1,rfl,_⟩:=(UK (si:=si) hs).1 hk
   show vcI P si e h' (fun r'' h''=>r''=r'/\h''=h')
   exact (UK hs).2 ⟨r',stbR_heap hs hroot h1,rfl,rfl⟩
 | some sb=>
   obtain ⟨s,b⟩:=sb
   have hk:vcG P s b si e h (fun r' h'=>r'=r/\h'=h):=hk
   show vcG P s b si e h' (fun r' h''=>r'=r/\h''=h')
   by_cases hp:∃ f args,si=.pcall f args
   ·obtain ⟨f,args,rfl⟩:=hp
    obtain ⟨v,hk⟩:=hk
    obtain ⟨t,het,h1,h2,_⟩:=QZ hk
    refine ⟨v,?_⟩
    rw [UQ het]
    exact ⟨h1,h2,rfl⟩
   ·rw [WT hp] at hk ⊢
    by_cases hg:si.gated=true
    ·rw [if_pos hg] at hk ⊢
     obtain ⟨t,het,h1,h2,_⟩:=QZ hk
     obtain ⟨e1,e2⟩:=fop_heap (h':=h') hroot
     rw [UQ het,<-e1,<-e2]
     exact ⟨h1,h2,rfl⟩
    ·rw [if_neg hg] at hk ⊢
     obtain ⟨t,het,h1,h2⟩:=WQ hk
     rw [gateE_w het]
     refine ⟨fun htb=>?_,fun hne=>⟨(h2 hne).1,rfl⟩⟩
     obtain ⟨r',h3,rfl,_⟩:=(UK (si:=si) hs).1 (h1 htb)
     exact (UK hs).2 ⟨r',stbR_heap hs hroot h3,rfl,rfl⟩
theorem YQ {op:SOp} (ha:∀ t∈op.rd,e t=e' t):Q6 op e=Q6 op e':=by
 unfold Q6 Q9
 split
 ·rename_i t s b x hx
  have:ev e x=ev e' x:=J5 fun t ht=>ha t (List.mem_append.2 (.inl (by rw [hx];exact List.mem_cons_of_mem _ ht)))
  rw [this]
 ·rename_i s b x hx
  have:ev e x=ev e' x:=J5 fun t ht=>ha t (List.mem_append.2 (.inl (by rw [hx];exact ht)))
  rw [this]
 ·rename_i kt ok z m k hx
  have:ev e m=ev e' m:=J5 fun t ht=>ha t (List.mem_append.2 (.inl (by rw [hx];exact List.mem_append.2 (.inl ht))))
  rw [this]
 ·rfl
theorem toSOps_get {ann:Ann} {n:Nat} {ops:Array Oper}:∀ {l:List Oper} {sl:List SOp},YT P ann n ops l=some sl->sl.length=l.length /\ ∀ (i:Nat) (o:Oper),l[i]? = some o -> ∃ op,sl[i]? = some op/\XK P ann n ops o=some op
 | [],sl,ht=>by simp [YT] at ht;subst ht;simp
 | o :: r,sl,ht=>by
   simp only [YT,Option.bind_eq_some_iff,Option.map_eq_some_iff] at ht
   obtain ⟨s,hs,sr,hsr,rfl⟩:=ht
   obtain ⟨h1,h2⟩:=toSOps_get hsr
   refine ⟨by simp [h1],fun i o' hi=>?_⟩
   cases i with
   | zero=>simp at hi;subst hi;exact ⟨s,rfl,hs⟩
   | succ i=>simp at hi ⊢; exact h2 i o' hi
end
def X7 (sops:List SOp) (i:Nat):SOp:=sops.getD i ⟨none,.mv (.c .dead),none⟩
def Pend (sops:List SOp) (g:Ghost) (w0 w:World) (a:Act) (i b:Nat):Prop:=
 ∃ (d ty sz:Nat) (z:List AVal) (cur:Array Value),X7 sops i=⟨some d,.new ty sz z,none⟩/\d<1000000/\a.tmps.getD d undef=.pointer (some ⟨b,0,none⟩)/\w.heap[b]? = some (.cells cur ty (0,0))/\cur.size=sz/\z.length=sz/\0<sz /\
   (∀ (j:Nat) (u:Value) (x:AVal),cur[j]? = some u->z[j]? = some x->u.oneCell'=true /\ ∀ g w,VRel g w u x)/\¬ Own g b/\¬ g.fz b/\w0.heap.size<=b
def MM (ms:List Nat) (g0:Ghost) (w0:World) (e:Env) (g:Ghost) (a:Act) (w:World):Prop:=MK ms w0 a/\MO ms g0 w0 e g w
structure DI (ms:List Nat) (P:PG) (ops:Array Oper) (sops:List SOp) (T:List (Nat×List Nat)) (eff dly:Nat->Bool) (n:Nat) (g0:Ghost) (w0:World) (K:Env->Z2->Prop)
 (A:Nat->Prop) (Pn:List (Nat×Nat)) (V R:List Nat) (e:Env) (h:Z2) (rs:List (Nat×Nat)) (a:Act) (w:World):Prop where
 vR:∀ i,i<sops.length->i∈V\/i∈R
 Vlt:∀ i∈V,i<sops.length
 Vcl:∀ i∈V,∀ p∈W9 ops i,p∈V
 Acl:∀ i,A i -> ∀ p∈W9 ops i,A p
 Asub:∀ i,A i->i∈V \/ ∃ b,(i,b)∈Pn
 Pn1:∀ i b,(i,b)∈Pn->A i/\i∉V/\i<sops.length/\dly i=true
 Pn2:Pn.Pairwise fun p q=>p.1≠q.1/\p.2≠q.2
 chk:chkL ops sops T eff dly V R=true
 st:∀ i∈V,¬ A i->eff i=false
 E:∃ ea g,ERel n ea g w a/\HRel h g w/\GSh g0 w0 g w/\MM ms g0 w0 ea g a w/\(∀ t,(∀ j∈V,¬ A j->(X7 sops j).dst≠some t)->(∀ p∈Pn,(X7 sops p.1).dst≠some t)->ea t=e t) /\ ∀ i b,(i,b)∈Pn->Pend sops g w0 w a i b
 sv:∀ i∈V,¬ A i -> ∀ d,(X7 sops i).dst=some d->SV P (X7 sops i) e h (e d)
 rt:∀ i∈V,¬ A i -> ∀ t∈Q6 (X7 sops i) e,((X7 sops i).dst.getD 0,t)∈rs
 vcd:vcD P (R.map fun i=>(X7 sops i,flg sops T eff i)) rs e h K
section
variable {P:PG} {ann:Ann} {ops:Array Oper} {sops:List SOp} {T:List (Nat×List Nat)} {eff dly:Nat->Bool} {n:Nat} {g0:Ghost} {w0:World} {K:Env->Z2->Prop}
theorem JZ {i:Nat} (hi:i<sops.length):sops[i]? = some (X7 sops i):=U6 sops i _ hi
theorem KQ {i:Nat} (heff:∀ i,i<sops.length->eff i=XZ sops T i) (hi:i<sops.length) (h:eff i=false):(X7 sops i).si.stb=true /\ ∃ d,(X7 sops i).dst=some d/\d∉(X7 sops i).rd /\
 ∀ j,j<sops.length->j≠i->(d∈(X7 sops j).rd->(XQ T j).contains i=true)/\(X7 sops j).dst≠some d:=by
 rw [heff i hi] at h
 unfold XZ at h
 rw [JZ hi] at h
 simp only [Bool.or_eq_false_iff,Bool.not_eq_false'] at h
 obtain ⟨h1,h2⟩:=h
 refine ⟨h1,?_⟩
 cases hd:(X7 sops i).dst with
 | none=>rw [hd] at h2;cases h2
 | some d=>
   rw [hd] at h2
   simp only [Bool.or_eq_false_iff] at h2
   obtain ⟨h0,h2⟩:=h2
   refine ⟨d,rfl,by simpa using h0,fun j hj hne=>?_⟩
   have h3:=List.any_eq_false.1 h2 j (List.mem_range.2 hj)
   rw [JZ hj] at h3
   simp only [Bool.and_eq_true,bne_iff_ne,ne_eq,Bool.or_eq_true,Bool.not_eq_true',beq_iff_eq] at h3
   refine ⟨fun hr=>?_,fun hd'=>h3 ⟨hne,.inr hd'⟩⟩
   cases hc:(XQ T j).contains i with
   | true=>rfl
   | false=>exact absurd ⟨hne,.inl ⟨by simpa using hr,hc⟩⟩ h3
theorem slotOK_out {i d:Nat} (hi:i<sops.length) (h:slotOK sops T i=true) (hd:(X7 sops i).dst=some d):∀ j,j<sops.length->j≠i->d∈(X7 sops j).rd->(XQ T j).contains i=true\/(XQ T i).contains j=true:=by
 unfold slotOK at h
 rw [JZ hi] at h
 simp only [hd] at h
 intro j hj hne hr
 have h3:=List.all_eq_true.1 h j (List.mem_range.2 hj)
 rw [JZ hj] at h3
 simp only [Bool.or_eq_true,beq_iff_eq,Bool.not_eq_true'] at h3
 rcases h3 with h3 | (h3 | h3) | h3
 ·exact absurd h3 hne
 ·have:(X7 sops j).rd.contains d=true:=by simpa using hr
  rw [this] at h3;cases h3
 ·exact .inl h3
 ·exact .inr h3
theorem ZV {V:List Nat} {i:Nat} {r:List Nat} (h:chkL ops sops T eff dly V (i :: r)=true):i<sops.length/\(∀ p∈W9 ops i,p∈V)/\i∉V/\chkL ops sops T eff dly (i :: V) r=true /\
 (eff i=true->(∀ s,s<sops.length->eff s=false->s∈V \/ ∃ p∈W9 ops s,p∉V)/\(∀ j∈r,eff j=true->dly j=true\/(XQ T j).contains i=true)/\slotOK sops T i=true):=by
 simp only [chkL,Bool.and_eq_true,decide_eq_true_eq,List.all_eq_true,Bool.not_eq_true'] at h
 obtain ⟨⟨⟨⟨h1,h2⟩,h3⟩,h4⟩,h5⟩:=h
 refine ⟨h1,fun p hp=>by simpa using h2 p hp,by simpa using h3,h5,fun he=>?_⟩
 rw [if_pos he] at h4
 simp only [Bool.and_eq_true,List.all_eq_true] at h4
 obtain ⟨⟨h6,h7⟩,h8⟩:=h4
 refine ⟨fun s hs hes=>?_,fun j hj hej=>?_,h8⟩
 ·have:=h6 s (List.mem_range.2 hs)
  simp only [hes,Bool.false_or,Bool.or_eq_true,List.any_eq_true,Bool.not_eq_true'] at this
  rcases this with h9 | ⟨p,hp,h9⟩
  ·exact .inl (by simpa using h9)
  ·exact .inr ⟨p,hp,by simpa using h9⟩
 ·have:=h7 j hj
  simpa only [hej,Bool.not_true,Bool.false_or,Bool.or_eq_true] using this
theorem flg_true {i:Nat} (h:eff i=true):flg sops T eff i=some (ancD sops T i):=if_pos h
theorem flg_false {i:Nat} (h:eff i=false):flg sops T eff i=none:=if_neg (by rw [h];simp)
theorem dly_out {i:Nat} (hdly:∀ i,i<sops.length->dly i=dlyOf ops sops T eff i) (hi:i<sops.length) (h:dly i=true):isAlloc ops i=true /\ ∃ d ty sz z,X7 sops i=⟨some d,.new ty sz z,none⟩ /\ ∀ j,j<sops.length->j≠i ->
 (X7 sops j).dst≠some d/\(d∈(X7 sops j).rd->eff j=true/\(XQ T j).contains i=true)/\(i∈W9 ops j->eff j=true):=by
 rw [hdly i hi] at h
 unfold dlyOf at h
 rw [JZ hi,Bool.and_eq_true] at h
 obtain ⟨h0,h⟩:=h
 split at h
 ·rename_i d ty sz z he
  refine ⟨h0,d,ty,sz,z,Option.some.inj he,fun j hj hne=>?_⟩
  have h3:=List.all_eq_true.1 h j (List.mem_range.2 hj)
  rw [JZ hj] at h3
  simp only [Bool.or_eq_true,beq_iff_eq,Bool.and_eq_true,bne_iff_ne,ne_eq,Bool.not_eq_true'] at h3
  rcases h3 with h3 | ⟨⟨h4,h5⟩,h6⟩
  ·exact absurd h3 hne
  ·refine ⟨h4,fun hr=>?_,fun hp=>?_⟩
   ·rcases h5 with h5 | h5
    ·rw [show (X7 sops j).rd.contains d=true by simpa using hr] at h5;cases h5
    ·exact h5
   ·rcases h6 with h6 | h6
    ·exact h6
    ·rw [show (W9 ops j).contains i=true by simpa using hp] at h6;cases h6
 ·cases h
theorem GSh.addTo2 {g0 g:Ghost} {w0 w:World} (S:GSh g0 w0 g w) {blk:Nat} (bo cap sz:Nat) (hb:w0.heap.size<=blk):GSh g0 w0 (g.add blk bo cap sz) w:=by
 refine ⟨S.toGStep.trans (GStep.add g w blk bo cap sz),S.own,fun b hlt ⟨r,hr,hc,he⟩=>?_,fun b h1 h2 h3=>S.fzn b h1 h2 h3,fun b h=>S.fzc b h⟩
 by_cases hrn:r=g.nxt
 ·subst hrn
  simp only [Ghost.add,Z9] at hc he
  omega
 ·have hr':r<g.nxt:=by simp only [Ghost.add] at hr;omega
  refine S.new b hlt ⟨r,hr',?_,?_⟩
  ·simpa only [Ghost.add,J7 _ _ hrn] using hc
  ·simpa only [Ghost.add,J7 _ _ hrn] using he
theorem Pend.step {g g':Ghost} {w0 w w':World} {a a':Act} {i b:Nat} (hp:Pend sops g w0 w a i b) (S:GS g w g' w') (ht:∀ d,(X7 sops i).dst=some d->a'.tmps.getD d undef=a.tmps.getD d undef):Pend sops g' w0 w' a' i b:=by
 obtain ⟨d,ty,sz,z,cur,ho,hd,hv,hc,h1,h2,h3,h4,h5,h6,h7⟩:=hp
 have hlt:b<w.heap.size:=(Array.getElem?_eq_some_iff.1 hc).1
 refine ⟨d,ty,sz,z,cur,ho,hd,(ht d (by rw [ho])).trans hv,(S.own b hlt (.inl h5)).trans hc,h1,h2,h3,h4,fun h=>h5 (S.new b hlt h),fun h=>h6 (S.fzn b hlt h5 h),h7⟩
theorem DI.eff_step (heff:∀ i,i<sops.length->eff i=XZ sops T i) (hT:TblOK ops T) {A A':Nat->Prop} {Pn Pn':List (Nat×Nat)} {V r:List Nat} {i:Nat} {e:Env} {h h':Z2} {rs:List (Nat×Nat)} {a a':Act} {w w':World} {v:AVal}
 (D:DI ann.mp P ops sops T eff dly n g0 w0 K A Pn V (i :: r) e h rs a w) (hef:eff i=true) (hA':∀ k,A' k↔k=i\/A k) (hpre:∀ p∈W9 ops i,A p) (hPn:∀ k b,(k,b)∈Pn'↔k≠i/\(k,b)∈Pn) (hPn2:Pn'.Pairwise fun p q=>p.1≠q.1/\p.2≠q.2)
 (hroots:keepR ((X7 sops i).rd++ancD sops T i) rs h h') (hrest:vcD P (r.map fun i=>(X7 sops i,flg sops T eff i)) (dropR ((X7 sops i).rd++ancD sops T i) rs) (V3 e (X7 sops i).dst v) h' K)
 (hE:∃ ea g,ERel n ea g w' a'/\HRel h' g w'/\GSh g0 w0 g w'/\MM ann.mp g0 w0 ea g a' w'/\(∀ t,(∀ j∈V,¬ A j->(X7 sops j).dst≠some t)->(∀ p∈Pn',(X7 sops p.1).dst≠some t)->ea t=V3 e (X7 sops i).dst v t) /\ ∀ i b,(i,b)∈Pn'->Pend sops g w0 w' a' i b) :
 DI ann.mp P ops sops T eff dly n g0 w0 K A' Pn' (i :: V) r (V3 e (X7 sops i).dst v) h' (dropR ((X7 sops i).rd++ancD sops T i) rs) a' w':=by
 obtain ⟨hiN,hp0,hiV,hchk,hC⟩:=ZV D.chk
 obtain ⟨hC1,hC2,hC3⟩:=hC hef
 have agree:∀ j∈V,¬ A j -> ∀ t∈(X7 sops j).rd,e t=V3 e (X7 sops i).dst v t:=by
  intro j hj hnj t ht
  cases hd:(X7 sops i).dst with
  | none=>rfl
  | some d=>
    have hji:j≠i:=fun hh=>hiV (hh ▸ hj)
    have:t≠d:=by
     rintro rfl
     rcases slotOK_out hiN hC3 hd j (D.Vlt j hj) hji ht with h1 | h1
     ·exact hiV (KY hT h1 (A:=fun x=>x∈V) D.Vcl (D.Vcl j hj))
     ·exact hnj (KY hT h1 (A:=A) D.Acl hpre)
    simp only [V3]
    rw [J7 e v this]
 have dstne:∀ j∈V,¬ A j -> ∀ d',(X7 sops j).dst=some d'->(X7 sops i).dst≠some d':=by
  intro j hj hnj d' hd'
  have hji:j≠i:=fun hh=>hiV (hh ▸ hj)
  obtain ⟨_,d,hd,_,hoth⟩:=KQ heff (D.Vlt j hj) (D.st j hj hnj)
  rw [hd'] at hd;cases hd
  exact (hoth i hiN (fun h=>hji h.symm)).2
 have unread:∀ j∈V,¬ A j->((X7 sops i).rd++ancD sops T i).contains ((X7 sops j).dst.getD 0)=false:=by
  intro j hj hnj
  have hji:j≠i:=fun hh=>hiV (hh ▸ hj)
  obtain ⟨_,d,hd,_,hoth⟩:=KQ heff (D.Vlt j hj) (D.st j hj hnj)
  rw [hd]
  cases hc:((X7 sops i).rd++ancD sops T i).contains d with
  | false=>exact hc
  | true=>
    exfalso
    rw [List.contains_iff_mem,List.mem_append] at hc
    rcases hc with hc | hc
    ·have h1:=(hoth i hiN (fun h=>hji h.symm)).1 hc
     exact hnj (KY hT h1 (A:=A) D.Acl hpre)
    ·unfold ancD at hc
     rw [List.mem_filterMap] at hc
     obtain ⟨k,hk,hkd⟩:=hc
     have hkA:A k:=KY hT (by simpa using hk) (A:=A) D.Acl hpre
     have hkN:k<sops.length:=by
      cases hs:sops[k]? with
      | none=>rw [hs] at hkd;cases hkd
      | some o=>exact (List.getElem?_eq_some_iff.1 hs).1
     rw [JZ hkN] at hkd
     have hkd2:(X7 sops k).dst=some d:=by
      generalize X7 sops k=o at hkd ⊢
      split at hkd
      ·rename_i d' s b x gd ho
       cases ho
       simpa using hkd
      ·cases hkd
     have hkj:k≠j:=fun hh=>hnj (hh ▸ hkA)
     exact (hoth k hkN hkj).2 hkd2
 have nA:∀ k,k∈i :: V->¬ A' k->k∈V/\¬ A k:=by
  intro k hk hnk
  rcases List.mem_cons.1 hk with rfl | hk
  ·exact absurd ((hA' k).2 (.inl rfl)) hnk
  ·exact ⟨hk,fun h=>hnk ((hA' k).2 (.inr h))⟩
 obtain ⟨ea,g,E,H,S,hM,hag,hPd⟩:=hE
 refine ⟨fun k hk=>?_,fun k hk=>?_,fun k hk p hpk=>?_,fun k hk p hp=>?_,fun k hk=>?_,fun k b hk=>?_,hPn2,hchk,fun k hk hnk=>?_,⟨ea,g,E,H,S,hM,fun t ht ht2=>?_,hPd⟩,fun k hk hnk d' hd'=>?_,fun k hk hnk t ht=>?_,hrest⟩
 ·rcases D.vR k hk with h1 | h1
  ·exact .inl (List.mem_cons_of_mem _ h1)
  ·rcases List.mem_cons.1 h1 with rfl | h1
   ·exact .inl List.mem_cons_self
   ·exact .inr h1
 ·rcases List.mem_cons.1 hk with rfl | hk
  ·exact hiN
  ·exact D.Vlt k hk
 ·rcases List.mem_cons.1 hk with rfl | hk
  ·exact List.mem_cons_of_mem _ (hp0 p hpk)
  ·exact List.mem_cons_of_mem _ (D.Vcl k hk p hpk)
 ·rw [hA'] at hk ⊢
  rcases hk with rfl | hk
  ·exact .inr (hpre p hp)
  ·exact .inr (D.Acl k hk p hp)
 ·rcases (hA' k).1 hk with rfl | hk
  ·exact .inl List.mem_cons_self
  ·rcases D.Asub k hk with h1 | ⟨b,h1⟩
   ·exact .inl (List.mem_cons_of_mem _ h1)
   ·by_cases hki:k=i
    ·subst hki;exact .inl List.mem_cons_self
    ·exact .inr ⟨b,(hPn k b).2 ⟨hki,h1⟩⟩
 ·obtain ⟨hki,hk⟩:=(hPn k b).1 hk
  obtain ⟨h1,h2,h3,h4⟩:=D.Pn1 k b hk
  refine ⟨(hA' k).2 (.inr h1),fun hm=>?_,h3,h4⟩
  rcases List.mem_cons.1 hm with hm | hm
  ·exact hki hm
  ·exact h2 hm
 ·obtain ⟨h1,h2⟩:=nA k hk hnk
  exact D.st k h1 h2
 ·refine hag t (fun j hj hnj=>?_) ht2
  have hji:j≠i:=fun hh=>hiV (hh ▸ hj)
  exact ht j (List.mem_cons_of_mem _ hj) (fun h=>by rcases (hA' j).1 h with h1 | h1;exact hji h1;exact hnj h1)
 ·obtain ⟨h1,h2⟩:=nA k hk hnk
  have hne:=dstne k h1 h2 d' hd'
  have hed:V3 e (X7 sops i).dst v d'=e d':=by
   cases hd:(X7 sops i).dst with
   | none=>rfl
   | some d=>
     simp only [V3]
     exact J7 e v (fun h=>hne (by rw [hd,h]))
  rw [hed]
  have hs:=D.sv k h1 h2 d' hd'
  have hstb:=(KQ heff (D.Vlt k h1) (D.st k h1 h2)).1
  have hs2:SV P (X7 sops k) (V3 e (X7 sops i).dst v) h (e d'):=by
   unfold SV at hs ⊢
   rw [<-TZ (agree k h1 h2)]
   exact hs
  refine hs2.heap hstb fun t ht=>?_
  rw [<-YQ (agree k h1 h2)] at ht
  exact hroots _ (D.rt k h1 h2 t ht) (unread k h1 h2)
 ·obtain ⟨h1,h2⟩:=nA k hk hnk
  rw [<-YQ (agree k h1 h2)] at ht
  refine List.mem_filter.2 ⟨D.rt k h1 h2 t ht,?_⟩
  have:=unread k h1 h2
  simp only [this,Bool.not_false]
theorem pw_mem {α:Type} {R:α->α->Prop}:∀ {l:List α},l.Pairwise R -> ∀ {p q:α},p∈l->q∈l->p≠q->R p q\/R q p
 | x :: r,h,p,q,hp,hq,hne=>by
   rw [List.pairwise_cons] at h
   rcases List.mem_cons.1 hp with hp | hp <;> rcases List.mem_cons.1 hq with hq | hq
   ·exact absurd (hp.trans hq.symm) hne
   ·rw [hp];exact .inl (h.1 q hq)
   ·rw [hq];exact .inr (h.1 p hp)
   ·exact pw_mem h.2 hp hq hne
theorem DI.adopt (heff:∀ i,i<sops.length->eff i=XZ sops T i) (hT:TblOK ops T) {A:Nat->Prop} {Pn:List (Nat×Nat)} {V r:List Nat} {i b:Nat} {e:Env} {h:Z2} {rs:List (Nat×Nat)} {a:Act} {w:World}
 (D:DI ann.mp P ops sops T eff dly n g0 w0 K A Pn V (i :: r) e h rs a w) (hef:eff i=true) (hb:(i,b)∈Pn):∃ e' h' rs',DI ann.mp P ops sops T eff dly n g0 w0 K A (Pn.filter fun p=>p.1 != i) (i :: V) r e' h' rs' a w:=by
 obtain ⟨hAi,hiV,hiN,hdl⟩:=D.Pn1 i b hb
 obtain ⟨ea,g,E,H,S,hM,hag,hPd⟩:=D.E
 obtain ⟨d,ty,sz,z,cur,ho,hd6,hv,hc,hcs,hzl,hs0,hcell,hown,hfz,hlo⟩:=hPd i b hb
 have hlt:b<w.heap.size:=(Array.getElem?_eq_some_iff.1 hc).1
 have hvcd:=D.vcd
 simp only [List.map_cons,flg_true hef,vcD,vcOp,ho] at hvcd
 have hvcd:=(show ∀ r0,h r0=none->_ from hvcd) g.nxt H.none_nxt
 obtain ⟨hroots,hrest⟩:=hvcd
 have H':=H.add (blk:=b) (bo:=0) (cap:=1) (sz:=sz) (ty:=ty) (es:=[z]) hs0 (by simpa using hzl) (by simp) (.inr ⟨hlt,hfz,(fun r0 ob hr hc0 he=>hown ⟨r0,(H.obj r0 ob hr).lt,hc0,he⟩),cur,.mk0 hc,by omega,fun k j f x hf hx=>by
  cases k with
  | succ k=>simp at hf
  | zero=>
    simp at hf;subst hf
    have hj:=(List.getElem?_eq_some_iff.1 hx).1
    have hju:j<cur.size:=by omega
    obtain ⟨h1,h2⟩:=hcell j _ x (Array.getElem?_eq_getElem hju) hx
    exact ⟨_,by rw [Nat.zero_mul,Nat.zero_add,Nat.zero_add];exact Array.getElem?_eq_getElem hju,h1,h2 g w⟩⟩)
 have St':GStep g w (g.add b 0 1 sz) w:=GStep.add g w b 0 1 sz
 have hvr:VRel (g.add b 0 1 sz) w (a.tmps.getD d undef) (.vp g.nxt 0):=by
  rw [hv]
  have:=VRel.vp (g:=g.add b 0 1 sz) (w:=w) g.nxt 0 (Nat.lt_succ_self _) (by simp [Ghost.add]) (by simp [Ghost.add])
  simpa [Ghost.add] using this
 have newown:∀ c,c≠b->Own (g.add b 0 1 sz) c->Own g c:=by
  rintro c hcb ⟨r0,hr0,hc0,he0⟩
  by_cases hrn:r0=g.nxt
  ·subst hrn
   simp only [Ghost.add,Z9] at he0
   exact absurd he0.symm hcb
  ·exact ⟨r0,by simp only [Ghost.add] at hr0;omega,by simpa only [Ghost.add,J7 _ _ hrn] using hc0,by simpa only [Ghost.add,J7 _ _ hrn] using he0⟩
 have E':ERel n (upd ea d (.vp g.nxt 0)) (g.add b 0 1 sz) w a:=by
  refine ⟨⟨fun x hx=>?_,E.defers.two⟩,E.size,E.bnd,fun t ht=>?_,fun c=>?_⟩
  ·obtain ⟨m,h1,h2,h3,h4⟩:=E.defers.one x hx
   refine ⟨m,h1,h2,fun hh=>h3 (newown m ?_ hh),h4⟩
   rintro rfl
   rw [hc] at h2;cases h2
  ·unfold upd
   split
   ·rename_i e1;subst e1;exact hvr
   ·exact (E.slot t ht).step St'
  ·rw [J7 _ _ (by omega)]
   exact (E.glo c).step St'
 have hPn:∀ k c,(k,c)∈Pn.filter (fun p=>p.1 != i)↔k≠i/\(k,c)∈Pn:=fun k c=>by rw [List.mem_filter];simp [and_comm]
 refine ⟨_,_,_,D.eff_step (A':=A) (v:=.vp g.nxt 0) heff hT hef (fun k=>⟨fun h=>.inr h,fun h=>h.elim (fun e=>e ▸ hAi) id⟩) (D.Acl i hAi) hPn (D.Pn2.sublist List.filter_sublist) (by rw [ho];exact hroots) (by rw [ho];exact hrest) ⟨_,_,E',H',S.addTo2 0 1 sz hlo,⟨hM.1,(hM.2.step E St').put (dst:=some d) fun _ _ _ x hx=>by rcases hx with hx | hx <;> cases hx⟩,fun t ht ht2=>?_,fun k c hk=>?_⟩⟩
 ·rw [ho]
  simp only [V3,upd]
  split
  ·rfl
  ·rename_i htd
   refine hag t ht fun p hp=>?_
   by_cases hpi:p.1=i
   ·rw [hpi,ho];exact fun hh=>htd (Option.some.inj hh).symm
   ·exact ht2 p ((hPn p.1 p.2).2 ⟨hpi,hp⟩)
 ·obtain ⟨hki,hk⟩:=(hPn k c).1 hk
  have hcb:c≠b:=by
   have hne:((k,c):Nat×Nat)≠(i,b):=fun hh=>hki (congrArg Prod.fst hh)
   rcases pw_mem D.Pn2 hk hb hne with h1 | h1
   ·exact h1.2
   ·exact fun hh=>h1.2 hh.symm
  obtain ⟨d2,ty2,sz2,z2,cur2,q1,q2,q3,q4,q5,q6,q7,q8,q9,q10,q11⟩:=hPd k c hk
  exact ⟨d2,ty2,sz2,z2,cur2,q1,q2,q3,q4,q5,q6,q7,q8,fun hh=>q9 (newown c hcb hh),q10,q11⟩
theorem DI.advance (heff:∀ i,i<sops.length->eff i=XZ sops T i) (hT:TblOK ops T) {A:Nat->Prop} {a:Act} {w:World}:∀ (R V:List Nat) (Pn:List (Nat×Nat)) (e:Env) (h:Z2) (rs:List (Nat×Nat)),DI ann.mp P ops sops T eff dly n g0 w0 K A Pn V R e h rs a w ->
 ∃ Pn' V' R' e' h' rs',DI ann.mp P ops sops T eff dly n g0 w0 K A Pn' V' R' e' h' rs' a w/\(R'=[] \/ ∃ i r,R'=i :: r/\eff i=true/\¬ A i)
 | [],V,Pn,e,h,rs,D=>⟨Pn,V,[],e,h,rs,D,.inl rfl⟩
 | i :: r,V,Pn,e,h,rs,D=>by
   obtain ⟨hi,hp,hnV,hchk,_⟩:=ZV D.chk
   cases hef:eff i with
   | true=>
     by_cases hAi:A i
     ·rcases D.Asub i hAi with h1 | ⟨b,hb⟩
      ·exact absurd h1 hnV
      ·obtain ⟨e',h',rs',D'⟩:=D.adopt heff hT hef hb
       exact DI.advance heff hT r _ _ _ _ _ D'
     ·exact ⟨Pn,V,i :: r,e,h,rs,D,.inr ⟨i,r,rfl,hef,hAi⟩⟩
   | false=>
     obtain ⟨hstb,d,hd,hself,hoth⟩:=KQ heff hi hef
     have hv:=D.vcd
     simp only [List.map_cons,flg_false hef,vcD,vcOp] at hv
     obtain ⟨v,hSV,hrest⟩:=stable_split hstb hv
     rw [hd] at hrest
     have hnA:¬ A i:=fun ha=>by
      rcases D.Asub i ha with h1 | ⟨b,hb⟩
      ·exact hnV h1
      ·obtain ⟨_,_,_,hdl⟩:=D.Pn1 i b hb
       obtain ⟨_,_,_,_,_,_,_,ho,_⟩:∃ x1 x2 x3 x4 x5 x6 x7,X7 sops i=⟨some x1,.new x2 x3 x4,none⟩/\x5=x6+x7:=by
        obtain ⟨ea,g,_,_,_,_,_,hPd⟩:=D.E
        obtain ⟨d,ty,sz,z,_,ho,_⟩:=hPd i b hb
        exact ⟨d,ty,sz,z,0,0,0,ho,rfl⟩
       rw [ho] at hstb;cases hstb
     have agree:∀ j∈V,∀ t∈(X7 sops j).rd,e t=upd e d v t:=by
      intro j hj t ht
      have hji:j≠i:=fun hh=>hnV (hh ▸ hj)
      have:t≠d:=by
       rintro rfl
       have:=(hoth j (D.Vlt j hj) hji).1 ht
       exact hnV (KY hT this (A:=fun x=>x∈V) D.Vcl (D.Vcl j hj))
      rw [J7 e v this]
     have agreei:∀ t∈(X7 sops i).rd,e t=upd e d v t:=by
      intro t ht
      have:t≠d:=by rintro rfl;exact hself ht
      rw [J7 e v this]
     refine DI.advance heff hT r (i :: V) Pn (upd e d v) h (Z3 (X7 sops i) e++rs) ⟨fun k hk=>?_,fun k hk=>?_,fun k hk p hpk=>?_,D.Acl,fun k hk=>?_,fun k b hk=>?_,D.Pn2,hchk,fun k hk hA=>?_,?_,fun k hk hA d' hd'=>?_,fun k hk hA t ht=>?_,hrest⟩
     ·rcases D.vR k hk with h1 | h1
      ·exact .inl (List.mem_cons_of_mem _ h1)
      ·rcases List.mem_cons.1 h1 with rfl | h1
       ·exact .inl List.mem_cons_self
       ·exact .inr h1
     ·rcases List.mem_cons.1 hk with rfl | hk
      ·exact hi
      ·exact D.Vlt k hk
     ·rcases List.mem_cons.1 hk with rfl | hk
      ·exact List.mem_cons_of_mem _ (hp p hpk)
      ·exact List.mem_cons_of_mem _ (D.Vcl k hk p hpk)
     ·exact (D.Asub k hk).imp (List.mem_cons_of_mem _) id
     ·obtain ⟨h1,h2,h3,h4⟩:=D.Pn1 k b hk
      refine ⟨h1,fun hm=>?_,h3,h4⟩
      rcases List.mem_cons.1 hm with rfl | hm
      ·exact hnA h1
      ·exact h2 hm
     ·rcases List.mem_cons.1 hk with rfl | hk
      ·exact hef
      ·exact D.st k hk hA
     ·obtain ⟨ea,g,E,H,S,hM,hag,hPd⟩:=D.E
      refine ⟨ea,g,E,H,S,hM,fun t ht ht2=>?_,hPd⟩
      have htd:t≠d:=by
       rintro rfl
       exact ht i List.mem_cons_self hnA hd
      rw [J7 e v htd]
      exact hag t (fun j hj hA=>ht j (List.mem_cons_of_mem _ hj) hA) ht2
     ·rcases List.mem_cons.1 hk with rfl | hk
      ·rw [hd] at hd';cases hd'
       rw [Z9]
       unfold SV at hSV ⊢
       rw [<-TZ agreei]
       exact hSV
      ·have hki:k≠i:=fun hh=>hnV (hh ▸ hk)
       have hdd:d'≠d:=fun hh=>(hoth k (D.Vlt k hk) hki).2 (hh ▸ hd')
       rw [J7 e v hdd]
       have:=D.sv k hk hA d' hd'
       unfold SV at this ⊢
       rw [<-TZ (agree k hk)]
       exact this
     ·rcases List.mem_cons.1 hk with rfl | hk
      ·rw [<-YQ agreei] at ht
       exact List.mem_append.2 (.inl (List.mem_map.2 ⟨t,ht,rfl⟩))
      ·rw [<-YQ (agree k hk)] at ht
       exact List.mem_append.2 (.inr (D.rt k hk hA t ht))
def unl (N:Nat) (listed:Array Bool):Nat:=((List.range N).filter fun i=>!listed.getD i false).length
theorem getD_set {listed:Array Bool} {i k:Nat} (hi:i<listed.size):(listed.setIfInBounds i true).getD k false=if k=i then true else listed.getD k false:=by
 simp only [Array.getD_eq_getD_getElem?,Array.getElem?_setIfInBounds]
 by_cases h:i=k
 ·subst h;simp [hi]
 ·rw [if_neg h,if_neg (fun h'=>h h'.symm)]
theorem DI.done {A:Nat->Prop} {a:Act} {w:World} {Pn:List (Nat×Nat)} {V R:List Nat} {e:Env} {h:Z2} {rs:List (Nat×Nat)} (D:DI ann.mp P ops sops T eff dly n g0 w0 K A Pn V R e h rs a w) (hhead:R=[] \/ ∃ i r,R=i :: r/\eff i=true/\¬ A i) (hall:∀ i,i<sops.length->A i):Lift ann.mp n g0 w0 K a w:=by
 have hR:R=[]:=by
  rcases hhead with h | ⟨i,r,rfl,_,hA⟩
  ·exact h
  ·exact absurd (hall i (ZV D.chk).1) hA
 subst hR
 have hPn:Pn=[]:=by
  cases Pn with
  | nil=>rfl
  | cons p r=>
    obtain ⟨_,h2,h3,_⟩:=D.Pn1 p.1 p.2 List.mem_cons_self
    rcases D.vR p.1 h3 with h | h
    ·exact absurd h h2
    ·cases h
 subst hPn
 obtain ⟨ea,g,E,H,S,hM,hag,_⟩:=D.E
 have:ea=e:=funext fun t=>hag t (fun j hj hA=>absurd (hall j (D.Vlt j hj)) hA) (fun p hp=>by cases hp)
 subst this
 exact ⟨ea,h,g,D.vcd,E,H,S,hM.1,hM.2⟩
theorem toSI_new {o:Oper} {t ty sz:Nat} {z:List AVal} (ho:o.op=.alloc t) (h:toSI P.p ann o=some (.new ty sz z)):t=ty/\XU P.p ty=some z/\0<sz/\z.length=sz:=by
 unfold toSI at h
 rw [ho] at h
 simp only [Option.bind_eq_some_iff] at h
 obtain ⟨s,hs,z',hz,h⟩:=h
 split at h
 ·rename_i hc
  cases h
  exact ⟨rfl,hz,hc.1,hc.2⟩
 ·split at h <;> cases h
theorem toSOp_dst {o:Oper} {op:SOp} (h:XK P.p ann n ops o=some op):o.dst=op.dst:=by
 unfold XK at h
 simp only [Option.bind_eq_some_iff] at h
 obtain ⟨si,hsi,h⟩:=h
 split at h
 ·split at h
  ·cases h;rfl
  ·rw [Option.bind_eq_some_iff] at h
   obtain ⟨s,_,h⟩:=h
   split at h
   ·cases h;rfl
   ·cases h
 ·cases h
theorem new_ahead {o:Oper} {t:Nat} {op:SOp} {i d ty sz:Nat} {z:List AVal} {ea:Env} {h:Z2} {g:Ghost} {a:Act} {w:World} (ho:o.op=.alloc t) (hto:XK P.p ann n ops o=some op) (he:op=⟨some d,.new ty sz z,none⟩) (hop:X7 sops i=op) (E:ERel n ea g w a) (H:HRel h g w) (S:GSh g0 w0 g w) (hM:MM ann.mp g0 w0 ea g a w)
 {next:Act->World->Prop} {Q:Exit->Act->World->Prop}
 (hn:∀ a' w' b,ERel n (upd ea d .dead) g w' a'->HRel h g w'->GSh g0 w0 g w'->GS g w g w'->MM ann.mp g0 w0 (upd ea d .dead) g a' w'->b=w.heap.size->(∀ t,t≠d->a'.tmps.getD t undef=a.tmps.getD t undef)->Pend sops g w0 w' a' i b->next a' w') :
 if Region.wanted o (yielded ops a.tmps) then o.wp P a w next Q\/(o.asks P a w/\LetsOut Q) else next (a.put o.dst undef) w:=by
 subst he
 unfold XK at hto
 simp only [Option.bind_eq_some_iff] at hto
 obtain ⟨si,hsi,hto⟩:=hto
 split at hto
 case isFalse=>cases hto
 rename_i hq
 have hd:=dstOK_out hq.1
 clear hq
 split at hto
 case h_2=>
  rw [Option.bind_eq_some_iff] at hto
  obtain ⟨s,_,hto⟩:=hto
  split at hto
  ·simp at hto
  ·cases hto
 rename_i hg
 simp only [Option.some.injEq,SOp.mk.injEq] at hto
 obtain ⟨hdst,hsie,_⟩:=hto
 subst hsie
 obtain ⟨rfl,hz,hs0,hzl⟩:=toSI_new ho hsi
 have hw:Region.wanted o (yielded ops a.tmps)=true:=by simp [Region.wanted,hg]
 rw [if_pos hw]
 refine .inl ?_
 obtain ⟨inf,zv,hi,hzv,hc⟩:=ZW (g:=g) (w:=w) hz
 have hrun:(execOp a.eval o).run P.p w=.ok (.value (.pointer (some ⟨w.heap.size,0,none⟩))) (w.alloc (.cells zv.cells t)):=by
  simp [execOp,ho,Instr.alloc,zeroValue,typeInfo,hi,hzv,newVar,newRow]
 unfold Oper.wp
 rw [hrun]
 obtain ⟨s1,H'⟩:=H.alloc (.cells zv.cells t)
 have hdn:d<n:=hd d hdst
 have hE:=(E.step s1).put (v:=.pointer (some ⟨w.heap.size,0,none⟩)) (x:=.dead) hd (.dead _)
 rw [hdst] at hE
 refine hn _ _ w.heap.size ?_ H' (S.trans s1) s1 ⟨hM.1.put _ _,(hM.2.grow (by rw [World.size_alloc];omega)).put (dst:=some d) fun _ _ _ x hx=>by rcases hx with hx | hx <;> cases hx⟩ rfl (fun t htd=>?_) ⟨d,t,sz,z,zv.cells,hop,by have:=E.bnd;omega,?_,(MapKept.heap_alloc w _).1,by rw [hc.1,hzl],hzl,hs0,fun j u x hu hx=>⟨hc.2.1 j u hu,fun g1 w1=>?_⟩,fun ho2=>?_,fun hf=>?_,S.size⟩
 ·rw [hdst];exact hE
 ·rw [hdst]
  simp only [Act.put,Array.getD_eq_getD_getElem?,Array.getElem?_setIfInBounds]
  rw [if_neg (fun hh=>htd hh.symm)]
 ·rw [hdst]
  have:=E.size
  simp only [Act.put,Array.getD_eq_getD_getElem?,Array.getElem?_setIfInBounds]
  simp only [if_true]
  rw [if_pos (by omega)];rfl
 ·obtain ⟨inf1,zv1,hi1,hzv1,hc1⟩:=ZW (g:=g1) (w:=w1) hz
  rw [hi] at hi1;cases hi1
  rw [hzv] at hzv1;cases hzv1
  exact hc1.2.2 j u x hu hx
 ·obtain ⟨cur,_,_,hh⟩:=H.ow _ ho2
  have:=(Array.getElem?_eq_some_iff.1 hh).1
  omega
 ·have:=H.fz _ hf
  omega
theorem mup_stb {si:SI} (h:si.isMup=true):si.stb=false:=by cases si <;> first | rfl | cases h
theorem draw_aux (hnm:mupOK sops T=true) (GR:GRel P.gl g0 w0) (hsops:YT P ann n ops ops.toList=some sops) (heff:∀ i,i<sops.length->eff i=XZ sops T i) (hdly:∀ i,i<sops.length->dly i=dlyOf ops sops T eff i) (hT:TblOK ops T) (hpred:∀ i,i<sops.length -> ∀ p∈W9 ops i,p<i)
 {Q:Exit->Act->World->Prop} (hQ:∀ a w,Lift ann.mp n g0 w0 K a w->Q .normal a w) :
 ∀ (fuel:Nat) (listed:Array Bool) (Pn:List (Nat×Nat)) (V R:List Nat) (e:Env) (h:Z2) (rs:List (Nat×Nat)) (a:Act) (w:World),listed.size=sops.length->DI ann.mp P ops sops T eff dly n g0 w0 K (fun i=>listed.getD i false=true) Pn V R e h rs a w ->
   (R=[] \/ ∃ i r,R=i :: r/\eff i=true/\¬ listed.getD i false=true)->unl sops.length listed<=fuel->wpAny P .any ops Q fuel listed a w:=by
 obtain ⟨hlen,hget⟩:=toSOps_get hsops
 have hN:sops.length=ops.size:=by simpa using hlen
 have fin:∀ (listed:Array Bool) (Pn:List (Nat×Nat)) (V R:List Nat) (e:Env) (h:Z2) (rs:List (Nat×Nat)) (a:Act) (w:World),listed.size=sops.length->DI ann.mp P ops sops T eff dly n g0 w0 K (fun i=>listed.getD i false=true) Pn V R e h rs a w ->
  (R=[] \/ ∃ i r,R=i :: r/\eff i=true/\¬ listed.getD i false=true)->Region.ready .any ops listed=[]->Q .normal a w:=by
  intro listed Pn V R e h rs a w hsz D hhead hr
  refine hQ a w (D.done hhead fun i hi=>?_)
  induction i using Nat.strongRecOn with
  | _ i ih=>
    cases hc:listed.getD i false with
    | true=>rfl
    | false=>
      exfalso
      have hlt:i<listed.size:=by omega
      have hmem:i∈Region.ready .any ops listed:=by
       refine ready_iff.2 ⟨by omega,?_,fun p hp=>?_⟩
       ·simp only [Array.getD_eq_getD_getElem?,Array.getElem?_eq_getElem hlt,Option.getD_some] at hc ⊢
        exact hc
       ·have hpi:=hpred i hi p hp
        exact ih p hpi (by omega)
      rw [hr] at hmem
      cases hmem
 intro fuel
 induction fuel with
 | zero=>
   intro listed Pn V R e h rs a w hsz D hhead hf
   have hr:Region.ready .any ops listed=[]:=by
    cases hr:Region.ready .any ops listed with
    | nil=>rfl
    | cons i r=>
      exfalso
      obtain ⟨h1,h2,_⟩:=ready_iff.1 (show i∈Region.ready .any ops listed by rw [hr];exact List.mem_cons_self)
      have hlt:i<listed.size:=by omega
      have:i∈(List.range sops.length).filter fun i=>!listed.getD i false:=by
       refine List.mem_filter.2 ⟨List.mem_range.2 (by omega),?_⟩
       simp only [Array.getD_eq_getD_getElem?,Array.getElem?_eq_getElem hlt,Option.getD_some] at h2 ⊢
       simp [h2]
      have hpos:=List.length_pos_of_mem this
      unfold unl at hf
      omega
   exact ⟨hr,fin listed Pn V R e h rs a w hsz D hhead hr⟩
 | succ fuel ih=>
   intro listed Pn V R e h rs a w hsz D hhead hf
   refine ⟨fin listed Pn V R e h rs a w hsz D hhead,fun i hi=>?_⟩
   obtain ⟨hio,hnl,hpre⟩:=ready_iff.1 hi
   have hiN:i<sops.length:=by omega
   have hlt:i<listed.size:=by omega
   have hnA:¬ listed.getD i false=true:=by
    simp only [Array.getD_eq_getD_getElem?,Array.getElem?_eq_getElem hlt,Option.getD_some] at hnl ⊢
    simp [hnl]
   have hoi:ops[i]? = some ops[i]:=Array.getElem?_eq_getElem hio
   obtain ⟨op,hop,hto⟩:=hget i ops[i] (by simp)
   obtain rfl:op=X7 sops i:=by have:=JZ hiN;rw [hop] at this;exact Option.some.inj this
   have hodst:(ops[i]).dst=(X7 sops i).dst:=toSOp_dst hto
   have hA':∀ k,(listed.setIfInBounds i true).getD k false=true↔k=i\/listed.getD k false=true:=by
    intro k
    rw [getD_set hlt]
    by_cases hk:k=i
    ·simp [hk]
    ·simp [hk]
   have hcl':∀ k,(listed.setIfInBounds i true).getD k false=true -> ∀ p∈W9 ops k,(listed.setIfInBounds i true).getD p false=true:=by
    intro k hk p hp
    rw [hA'] at hk ⊢
    rcases hk with rfl | hk
    ·exact .inr (hpre p hp)
    ·exact .inr (D.Acl k hk p hp)
   have hunl:unl sops.length (listed.setIfInBounds i true)<unl sops.length listed:=by
    unfold unl
    refine filter_lt (i:=i) (List.mem_range.2 hiN) ?_ ?_ fun x hx=>?_
    ·simp [hnA]
    ·simp [getD_set hlt]
    ·rw [getD_set hlt] at hx
     split at hx
     ·simp at hx
     ·exact hx
   obtain ⟨ea,g,E,H,S,hM,hag,hPd⟩:=D.E
   have St':St ann.mp n g0 w0 ea h g a w:=⟨E,H,S,hM.1,hM.2⟩
   have pendt:∀ k b,(k,b)∈Pn -> ∀ d,(X7 sops k).dst=some d -> ∀ v,(a.put (ops[i]).dst v).tmps.getD d undef=a.tmps.getD d undef:=by
    intro k b hk d hd v
    obtain ⟨h1,h2,h3,h4⟩:=D.Pn1 k b hk
    obtain ⟨_,d',ty,sz,z,ho,hoth⟩:=dly_out hdly h3 h4
    rw [ho] at hd
    have hdd:d'=d:=Option.some.inj hd
    subst hdd
    have hki:i≠k:=fun hh=>hnA (hh ▸ h1)
    have hne:=(hoth i hiN hki).1
    rw [hodst]
    cases hd2:(X7 sops i).dst with
    | none=>rfl
    | some x=>
      have:x≠d':=fun hh=>hne (by rw [hd2,hh])
      simp only [Act.put,Array.getD_eq_getD_getElem?,Array.getElem?_setIfInBounds]
      rw [if_neg this]
   have reads:∀ t∈(X7 sops i).rd,ea t=e t:=by
    intro t ht
    refine hag t (fun j hj hnj hdj=>?_) (fun p hp hdp=>?_)
    ·have hji:j≠i\/j=i:=by omega
     obtain ⟨_,d,hd,hself,hoth⟩:=KQ heff (D.Vlt j hj) (D.st j hj hnj)
     rw [hdj] at hd;cases hd
     rcases hji with hji | rfl
     ·have:=(hoth i hiN (fun h=>hji h.symm)).1 ht
      exact hnj (KY hT this (A:=fun x=>listed.getD x false=true) D.Acl hpre)
     ·exact hself ht
    ·obtain ⟨h1,h2,h3,h4⟩:=D.Pn1 p.1 p.2 hp
     obtain ⟨_,d',ty,sz,z,ho,hoth⟩:=dly_out hdly h3 h4
     rw [ho] at hdp
     have hdd:d'=t:=Option.some.inj hdp
     subst hdd
     have hki:i≠p.1:=fun hh=>hnA (hh ▸ h1)
     obtain ⟨hef,hanc⟩:=(hoth i hiN hki).2.1 ht
     by_cases hiV:i∈V
     ·have:=D.st i hiV hnA
      rw [hef] at this;cases this
     ·have hiR:i∈R:=(D.vR i hiN).resolve_left hiV
      rcases hhead with rfl | ⟨i0,r,rfl,hef0,hn0⟩
      ·cases hiR
      ·obtain ⟨hi0,hp0,hn0V,hchk,hC⟩:=ZV D.chk
       obtain ⟨hC1,hC2,hC3⟩:=hC hef0
       rcases List.mem_cons.1 hiR with hii | hir
       ·subst hii
        have hpV:p.1∈V:=KY hT hanc (A:=fun x=>x∈V) D.Vcl hp0
        exact h2 hpV
       ·rcases hC2 i hir hef with hdl | hanc0
        ·obtain ⟨_,d2,ty2,sz2,z2,ho2,_⟩:=dly_out hdly hiN hdl
         rw [ho2] at ht
         simp [SOp.rd,SI.rd] at ht
        ·exact hn0 (KY hT hanc0 (A:=fun x=>listed.getD x false=true) D.Acl hpre)
   show wpOp P ops Q i (wpAny P .any ops Q fuel (listed.setIfInBounds i true)) a w
   unfold wpOp
   rw [hoi]
   by_cases hmp:(X7 sops i).si.isMup=true
   ·-- a map is turned: all else has been done
    have hoth:∀ j,j<sops.length->j≠i->(XQ T i).contains j=true:=fun j hj hji=>by
     have h0:=List.all_eq_true.1 hnm i (List.mem_range.2 hiN)
     rw [Bool.or_eq_true] at h0
     rcases h0 with h1 | h1
     ·have h2:(X7 sops i).si.isMup=false:=by simpa [X7] using h1
      rw [hmp] at h2;cases h2
     ·have h3:=List.all_eq_true.1 h1 j (List.mem_range.2 hj)
      rw [Bool.or_eq_true] at h3
      rcases h3 with h2 | h2
      ·exact absurd (by simpa using h2) hji
      ·exact h2
    have hef:eff i=true:=by
     rw [heff i hiN];unfold XZ;rw [JZ hiN]
     simp [mup_stb hmp]
    have hiV:i∉V:=fun hv=>by have:=D.st i hv hnA;rw [hef] at this;cases this
    have hiR:i∈R:=(D.vR i hiN).resolve_left hiV
    have hall:∀ j,j<sops.length->j≠i->listed.getD j false=true:=fun j hj hji=>KY hT (hoth j hj hji) (A:=fun x=>listed.getD x false=true) D.Acl hpre
    rcases hhead with rfl | ⟨i0,r,rfl,hef0,hnA0⟩
    ·cases hiR
    ·obtain ⟨hi0,hp0,hn0,hchk,hC⟩:=ZV D.chk
     obtain rfl:i0=i:=Classical.byContradiction fun hne=>hnA0 (hall i0 hi0 hne)
     have hVall:∀ j,j<sops.length->j≠i0->j∈V:=fun j hj hji=>KY hT (hoth j hj hji) (A:=fun x=>x∈V) D.Vcl hp0
     have hr0:r=[]:=by
      cases r with
      | nil=>rfl
      | cons j r'=>
        obtain ⟨hj0,_,hjn,_,_⟩:=ZV hchk
        refine absurd ?_ hjn
        by_cases hj:j=i0
        ·rw [hj];exact List.mem_cons_self
        ·exact List.mem_cons_of_mem _ (hVall j hj0 hj)
     have hPn:∀ k b,(k,b)∉Pn:=fun k b hk=>by
      obtain ⟨h1,h2,h3,_⟩:=D.Pn1 k b hk
      exact h2 (hVall k h3 (fun e=>hnA (e ▸ h1)))
     have hae:ea=e:=funext fun t=>hag t (fun j hj hnj=>absurd (hall j (D.Vlt j hj) (fun e=>hiV (e ▸ hj))) hnj) (fun p hp=>absurd hp (hPn p.1 p.2))
     subst hae
     have hv:=D.vcd
     simp only [hr0,List.map_cons,List.map_nil,flg_true hef0,vcD] at hv
     have hv2:vcOp P (X7 sops i0) ea h K:=by
      unfold vcOp at hv ⊢
      exact vcV_mono hv fun r h' hh=>hh.2
     refine mup_sound hto hmp hv2 St' fun a' w' L=>?_
     have hrd:Region.ready .any ops (listed.setIfInBounds i0 true)=[]:=by
      refine List.eq_nil_iff_forall_not_mem.2 fun k hk=>?_
      obtain ⟨h1,h2,_⟩:=ready_iff.1 hk
      have hkA:(listed.setIfInBounds i0 true).getD k false=true:=by
       rw [hA']
       by_cases hki:k=i0
       ·exact .inl hki
       ·exact .inr (hall k (by omega) hki)
      have hks:k<(listed.setIfInBounds i0 true).size:=by simp;omega
      simp only [Array.getD_eq_getD_getElem?,Array.getElem?_eq_getElem hks,Option.getD_some] at hkA h2
      rw [hkA] at h2;simp at h2
     cases fuel with
     | zero=>exact ⟨hrd,hQ a' w' L⟩
     | succ fuel=>exact ⟨fun _=>hQ a' w' L,fun k hk=>by rw [hrd] at hk;cases hk⟩
   have nm:(X7 sops i).si.isMup=false:=by simpa using hmp
   by_cases hiV:i∈V
   ·-- done already,in thought
    obtain ⟨_,d,hd,_,_⟩:=KQ heff hiN (D.st i hiV hnA)
    have hSV:=D.sv i hiV hnA d hd
    refine vcOp_soundS (e:=ea) (h:=h) (K:=fun e' h'=>e'=V3 ea (X7 sops i).dst (e d)/\h'=h) hto nm ?_ GR St' fun a' w' ⟨e',h',g',v,⟨he',hh'⟩,T',SS,hav⟩=>?_
    ·unfold vcOp
     rw [TZ reads]
     have:SV P (X7 sops i) e h (e d):=hSV
     unfold SV at this
     exact vcV_mono this (by rintro r h' ⟨rfl,rfl⟩;exact ⟨rfl,rfl⟩)
    ·subst he' hh'
     rw [hd] at T'
     refine ih _ Pn V R e h' rs a' w' (by simp [hsz]) ⟨D.vR,D.Vlt,D.Vcl,hcl',fun k hk=>?_,fun k b hk=>?_,D.Pn2,D.chk,fun k hk hnk=>D.st k hk fun h=>hnk ((hA' k).2 (.inr h)),⟨_,g',T'.E,T'.H,T'.S,⟨T'.M,T'.O⟩,fun t ht ht2=>?_,fun k b hk=>?_⟩,
      fun k hk hnk=>D.sv k hk fun h=>hnk ((hA' k).2 (.inr h)),fun k hk hnk=>D.rt k hk fun h=>hnk ((hA' k).2 (.inr h)),D.vcd⟩ ?_ (by omega)
     ·rcases (hA' k).1 hk with rfl | hk
      ·exact .inl hiV
      ·exact D.Asub k hk
     ·obtain ⟨h1,h2⟩:=D.Pn1 k b hk
      exact ⟨(hA' k).2 (.inr h1),h2⟩
     ·simp only [V3]
      by_cases htd:t=d
      ·subst htd;rw [Z9]
      ·rw [J7 _ _ htd]
       refine hag t (fun j hj hnj hdj=>?_) ht2
       by_cases hji:j=i
       ·subst hji;rw [hd] at hdj;exact htd (Option.some.inj hdj).symm
       ·exact ht j hj (fun h=>by rcases (hA' j).1 h with h1 | h1;exact hji h1;exact hnj h1) hdj
     ·refine (hPd k b hk).step SS fun d2 hd2=>?_
      rw [hav];exact pendt k b hk d2 hd2 v
     ·rcases hhead with h1 | ⟨i0,r,h1,h2,h3⟩
      ·exact .inl h1
      ·refine .inr ⟨i0,r,h1,h2,fun hh=>?_⟩
       rcases (hA' i0).1 hh with h4 | h4
       ·subst h4
        subst h1
        exact (ZV D.chk).2.2.1 hiV
       ·exact h3 h4
   ·have hiR:i∈R:=(D.vR i hiN).resolve_left hiV
    rcases hhead with rfl | ⟨i0,r,rfl,hef0,hnA0⟩
    ·cases hiR
    ·obtain ⟨hi0,hp0,hn0,hchk,hC⟩:=ZV D.chk
     obtain ⟨hC1,hC2,hC3⟩:=hC hef0
     by_cases hii:i=i0
     ·-- it is the next one that does something
      subst hii
      have hv:=D.vcd
      simp only [List.map_cons,flg_true hef0,vcD] at hv
      refine vcOp_soundS (e:=ea) (h:=h) (K:=fun e' h'=>∃ v,e'=V3 ea (X7 sops i).dst v/\keepR ((X7 sops i).rd++ancD sops T i) rs h h'/\vcD P (r.map fun i=>(X7 sops i,flg sops T eff i)) (dropR ((X7 sops i).rd++ancD sops T i) rs) (V3 e (X7 sops i).dst v) h' K) hto nm ?_ GR St' fun a' w' ⟨e',h',g',v',⟨v,he',hroots,hrest⟩,T',SS,hav⟩=>?_
      ·unfold vcOp at hv ⊢
       rw [TZ reads]
       exact vcV_mono hv fun r h' hh=>⟨r,rfl,hh⟩
      ·subst he'
       have nPn:∀ b,(i,b)∉Pn:=fun b hb=>hnA (D.Pn1 i b hb).1
       have D':=D.eff_step (A':=fun k=>(listed.setIfInBounds i true).getD k false=true) (Pn':=Pn) heff hT hef0 hA' hpre (fun k b=>⟨fun hk=>⟨fun hh=>nPn b (hh ▸ hk),hk⟩,fun hk=>hk.2⟩) D.Pn2 hroots hrest ⟨_,g',T'.E,T'.H,T'.S,⟨T'.M,T'.O⟩,fun t ht ht2=>by
        cases hd:(X7 sops i).dst with
        | none=>exact hag t ht ht2
        | some d=>
          simp only [V3,upd]
          split
          ·rfl
          ·exact hag t ht ht2,fun k b hk=>(hPd k b hk).step SS fun d2 hd2=>by rw [hav];exact pendt k b hk d2 hd2 v'⟩
       obtain ⟨Pn',V',R',e',h'',rs',D'',hh⟩:=D'.advance heff hT
       exact ih _ Pn' V' R' e' h'' rs' a' w' (by simp [hsz]) D'' hh (by omega)
     ·-- a variable made ahead of its turn
      have hir:i∈r:=(List.mem_cons.1 hiR).resolve_left hii
      have hdl:dly i=true:=by
       cases hefi:eff i with
       | true=>
         rcases hC2 i hir hefi with h1 | h1
         ·exact h1
         ·exact absurd (KY hT h1 (A:=fun x=>listed.getD x false=true) D.Acl hpre) hnA0
       | false=>
         exfalso
         rcases hC1 i hiN hefi with h1 | ⟨p,hp,h1⟩
         ·exact hiV h1
         ·rcases D.Asub p (hpre p hp) with h2 | ⟨b,h2⟩
          ·exact h1 h2
          ·obtain ⟨g1,g2,g3,g4⟩:=D.Pn1 p b h2
           obtain ⟨_,d',ty,sz,z,ho,hoth⟩:=dly_out hdly g3 g4
           have hpi:i≠p:=fun hh=>hnA (hh ▸ g1)
           have:=(hoth i hiN hpi).2.2 hp
           rw [hefi] at this;cases this
      obtain ⟨hal,d,ty,sz,z,ho,hoth⟩:=dly_out hdly hiN hdl
      obtain ⟨t0,hot⟩:∃ t0,(ops[i]).op=.alloc t0:=by
       unfold isAlloc at hal
       rw [hoi] at hal
       simp only at hal
       split at hal
       ·rename_i t0 h0;exact ⟨t0,h0⟩
       ·cases hal
      refine new_ahead hot hto ho rfl E H S hM fun a' w' b E2 H2 S2 SS M2 hb ht2 hP=>?_
      have hbn:∀ k c,(k,c)∈Pn->c≠b:=by
       intro k c hk hcb
       obtain ⟨_,_,_,_,_,_,_,_,hc,_⟩:=hPd k c hk
       have:=(Array.getElem?_eq_some_iff.1 hc).1
       omega
      refine ih _ ((i,b) :: Pn) V (i0 :: r) e h rs a' w' (by simp [hsz]) ⟨D.vR,D.Vlt,D.Vcl,hcl',fun k hk=>?_,fun k c hk=>?_,?_,D.chk,fun k hk hnk=>D.st k hk fun h=>hnk ((hA' k).2 (.inr h)),⟨_,g,E2,H2,S2,M2,fun t ht htp=>?_,fun k c hk=>?_⟩,
       fun k hk hnk=>D.sv k hk fun h=>hnk ((hA' k).2 (.inr h)),fun k hk hnk=>D.rt k hk fun h=>hnk ((hA' k).2 (.inr h)),D.vcd⟩ (.inr ⟨i0,r,rfl,hef0,fun hh=>?_⟩) (by omega)
      ·rcases (hA' k).1 hk with rfl | hk
       ·exact .inr ⟨b,List.mem_cons_self⟩
       ·exact (D.Asub k hk).imp id fun ⟨c,hc⟩=>⟨c,List.mem_cons_of_mem _ hc⟩
      ·rcases List.mem_cons.1 hk with hk | hk
       ·cases hk
        exact ⟨(hA' i).2 (.inl rfl),hiV,hiN,hdl⟩
       ·obtain ⟨h1,h2⟩:=D.Pn1 k c hk
        exact ⟨(hA' k).2 (.inr h1),h2⟩
      ·refine List.pairwise_cons.2 ⟨fun q hq=>⟨fun hh=>hnA ?_,fun hh=>hbn q.1 q.2 hq hh.symm⟩,D.Pn2⟩
       have:=(D.Pn1 q.1 q.2 hq).1
       rw [<-hh] at this;exact this
      ·have htd:t≠d:=fun hh=>htp (i,b) List.mem_cons_self (by rw [ho,hh])
       rw [J7 _ _ htd]
       refine hag t (fun j hj hnj=>?_) (fun p hp=>htp p (List.mem_cons_of_mem _ hp))
       have hji:j≠i:=fun hh=>hiV (hh ▸ hj)
       exact ht j hj (fun h=>by rcases (hA' j).1 h with h1 | h1;exact hji h1;exact hnj h1)
      ·rcases List.mem_cons.1 hk with hk | hk
       ·cases hk;exact hP
       ·refine (hPd k c hk).step SS fun d2 hd2=>ht2 d2 ?_
        rintro rfl
        have hki:k≠i:=fun hh=>hnA (by have:=(D.Pn1 k c hk).1;rw [hh] at this;exact this)
        exact (hoth k (D.Pn1 k c hk).2.2.1 hki).1 hd2
      ·rcases (hA' i0).1 hh with h4 | h4
       ·exact hii h4.symm
       ·exact hnA0 h4
end
end Go.Sim
end
section
namespace Go.Sim
open Go
def FR (ro:Option Nat):Fence:={ fn:=fun _=>True,depth:=none,alive:=false,round:=ro }
theorem calls_in {ro:Option Nat} {n:Nat} {P:Program} {f:FuncId} {args:Array Value} {w:World} {R:Ending->World->Prop} (h:Calls P f args w R):CallsIn (FR ro) n P f args w R:=
 (callsIn_wide (n:=n)).2 h
theorem in_calls {ro:Option Nat} {n:Nat} {P:Program} {f:FuncId} {args:Array Value} {w:World} {R:Ending->World->Prop} (h:CallsIn (FR ro) n P f args w R):Calls P f args w R:=
 (callsIn_wide (n:=n)).1 h
theorem rows_in {ro:Option Nat} {n:Nat} {P:Program} {row:String} {args:Array Value} {w:World} {R:Value->World->Prop} (h:Rows P row args w R):RowsIn (FR ro) n P row args w R:=
 fun c cs _=>let ⟨v,w',r,s⟩:=h c cs; ⟨v,w',r,(StepsIn.of_steps s).mono fun m _=>fenced_wide P m⟩
section
variable {P:Program} {ro:Option Nat} {n:Nat} {ops:Array Oper} {Q:Exit->Act->World->Prop}
theorem op_in {o:Oper} (hd:∀ c,o.op≠.defer c) {a:Act} {w:World} {K:Act->World->Prop} (h:o.wp P a w K Q):o.wpIn (FR ro) n P a w K Q:=by
 refine ⟨fun _ _=>trivial,?_⟩
 have e:o.semAt (FR ro).round a.eval=execOp a.eval o:=by
  cases ro with
  | none=>rfl
  | some l=>exact Oper.semAt_some l _ _ hd
 rw [e]
 unfold Oper.wp at h
 generalize (execOp a.eval o).run P w=r at h
 cases r with
 | ok x w'=>
   cases x <;> simp only [Oper.upon,Oper.uponIn] at h ⊢ <;>
    first
     | exact h
     | exact ⟨fun hh=>(by cases hh),calls_in h⟩
     | exact ⟨fun hh=>(by cases hh),rows_in h⟩
 | halt x w'=>cases x <;> simp only [Oper.upon,Oper.uponIn] at h ⊢ <;> exact h
theorem list_in (hQ:¬ LetsOut Q):∀ (l:List Oper) (a:Act) (w:World),(∀ o∈l,∀ c,o.op≠.defer c)->wpList P ops Q l a w->wpListIn (FR ro) n P ops Q l a w
 | [],a,w,_,h=>h
 | o :: r,a,w,hd,h=>by
   unfold wpList at h
   unfold wpListIn
   split at h
   ·rename_i hw
    rw [if_pos hw]
    rcases h with h | h
    ·exact op_in (hd o List.mem_cons_self) (Oper.wp_mono (fun a' w' h'=>list_in hQ r a' w' (fun o ho=>hd o (List.mem_cons_of_mem _ ho)) h') h)
    ·exact absurd h.2 hQ
   ·rename_i hw
    rw [if_neg hw]
    exact ⟨fun _ _=>trivial,list_in hQ r _ w (fun o ho=>hd o (List.mem_cons_of_mem _ ho)) h⟩
theorem any_in (hQ:¬ LetsOut Q) {md:Region.Mode} (hd:∀ (i:Nat) (o:Oper),ops[i]? = some o -> ∀ c,o.op≠.defer c):∀ (fuel:Nat) (listed:Array Bool) (a:Act) (w:World),wpAny P md ops Q fuel listed a w->wpAnyIn (FR ro) n P md ops Q fuel listed a w
 | 0,_,_,_,h=>h
 | fuel+1,listed,a,w,h=>by
   refine ⟨h.1,fun i hi=>?_⟩
   have h:=h.2 i hi
   unfold wpOp at h
   unfold wpOpIn
   split
   ·rename_i ho
    rw [ho] at h
    exact any_in hQ hd fuel _ _ _ h
   ·rename_i o ho
    rw [ho] at h
    simp only at h
    split at h
    ·rename_i hw
     rw [if_pos hw]
     rcases h with h | h
     ·exact op_in (hd i o ho) (Oper.wp_mono (fun a' w' h'=>any_in hQ hd fuel _ a' w' h') h)
     ·exact absurd h.2 hQ
    ·rename_i hw
     rw [if_neg hw]
     exact ⟨fun _ _=>trivial,any_in hQ hd fuel _ _ _ h⟩
end
end Go.Sim
end
section
namespace Go.Sim
open Go Go.RowKit
section
variable {F:Fence} {n:Nat} {P:Program}
theorem range_rounds {α:Type} {g:Operand} {ps:Array Tmp} {first body:Code} {Q:Exit->Act->World->Prop} {a:Act} {w:World}
 (hro:F.round=none) (h1:1<=n) {k:Nat} {cs:Array Value} (hg:a.eval g=.func (.func k) #[] cs) (hFg:F.fn k) (eg:∀ args w,(callFunc k args).run P w=.ok (.enter k args) w)
 {encs:α->Array Value} {Kp:World->World->Prop} {S Sp:List α->Prop} {N:Nat} {w0:World} (hseq:SeqStopsK F (n-1) P k cs encs Kp S Sp N w0)
 (hKt:∀ {A B C:World},Kp A B->Kp B C->Kp A C) (hKb:∀ (W:World) (l:Nat) (o o':Obj),w.heap.size<=l->W.heap[l]? = some o->o.isCells=false->o.isWalk=false->Kp W (W.putObj l o')) (hb0:Below w0.heap.size w0 w) (hps:∀ x,(encs x).size=ps.size)
 (I:List α->World->Prop) (Ix:Code->List α->World->Prop) (hI:OwnFrom w.heap.size I) (hIx:∀ c,OwnFrom w.heap.size (Ix c)) (h0:I [] w)
 (hround:∀ (l:Nat) (pre:List α) (x:α) (W:World),w.heap.size<=l->I pre W->pre.length<N -> ∀ K:Act->World->Prop,
   (∀ a' W',KeepsFrom w.heap.size W W'->Kp W W'->(∀ r r':Loop,W'.heap[l]? = some (.loop r)->body.wpIn (F.inRound l) (n-1-1) P (ownPostG w.heap.size Kp I Ix (pre++[x]) (W'.putObj l (.loop r'))) a' (W'.putObj l (.loop r')))->K a' W') ->
   first.wpIn (F.inRound l) (n-1-1) P (Exit.then K (fun _ _ _=>False)) { tmps:=(ps.zip (encs x)).foldl (fun t (p,v)=>t.setIfInBounds p v) a.tmps,defers:=[] } W)
 (hdone:∀ (D:Nat) (xs:List α) (W:World),w.heap.size<=D->S xs->I xs W->W.heap[D]? = some (.deferred (some []))->Q .normal { a with defers:={ target:=.collected D,args:=#[] } :: a.defers } W)
 (hstop:∀ (D:Nat) (c:Code) (pre:List α) (W:World),w.heap.size<=D->Sp pre->Ix c pre W->W.heap[D]? = some (.deferred (some []))->c.wpIn F n P Q { a with defers:={ target:=.collected D,args:=#[] } :: a.defers } W) :
 (Code.rangeFunc g ps first body).wpIn F n P Q a w:=by
 refine wpIn_rangeFunc fun fn hfn=>?_
 rw [hro]
 let rec':LoopState->Option Code->Loop:=fun st pe=>{ state:=st,pending:=pe,fn,tmps:=a.tmps,params:=ps,assign:=first,body,defers:=w.heap.size }
 let L:=w.heap.size+1
 let Wb:=(w.alloc (.deferred (some []))).alloc (.loop (rec' .ready none))
 have hLb:Wb.heap[L]? = some (.loop (rec' .ready none)):=by
  have:=World.alloc_heap_new (w.alloc (.deferred (some []))) (.loop (rec' .ready none))
  rwa [World.size_alloc] at this
 have hDb:Wb.heap[w.heap.size]? = some (.deferred (some [])):=(Below.heap_alloc _ _ _ (by simp)).trans (World.alloc_heap_new w _)
 have hWb:Wb.heap.size=w.heap.size+2:=by simp [Wb]
 have inI:∀ {β:Type} {J:β->World->Prop} (s:β) (A B:World) (row:Option Nat),OwnFrom w.heap.size J->J s A->A.grownBy B row->(∀ r,row=some r->Wb.heap.size<=r /\ ∃ o:Obj,A.heap[r]? = some o/\o.isWalk=true)->J s B:=
  fun s A B row hJ h hgr hr=>hJ s A B row h hgr fun r e=>by
   obtain ⟨q,o,ho,hw⟩:=hr r e
   exact ⟨by omega,o,ho,Obj.not_cells_of_walk hw⟩
 refine ⟨L,[{ target:=.collected w.heap.size,args:=#[] }],Wb,{ target:=.fn (.func k) cs,args:=#[.func (.yield L) #[] #[]] },Wb,k,#[.func (.yield L) #[] #[]]++cs,Wb,run_enterLoop_outer _ _ _ _ _,?_,?_,?_,fun _=>h1,?_⟩
 ·simp only [resolve,hg]
  simp [go_sem]
 ·intro f' hf'
  simp [Target.leads] at hf'
  subst hf'
  exact hFg
 ·simp [invoke,go_sem,eg]
 refine (hseq L (fun pre W=>I pre W/\W.heap[L]? = some (.loop (rec' .ready none))/\W.heap[w.heap.size]? = some (.deferred (some [])))
  (fun pre W=>∃ c,Ix c pre W/\W.heap[L]? = some (.loop (rec' .done (some c)))/\W.heap[w.heap.size]? = some (.deferred (some []))) Wb
  (hb0.trans ((((Below.refl _ w).alloc (Nat.le_refl _) _).alloc (by simp) _).mono hb0.size)) (fun s A B row hs hgr hr=>?_) (fun s A B row hs hgr hr=>?_) ?_ ⟨hI.alloc _ (hI.alloc _ h0),hLb,hDb⟩).mono ?_
 ·exact ⟨inI s A B row hI hs.1 hgr hr,(grownBy_keeps hgr (fun r e=>(hr r e).2) hs.2.1 rfl).trans hs.2.1,(grownBy_keeps hgr (fun r e=>(hr r e).2) hs.2.2 rfl).trans hs.2.2⟩
 ·obtain ⟨c,hc,hl,hd⟩:=hs
  exact ⟨c,inI s A B row (hIx c) hc hgr hr,(grownBy_keeps hgr (fun r e=>(hr r e).2) hl rfl).trans hl,(grownBy_keeps hgr (fun r e=>(hr r e).2) hd rfl).trans hd⟩
 ·-- a round
  rintro pre x W ⟨hi,hl,hd⟩ hlen
  refine ⟨fn,_,first,body,run_yield (P:=P) (args:=encs x) hl (hps x),roundIn_of_wpIn hfn (hround L pre x W (by omega) hi hlen _ fun a' W' hkA hpA hB=>?_)⟩
  have hl':=hkA.same L _ (by omega) hl rfl
  have hd':=hkA.same _ _ (Nat.le_refl _) hd rfl
  have hlt:L<W'.heap.size:=(Array.getElem?_eq_some_iff.1 hl').1
  refine ⟨_,run_beginRound hl' rfl,?_⟩
  refine wpIn_mono (hB _ _ hl') fun e a3 W3 hp=>?_
  have hl2:(W'.putObj L (.loop { rec' .ready none with state:=.busy })).heap[L]? = some (.loop { rec' .ready none with state:=.busy }):=World.putObj_heap_same hlt
  have hd2:(W'.putObj L (.loop { rec' .ready none with state:=.busy })).heap[w.heap.size]? = some (.deferred (some [])):=(World.putObj_heap_other (by omega)).trans hd'
  have hp2:Kp W (W'.putObj L (.loop { rec' .ready none with state:=.busy })):=hKt hpA (hKb _ _ _ _ (by omega) hl' rfl rfl)
  have fin:∀ (jump:Option Code),KeepsFrom w.heap.size (W'.putObj L (.loop { rec' .ready none with state:=.busy })) W3 ->
   (Instr.endRound L jump).run P W3=.ok (.bool jump.isNone) (W3.putObj L (.loop (rec' (if jump.isNone then .ready else .done) jump)))/\W3.heap[L]? = some (.loop { rec' .ready none with state:=.busy }) /\
   (W3.putObj L (.loop (rec' (if jump.isNone then .ready else .done) jump))).heap[L]? = some (.loop (rec' (if jump.isNone then .ready else .done) jump)) /\
   (W3.putObj L (.loop (rec' (if jump.isNone then .ready else .done) jump))).heap[w.heap.size]? = some (.deferred (some [])):=fun jump hk3=>by
   have hl3:=hk3.same L _ (by omega) hl2 rfl
   exact ⟨run_endRound (P:=P) jump hl3,hl3,World.putObj_heap_same (Array.getElem?_eq_some_iff.1 hl3).1,(World.putObj_heap_other (by omega)).trans (hk3.same _ _ (Nat.le_refl _) hd2 rfl)⟩
  have stop:∀ c:Code,KeepsFrom w.heap.size (W'.putObj L (.loop { rec' .ready none with state:=.busy })) W3->Ix c (pre++[x]) W3 ->
   (Instr.endRound L (some c)).run P W3=.ok (.bool false) (W3.putObj L (.loop (rec' .done (some c)))) /\ ∃ c',Ix c' (pre++[x]) (W3.putObj L (.loop (rec' .done (some c))))/\(W3.putObj L (.loop (rec' .done (some c)))).heap[L]? = some (.loop (rec' .done (some c'))) /\
     (W3.putObj L (.loop (rec' .done (some c)))).heap[w.heap.size]? = some (.deferred (some [])):=fun c hk3 hi3=>by
   obtain ⟨q1,q2,q3,q4⟩:=fin (some c) hk3
   exact ⟨q1,c,(hIx c).putObj _ hi3 (by omega) q2 rfl,q3,q4⟩
  cases e with
  | normal=>
    obtain ⟨hk3,hp3,hi3⟩:=hp
    obtain ⟨q1,q2,q3,q4⟩:=fin none hk3
    exact ⟨_,_,q1,.inl ⟨rfl,⟨hI.putObj _ hi3 (by omega) q2 rfl,q3,q4⟩,hKt (hKt hp2 hp3) (hKb _ _ _ _ (by omega) q2 rfl rfl)⟩⟩
  | ret=>obtain ⟨q1,q2⟩:=stop .ret hp.1 hp.2;exact ⟨_,_,q1,.inr ⟨rfl,q2⟩⟩
  | exit id=>obtain ⟨q1,q2⟩:=stop (.exit id) hp.1 hp.2;exact ⟨_,_,q1,.inr ⟨rfl,q2⟩⟩
  | goto t=>obtain ⟨q1,q2⟩:=stop (.goto t) hp.1 hp.2;exact ⟨_,_,q1,.inr ⟨rfl,q2⟩⟩
  | panic ch=>exact hp.elim
  | outgrown=>exact hp.elim
 ·-- behind the iterator
  rintro e W2 ⟨⟨v,rfl⟩,(⟨xs,hS,hi,hl,hd⟩ | ⟨pre,hSp,c,hi,hl,hd⟩)⟩
  ·exact ⟨none,_,run_endLoop (P:=P) hl (by simp [rec']),hdone _ xs _ (Nat.le_refl _) hS (hI.putObj _ hi (by omega) hl rfl) ((World.putObj_heap_other (by omega)).trans hd)⟩
  ·exact ⟨some c,_,run_endLoop (P:=P) hl (by simp [rec']),hstop _ c pre _ (Nat.le_refl _) hSp ((hIx c).putObj _ hi (by omega) hl rfl) ((World.putObj_heap_other (by omega)).trans hd)⟩
end
end Go.Sim
end
section
namespace Go.Sim
open Go
def K7:Code->Bool
 | .rangeFunc .. => false
 | .seq a b=>K7 a&&K7 b
 | .cond _ a b=>K7 a&&K7 b
 | .block _ c=>K7 c
 | .loop c=>K7 c
 | .scope c=>K7 c
 | _=>true
def labelOf:SCode->Option Nat
 | .seq a b=>(labelOf a).or (labelOf b)
 | .label l=>some l
 | _=>none
def findS:SCode->Nat->Option SCode
 | .seq a b,l=>match findS a l with
   | some r=>some (.seq r b)
   | none=>findS b l
 | .label l',l=>if l'==l then some .skip else none
 | _,_=>none
def toS (P:Program) (ann:Ann) (n:Nat):Code->Option SCode
 | .skip=>some .skip
 | .region _ ops false=>(YT P ann n ops ops.toList).map .reg
 | .region _ ops true=>(toSD P ann n ops).map .dreg
 | .seq a b=>(toS P ann n a).bind fun x=>(toS P ann n b).map (.seq x)
 | .cond c a b=>(Y5 c).bind fun c=>(toS P ann n a).bind fun x=>(toS P ann n b).map (.cond c x)
 | .block id c=>(toS P ann n c).map (.block id)
 | .loop c=>(toS P ann n c).map .loop
 | .exit id=>some (.exit id)
 | .ret=>some .ret
 | .goto l=>some (.goto l)
 | .label l=>some (.label l)
 | .scope c=>(toS P ann n c).bind fun s=>(labelOf s).bind fun l=>(findS s l).map fun r=>.scope l s r
 | .rangeFunc f ps asg b=>if K7 asg=true/\K7 b=true/\(ps.toList.all fun p=>decide (p<n) && !ann.mp.contains p)=true/\ann.mp.contains 1000000=false then (Y5 f).bind fun fx=>(toS P { ann with mp:=1000000 :: ann.mp } n asg).bind fun sa=>(toS P { ann with mp:=1000000 :: ann.mp } n b).map (.range fx ps.toList sa) else none
 | _=>none
inductive SRes | tmp (t:Nat) | cell (t:Nat) (size:Nat) (agg:Bool)
def toSRes (P:Program):ResultVar->Option SRes
 | .tmp t=>if t<1000000 then some (.tmp t) else none
 | .cell a t=>if a<1000000 then (szT P t).bind fun s=>(aggT P t).map fun b=>.cell a s b else none
def resOK (e:Env) (h:Z2):SRes->Prop
 | .tmp _=>True
 | .cell a s b=>okLd h s b (e a)
def resV (e:Env) (h:Z2):SRes->AVal
 | .tmp t=>e t
 | .cell a s b=>aLd h s b (e a)
def allOK (e:Env) (h:Z2):List SRes->Prop
 | []=>True
 | r :: l=>resOK e h r/\allOK e h l
def retV (e:Env) (h:Z2):List SRes->AVal
 | [r]=>resV e h r
 | l=>.tup (l.map (resV e h))
def retK (rs:List SRes) (K:AVal->Z2->Prop):SExit->Env->Z2->Prop
 | .exit _,_,_=>False
 | .goto _,_,_=>False
 | _,e,h=>allOK e h rs /\ ∃ h',(∀ t o,h' t=some o->h t=some o)/\K (retV e h rs) h'
structure SFun where
 code:SCode
 res:List SRes
def Y6 (P:Program) (ann:Ann) (fn:Func):Option SFun:=
 fn.body.bind fun c=>(toS P ann fn.ntmps c).bind fun sc=>(fn.results.toList.mapM (toSRes P)).map fun rs=>⟨sc,rs⟩
def T5 (G:U5) (args:List AVal):Env:=fun t=>if t<1000000 then args.getD t .dead else G (t-1000000)
section
variable {P:PG} {ann:Ann} {n:Nat} {g0:Ghost} {w0:World}
theorem effs_get {α:Type} [Inhabited α] (f:Nat->Bool) (N i:Nat) (hi:i<N):((List.range N).map f).getD i true=f i:=by
 rw [List.getD_eq_getElem?_getD,List.getElem?_map,List.getElem?_range hi]
 rfl
theorem toSI_defer {ann:Ann} {o:Oper} {si:SI} (h:toSI P ann o=some si) (c:Call):o.op≠.defer c:=by
 intro e
 unfold toSI at h
 rw [e] at h
 cases h
theorem toSOps_defer {ops:Array Oper}:∀ {l:List Oper} {sl:List SOp},YT P ann n ops l=some sl -> ∀ o∈l,∀ c,o.op≠.defer c
 | [],_,_,o,ho=>by cases ho
 | x :: r,sl,h,o,ho=>by
   simp only [YT,Option.bind_eq_some_iff,Option.map_eq_some_iff] at h
   obtain ⟨s,hs,sr,hsr,rfl⟩:=h
   rcases List.mem_cons.1 ho with rfl | ho
   ·unfold XK at hs
    simp only [Option.bind_eq_some_iff] at hs
    obtain ⟨si,hsi,_⟩:=hs
    exact toSI_defer hsi
   ·exact toSOps_defer hsr o ho
theorem dreg_sound (GR:GRel P.gl g0 w0) {ro:Option Nat} {nn:Nat} {id:Nat} {ops:Array Oper} {Q:Exit->Act->World->Prop} (hL:¬ LetsOut Q) {l:List (SOp×Option (List Nat))} (ht:toSD P ann n ops=some l) {K:Env->Z2->Prop} (hQ:∀ a w,Lift ann.mp n g0 w0 K a w->Q .normal a w)
 {e:Env} {h:Z2} {g:Ghost} {a:Act} {w:World} (hk:vcD P l [] e h K) (S:St ann.mp n g0 w0 e h g a w):(Code.region id ops true).wpIn (FR ro) nn P Q a w:=by
 simp only [toSD,Option.bind_eq_some_iff] at ht
 obtain ⟨sops,hsops,ht⟩:=ht
 split at ht
 ·rename_i hc
  obtain ⟨hnm,hmix,hpred,hall,hchk⟩:=hc
  cases ht
  obtain ⟨hlen,_⟩:=toSOps_get hsops
  have hN:sops.length=ops.size:=by simpa using hlen
  refine wpIn_region_any hmix (any_in hL (fun i o ho=>toSOps_defer hsops o (Array.mem_toList_iff.2 (Array.mem_of_getElem? ho))) _ _ _ _ ?_)
  have heff:∀ i,i<sops.length->((List.range sops.length).map (XZ sops (T3 ops (List.range sops.length) []))).getD i true=XZ sops (T3 ops (List.range sops.length) []) i:=fun i hi=>effs_get (α:=Nat) _ _ _ hi
  have hT:TblOK ops (T3 ops (List.range sops.length) []):=ancTbl_ok ops _ [] (fun i l hl=>by simp at hl)
  have hp:∀ i,i<sops.length -> ∀ p∈W9 ops i,p<i:=by
   intro i hi p hp
   have:=List.all_eq_true.1 hpred i (List.mem_range.2 hi)
   simpa using List.all_eq_true.1 this p hp
  have S':St ann.mp n g0 w0 e h g a { w with drawn:=w.drawn+1 }:=by
   obtain ⟨s1,s2⟩:=S.H.drew
   exact ⟨S.E.step s1,s2,S.S.trans s1,S.M,S.O.step S.E s1.toGStep⟩
  have lf:∀ i,(Array.replicate ops.size false).getD i false=false:=by
   intro i
   simp only [Array.getD_eq_getD_getElem?]
   cases hx:(Array.replicate ops.size false)[i]? with
   | none=>rfl
   | some v=>rw [Array.getElem?_replicate] at hx;split at hx <;> simp_all
  have hdly:∀ i,i<sops.length->((List.range sops.length).map (dlyOf ops sops (T3 ops (List.range sops.length) []) (fun i=>((List.range sops.length).map (XZ sops (T3 ops (List.range sops.length) []))).getD i true))).getD i true=dlyOf ops sops (T3 ops (List.range sops.length) []) (fun i=>((List.range sops.length).map (XZ sops (T3 ops (List.range sops.length) []))).getD i true) i:=fun i hi=>effs_get (α:=Nat) _ _ _ hi
  have D:DI ann.mp P ops sops (T3 ops (List.range sops.length) []) (fun i=>((List.range sops.length).map (XZ sops (T3 ops (List.range sops.length) []))).getD i true)
   (fun i=>((List.range sops.length).map (dlyOf ops sops (T3 ops (List.range sops.length) []) (fun i=>((List.range sops.length).map (XZ sops (T3 ops (List.range sops.length) []))).getD i true))).getD i true) n g0 w0 K (fun i=>(Array.replicate ops.size false).getD i false=true) [] []
   (sfo ops (fun i=>((List.range sops.length).map (XZ sops (T3 ops (List.range sops.length) []))).getD i true)
     (fun i=>((List.range sops.length).map (dlyOf ops sops (T3 ops (List.range sops.length) []) (fun i=>((List.range sops.length).map (XZ sops (T3 ops (List.range sops.length) []))).getD i true))).getD i true) sops.length sops.length []) e h [] a { w with drawn:=w.drawn+1 }:=by
   refine ⟨fun i hi=>.inr ?_,by simp,by simp,fun i hi=>?_,fun i hi=>?_,by simp,.nil,hchk,by simp,⟨e,g,S'.E,S'.H,S'.S,⟨S'.M,S'.O⟩,fun _ _ _=>rfl,by simp⟩,by simp,by simp,hk⟩
   ·have:=List.all_eq_true.1 hall i (List.mem_range.2 hi)
    simpa using this
   ·rw [lf] at hi;cases hi
   ·rw [lf] at hi;cases hi
  obtain ⟨Pn,V,R,e',h',rs,D',hh⟩:=D.advance heff hT
  refine draw_aux hnm GR hsops heff hdly hT hp hQ ops.size _ Pn V R e' h' rs a _ (by simp [hN]) D' hh ?_
  unfold unl
  have:=List.length_filter_le (fun i=>!(Array.replicate ops.size false).getD i false) (List.range sops.length)
  simp only [List.length_range] at this
  omega
 ·cases ht
def exitOf:SExit->Exit
 | .normal=>.normal
 | .exit id=>.exit id
 | .ret=>.ret
 | .goto l=>.goto l
def LiftQ (ms:List Nat) (n:Nat) (g0:Ghost) (w0:World) (Q:SExit->Env->Z2->Prop) (x:Exit) (a:Act) (w:World):Prop:=∃ x',x=exitOf x'/\Lift ms n g0 w0 (Q x') a w
theorem LiftQ.in {ms:List Nat} {n:Nat} {g0:Ghost} {w0:World} {Q:SExit->Env->Z2->Prop}:¬ LetsOut (LiftQ ms n g0 w0 Q):=by
 rintro ⟨a,w,x',hx,_⟩
 cases x' <;> cases hx
theorem K8 {w:World} {D b:Nat} {o:Obj} (h:b≠D):(w.putObj D o).heap[b]? = w.heap[b]? := World.putObj_heap_other h
theorem ERel.setPs {g:Ghost} {w:World} {ds:List Deferred}:∀ (ps:List Nat) (vs:List Value) (as:List AVal) (e:Env) (ts:Array Value),(∀ p∈ps,p<n)->vs.length=as.length->(∀ (j:Nat) (u:Value) (x:AVal),vs[j]? = some u->as[j]? = some x->VRel g w u x) ->
 ERel n e g w { tmps:=ts,defers:=ds }->ERel n (setPs e ps as) g w { tmps:=(ps.zip vs).foldl (fun t p=>t.setIfInBounds p.1 p.2) ts,defers:=ds }
 | [],vs,as,e,ts,_,_,_,E=>by cases as <;> exact E
 | p :: ps,[],[],e,ts,_,_,_,E=>E
 | p :: ps,v :: vs,x :: as,e,ts,hp,hl,hv,E=>by
   refine ERel.setPs ps vs as (upd e p x) (ts.setIfInBounds p v) (fun q hq=>hp q (List.mem_cons_of_mem _ hq)) (by simpa using hl) (fun j u y hu hy=>hv (j+1) u y (by simpa using hu) (by simpa using hy)) ?_
   exact E.put (dst:=some p) (fun q hq=>by cases hq;exact hp p List.mem_cons_self) (hv 0 v x rfl rfl)
def codeOf:SExit->Code
 | .exit id=>.exit id
 | _=>.ret
structure Jw (g0:Ghost) (w0:World) (g:Ghost) (w:World) (ds:List Deferred) (h':Z2) (gc:Ghost) (W:World):Prop where
 H:HRel h' gc W
 S1:GSh g0 w0 gc W
 S2:GStep g w gc W
 D:DOK gc W ds
 hz:∀ b,gc.fz b->b<w.heap.size\/¬ V8 W b
def Hh (g0:Ghost) (w0 w:World):Nat->Prop:=fun b=>(w0.heap.size<=b\/g0.tn b)/\b<w.heap.size
theorem GStep.setT (g:Ghost) (w:World) (m:Nat->Prop):GStep g w { g with tn:=m } w:=
 ⟨Nat.le_refl _,fun _ _=>rfl,fun _ _=>rfl,fun _ _=>rfl,fun _ _=>rfl,fun _ h=>h,fun _ _=>rfl,rfl,rfl,rfl,Nat.le_refl _⟩
theorem setPs_off {t:Nat}:∀ (ps:List Nat) (as:List AVal) (e:Env),(∀ p∈ps,p≠t)->setPs e ps as t=e t
 | [],_,_,_=>rfl
 | p :: ps,[],_,_=>rfl
 | p :: ps,x :: as,e,h=>by
   rw [setPs,setPs_off ps as _ fun q hq=>h q (List.mem_cons_of_mem _ hq)]
   exact J7 _ _ (h p List.mem_cons_self).symm
theorem MO.round {ms ps:List Nat} {g0 g gc:Ghost} {w0 w W:World} {e:Env} {a:Act} (O:MO ms g0 w0 e g w) (E:ERel n e g w a) (hps:∀ p∈ps,ms.contains p=false) (S2:GStep g w gc W) (args:List AVal) :
 MO (1000000 :: ms) { gc with tn:=Hh g0 w0 w } W (setPs e ps args) gc W:=fun t h6 ht r hr=>by
 have ht':ms.contains t=true:=by
  rw [List.contains_cons,Bool.or_eq_true] at ht
  rcases ht with ht | ht
  ·have:t=1000000:=by simpa using ht
   omega
  ·exact ht
 rw [setPs_off ps args e (fun p hp hpt=>by subst hpt;rw [hps p hp] at ht';cases ht')] at hr
 have hv:=E.slot t h6
 have hlt:r<g.nxt:=by
  rcases hr with hr | hr <;> rw [hr] at hv
  ·exact hv.mpr_inv.1
  ·exact hv.ptr_inv.1
 obtain ⟨h1,h2⟩:=O t h6 ht' r hr
 rw [S2.eta r hlt]
 exact ⟨.inr ⟨h1.imp And.right id,h2⟩,Nat.lt_of_lt_of_le h2 S2.size⟩
theorem MO.rebase {ms:List Nat} {ga gb g:Ghost} {wa wb w w':World} {e:Env} (O:MO (1000000 :: ms) ga wa e g w) (ht:gb.tn=ga.tn) (hs:w.heap.size<=w'.heap.size):MO (1000000 :: ms) gb wb e g w':=fun t h6 h r hr=>by
 obtain ⟨h1,h2⟩:=O t h6 h r hr
 rcases h1 with ⟨h1,_⟩ | h1
 ·simp at h1
 ·exact ⟨.inr (by rw [ht];exact h1),Nat.lt_of_lt_of_le h2 hs⟩
theorem Jw.step {g0:Ghost} {w0:World} {g:Ghost} {w:World} {ds:List Deferred} {h' h2:Z2} {gc g':Ghost} {W W':World} (J:Jw g0 w0 g w ds h' gc W) (H':HRel h2 g' W') (S':GSh { gc with tn:=Hh g0 w0 w } W g' W'):Jw g0 w0 g w ds h2 g' W':=
 ⟨H',J.S1.transOf (GSh.ofM S') (fun b hb hm hn=>S'.own b (Nat.lt_of_lt_of_le hb J.S1.size) (fun ⟨⟨h1,_⟩,ht⟩=>by
   rcases h1 with h1 | h1
   ·omega
   ·obtain ⟨o,ho,hk⟩:=ht
    exact hm ⟨h1,o,(J.S1.own b hb hm hn).symm.trans ho,hk⟩) (J.S1.cond hb hm hn)) S'.new S'.fzn S'.fzc,J.S2.trans (GSh.ofM S'),J.D.stepH S',fun b hb=>by
   rcases S'.fzc b hb with h1 | h1
   ·rcases J.hz b h1 with h3 | h3
    ·exact .inl h3
    ·exact .inr fun ⟨o,ho,hc⟩=>h3 ⟨o,(S'.keep b h1).symm.trans ho,hc⟩
   ·exact .inr h1⟩
theorem Jw.put {g0:Ghost} {w0:World} {g:Ghost} {w:World} {ds:List Deferred} {h':Z2} {gc:Ghost} {W:World} (J:Jw g0 w0 g w ds h' gc W) (hw0:w0.heap.size<=w.heap.size) {l:Nat} (hl:w.heap.size<=l) {r r':Loop} (hr:W.heap[l]? = some (.loop r)) :
 Jw g0 w0 g w ds h' gc (W.putObj l (.loop r'))/\GStep gc W gc (W.putObj l (.loop r')) /\ ∀ ds',DOK gc W ds'->DOK gc (W.putObj l (.loop r')) ds':=by
 have hsz:(W.putObj l (.loop r')).heap.size=W.heap.size:=by simp [World.putObj]
 have hne:∀ b,b≠l->(W.putObj l (.loop r')).heap[b]? = W.heap[b]? := fun b hb=>K8 hb
 have hll:(W.putObj l (.loop r')).heap[l]? = some (.loop r'):=World.putObj_heap_same (Array.getElem?_eq_some_iff.1 hr).1
 have hnf:¬ gc.fz l:=fun hf=>by
  rcases J.hz l hf with h1 | h1
  ·omega
  ·exact h1 ⟨_,hr,rfl⟩
 have hno:¬ Own gc l:=fun ho=>by
  obtain ⟨cur,t,fz,hc⟩:=J.H.ow l ho
  rw [hr] at hc;cases hc
 have hfz:∀ b,gc.fz b->(W.putObj l (.loop r')).heap[b]? = W.heap[b]? := fun b hb=>hne b fun e=>hnf (e ▸ hb)
 have hown:∀ b,Own gc b->(W.putObj l (.loop r')).heap[b]? = W.heap[b]? := fun b hb=>hne b fun e=>hno (e ▸ hb)
 have W1:GStep gc W gc (W.putObj l (.loop r')):=GStep.world hfz rfl rfl rfl (by rw [hsz];exact Nat.le_refl _)
 have hdk:∀ ds',DOK gc W ds'->DOK gc (W.putObj l (.loop r')) ds':=fun ds' D=>⟨fun d hd=>by
  obtain ⟨D',e1,e2,e3,e4⟩:=D.one d hd
  exact ⟨D',e1,(hne D' fun e=>by rw [e,hr] at e2;cases e2).trans e2,e3,e4⟩,D.two⟩
 refine ⟨⟨⟨fun r ob ho=>(J.H.obj r ob ho).step W1 (fun hc=>hown _ ⟨r,(J.H.obj r ob ho).lt,hc,rfl⟩) (fun hc=>?_),J.H.inj,fun b hb=>by rw [hsz];exact J.H.fz b hb,fun b hb=>?_,⟨fun r n es hm=>?_,J.H.mob.two⟩⟩,
  ⟨J.S1.toGStep.trans W1,fun b hb hm hn=>(hne b (by omega)).trans (J.S1.own b hb hm hn),J.S1.new,J.S1.fzn,fun b hb=>?_⟩,J.S2.trans W1,hdk _ J.D,fun b hb=>?_⟩,W1,hdk⟩
 ·rcases (J.H.obj r ob ho).block with h' | ⟨_,hf',_⟩
  ·exact absurd h' hc
  ·exact hf'
 ·obtain ⟨cur,t,fz,hc⟩:=J.H.ow b hb
  exact ⟨cur,t,fz,(hown b hb).trans hc⟩
 ·have R:=J.H.mob.one r n es hm
  obtain ⟨o,hblk,hB⟩:=R.block
  refine ⟨R.lt,R.own,R.fz,R.bo,o,(hne _ fun e1=>?_).trans hblk,hB.step W1⟩
  rw [e1,hr] at hblk;cases hblk;exact hB.loop
 ·rcases J.S1.fzc b hb with h1 | h1
  ·exact .inl h1
  ·exact .inr fun ⟨o,ho,hc⟩=>h1 ⟨o,(hfz b hb).symm.trans ho,hc⟩
 ·rcases J.hz b hb with h1 | h1
  ·exact .inl h1
  ·exact .inr fun ⟨o,ho,hc⟩=>h1 ⟨o,(hfz b hb).symm.trans ho,hc⟩
theorem wcut_at {w:World} {m b:Nat} (h:b<m):(wcut w m).heap[b]? = w.heap[b]? := by
 simp only [wcut,Array.getElem?_extract,Nat.zero_add,Nat.sub_zero]
 split
 ·rfl
 ·rw [Array.getElem?_eq_none (by omega)]
theorem wcut_size {w:World} {m:Nat} (h:m<=w.heap.size):(wcut w m).heap.size=m:=by
 simp only [wcut,Array.size_extract];omega
theorem GStep.cutR {g g1:Ghost} {w W:World} {m:Nat} (S:GStep g w g1 W) (hf:∀ b,g.fz b->b<m) (hs:w.heap.size<=m) (hm:m<=W.heap.size):GStep g w (g1.cut m) (wcut W m) where
 nxt:=S.nxt
 eta:=S.eta
 bo:=S.bo
 cap:=S.cap
 sz:=S.sz
 fz b h:=⟨S.fz b h,hf b h⟩
 keep b h:=(wcut_at (hf b h)).trans (S.keep b h)
 os:=S.os
 tape:=S.tape
 output:=S.output
 size:=by rw [wcut_size hm];exact hs
theorem GSh.cutR {g g1:Ghost} {w W:World} {m:Nat} (S:GSh g w g1 W) (hf:∀ b,g.fz b->b<m) (hs:w.heap.size<=m) (hm:m<=W.heap.size):GSh g w (g1.cut m) (wcut W m) where
 toGStep:=S.toGStep.cutR hf hs hm
 own b hb hu hn:=(wcut_at (by omega)).trans (S.own b hb hu hn)
 new b hb ho:=S.new b hb ho
 fzn b hb hn h:=S.fzn b hb hn h.1
 fzc b h:=(S.fzc b h.1).imp id fun h1 ⟨o,ho,hc⟩=>h1 ⟨o,(wcut_at h.2).symm.trans ho,hc⟩
theorem rangeI_sound {ms:List Nat} (hms:ms.contains 1000000=false) {f:Operand} {ps:Array Nat} {asg body:Code} {fx:SX} {va vb:(SExit->Env->Z2->Prop)->Env->Z2->Prop} (hfx:Y5 f=some fx) (hps:(ps.toList.all fun p=>decide (p<n) && !ms.contains p)=true)
 (had:∀ (l:Nat) (g0:Ghost) (w0:World),GRel P.gl g0 w0 -> ∀ (Q:SExit->Env->Z2->Prop) (e:Env) (h:Z2) (g:Ghost) (a:Act) (w:World),va Q e h->St (1000000 :: ms) n g0 w0 e h g a w->asg.wpIn (FR (some l)) 0 P.p (LiftQ (1000000 :: ms) n g0 w0 Q) a w)
 (hbd:∀ (l:Nat) (g0:Ghost) (w0:World),GRel P.gl g0 w0 -> ∀ (Q:SExit->Env->Z2->Prop) (e:Env) (h:Z2) (g:Ghost) (a:Act) (w:World),vb Q e h->St (1000000 :: ms) n g0 w0 e h g a w->body.wpIn (FR (some l)) 0 P.p (LiftQ (1000000 :: ms) n g0 w0 Q) a w)
 {g0:Ghost} {w0:World} (GR:GRel P.gl g0 w0) {Q:SExit->Env->Z2->Prop} {e:Env} {h:Z2} {g:Ghost} {a:Act} {w:World} (hk:RangeI P fx ps.toList va vb Q e h) (S:St ms n g0 w0 e h g a w) :
 (Code.rangeFunc f ps asg body).wpIn (FR none) 2 P.p (LiftQ ms n g0 w0 Q) a w:=by
 obtain ⟨k,cap,IT,hf,hit,hI⟩:=hk
 obtain ⟨fn,hfn,hname,hbody⟩:=hit.call
 have hv:=J1 S.E hfx
 rw [hf] at hv
 obtain ⟨cs,hfv,hcs⟩:∃ cs,a.eval f=.func (.func k) #[] cs/\VRelL g w cs cap:=by
  revert hv
  generalize a.eval f=q
  intro hv
  cases hv with
  | fn _ fs cs _ _ hf1 hc1 h1 h2=>
    obtain rfl:fs = #[]:=by simpa using hf1
    exact ⟨cs,rfl,hc1,h2⟩
 have hB:fn.body.isNone=false:=by cases hb:fn.body <;> simp_all
 have eg:∀ args W,(callFunc k args).run P.p W=.ok (.enter k args) W:=fun args W=>by simp only [callFunc,Sem.run_bind,run_program,Sem.run_pure,Result.andThen_ok,hfn,hname,hB,Bool.false_eq_true,if_false]
 have hps':∀ p∈ps.toList,p<n:=fun p hp=>by have:=List.all_eq_true.1 hps p hp;rw [Bool.and_eq_true] at this;simpa using this.1
 have hps2:∀ p∈ps.toList,ms.contains p=false:=fun p hp=>by have:=List.all_eq_true.1 hps p hp;rw [Bool.and_eq_true] at this;simpa using this.2
 have hw0:w0.heap.size<=w.heap.size:=S.S.size
 refine wpIn_rangeFunc fun fno hfno=>?_
 let rec':LoopState->Option Code->Loop:=fun st pe=>{ state:=st,pending:=pe,fn:=fno,tmps:=a.tmps,params:=ps,assign:=asg,body,defers:=w.heap.size }
 let L:=w.heap.size+1
 let Wb:=(w.alloc (.deferred (some []))).alloc (.loop (rec' .ready none))
 have hLb:Wb.heap[L]? = some (.loop (rec' .ready none)):=by
  have:=World.alloc_heap_new (w.alloc (.deferred (some []))) (.loop (rec' .ready none))
  rwa [World.size_alloc] at this
 have hDb:Wb.heap[w.heap.size]? = some (.deferred (some [])):=(RowKit.Below.heap_alloc _ _ _ (by simp)).trans (World.alloc_heap_new w _)
 have hWb:Wb.heap.size=w.heap.size+2:=by simp [Wb]
 have hWo:∀ b,b<w.heap.size->Wb.heap[b]? = w.heap[b]? := fun b hb=>(RowKit.Below.heap_alloc _ _ _ (by simp;omega)).trans (RowKit.Below.heap_alloc _ _ _ hb)
 let st:Option SExit->Loop:=fun s=>match s with | none=>rec' .ready none | some x=>rec' .done (some (codeOf x))
 let Z:Inv:=fun s h' gc W=>Jw g0 w0 g w a.defers h' gc W/\W.heap[L]? = some (.loop (st s))/\W.heap[w.heap.size]? = some (.deferred (some [])) /\ ∀ x,s=some x->x≠.normal /\ ∀ j,x≠.goto j
 have hfzw:∀ b,g.fz b->b<w.heap.size:=S.H.fz
 have hfz0:∀ b,g0.fz b->b<L+1:=fun b hb=>by have:=hfzw b (S.S.fz b hb);show b<w.heap.size+1+1;omega
 have hfz1:∀ b,g.fz b->b<L+1:=fun b hb=>by have:=hfzw b hb;show b<w.heap.size+1+1;omega
 have GRg:GRel P.gl g w:=GR.step S.S
 have hsz:∀ {s h' gc W},Z s h' gc W->L+1<=W.heap.size:=fun z=>(Array.getElem?_eq_some_iff.1 z.2.1).1
 have hOK:InvOK P L (L+1) Z:=by
  refine ⟨fun z=>z.1.H,hsz,fun z b hb=>(z.1.hz b hb).imp (fun h=>by show b<w.heap.size+1+1;omega) id,fun z=>GRg.step (z.1.S2.cutR hfz1 (by show w.heap.size<=w.heap.size+1+1;omega) (hsz z)),?_⟩
  intro s h1 gc W h' g' W' z H' S'
  obtain ⟨J,hl,hd,hx⟩:=z
  have hs:=(Array.getElem?_eq_some_iff.1 hl).1
  have hcz:(wcut W (L+1)).heap.size=L+1:=wcut_size hs
  have non:∀ b o,b<L+1->W.heap[b]? = some o->o.isCells=false->W'.heap[b]? = some o:=fun b o hb ho hc=>by
   have e1:(wcut W (L+1)).heap[b]? = some o:=(wcut_at hb).trans ho
   exact (S'.own b (by rw [hcz];exact hb) (.inr ⟨o,e1,hc⟩)).trans e1
  refine ⟨⟨H',(J.S1.cutR hfz0 (by show w0.heap.size<=w.heap.size+1+1;omega) hs).trans S',(J.S2.cutR hfz1 (by show w.heap.size<=w.heap.size+1+1;omega) hs).trans S'.toGStep,?_,fun b hb=>?_⟩,non L _ (by omega) hl rfl,non _ _ (by show w.heap.size<w.heap.size+1+1;omega) hd rfl,hx⟩
  ·refine DOK.step S' ⟨fun d hd'=>?_,J.D.two⟩
   obtain ⟨D,e1,e2,e3,e4⟩:=J.D.one d hd'
   obtain ⟨D2,f1,f2,_⟩:=S.E.defers.one d hd'
   have:D=D2:=by rw [e1] at f1;cases f1;rfl
   subst this
   have hDw:=(Array.getElem?_eq_some_iff.1 f2).1
   exact ⟨D,e1,(wcut_at (by show D<w.heap.size+1+1;omega)).trans e2,e3,fun h=>e4 h.1⟩
  ·rcases S'.fzc b hb with h1 | h1
   ·rcases J.hz b h1.1 with h3 | h3
    ·exact .inl h3
    ·refine .inr fun ⟨o,ho,hc⟩=>h3 ⟨o,?_,hc⟩
     have:=S'.keep b h1
     rw [wcut_at h1.2] at this
     exact this.symm.trans ho
   ·exact .inr h1
 have J0:Jw g0 w0 g w a.defers h g Wb:=by
  have hk:∀ b,g.fz b->Wb.heap[b]? = w.heap[b]? := fun b hb=>hWo b (hfzw b hb)
  have W1:GStep g w g Wb:=GStep.world hk rfl rfl rfl (by rw [hWb];omega)
  have hown:∀ b,Own g b->Wb.heap[b]? = w.heap[b]? := fun b hb=>by
   obtain ⟨cur,t,fz,hc⟩:=S.H.ow b hb
   exact hWo b (Array.getElem?_eq_some_iff.1 hc).1
  refine ⟨⟨fun r ob ho=>(S.H.obj r ob ho).step W1 (fun hc=>hown _ ⟨r,(S.H.obj r ob ho).lt,hc,rfl⟩) (fun hc=>?_),S.H.inj,fun b hb=>Nat.lt_of_lt_of_le (hfzw b hb) (by rw [hWb];omega),fun b hb=>?_,⟨fun r n es hm=>?_,S.H.mob.two⟩⟩,
   ⟨S.S.toGStep.trans W1,fun b hb hu hn=>(hWo b (by omega)).trans (S.S.own b hb hu hn),S.S.new,S.S.fzn,fun b hb=>?_⟩,W1,⟨fun d hd=>?_,S.E.defers.two⟩,fun b hb=>.inl (hfzw b hb)⟩
  ·rcases (S.H.obj r ob ho).block with h' | ⟨_,hf',_⟩
   ·exact absurd h' hc
   ·exact hf'
  ·obtain ⟨cur,t,fz,hc⟩:=S.H.ow b hb
   exact ⟨cur,t,fz,(hown b hb).trans hc⟩
  ·have R:=S.H.mob.one r n es hm
   obtain ⟨o,hblk,hBl⟩:=R.block
   exact ⟨R.lt,R.own,R.fz,R.bo,o,(hWo _ (Array.getElem?_eq_some_iff.1 hblk).1).trans hblk,hBl.step W1⟩
  ·rcases S.S.fzc b hb with h1 | h1
   ·exact .inl h1
   ·exact .inr fun ⟨o,ho,hc⟩=>h1 ⟨o,(hk b hb).symm.trans ho,hc⟩
  ·obtain ⟨D',e1,e2,e3,e4⟩:=S.E.defers.one d hd
   exact ⟨D',e1,(hWo D' (Array.getElem?_eq_some_iff.1 e2).1).trans e2,e3,e4⟩
 have base:∀ {W:World} {gc:Ghost},GStep g w gc W->ERel n e gc W { tmps:=a.tmps,defers:=[] }:=fun S2=>⟨DOK.nil _ _,S.E.size,S.E.bnd,fun t h6=>(S.E.slot t h6).step S2,fun b=>(S.E.glo b).step S2⟩
 refine ⟨L,[{ target:=.collected w.heap.size,args:=#[] }],Wb,{ target:=.fn (.func k) cs,args:=#[.func (.yield L) #[] #[]] },Wb,k,#[.func (.yield L) #[] #[]]++cs,Wb,run_enterLoop_outer _ _ _ _ _,?_,?_,?_,fun _=>by decide,?_⟩
 ·simp only [resolve,hfv]
  simp [go_sem]
 ·intro f' hf'
  simp [Target.leads] at hf'
  subst hf'
  trivial
 ·simp [invoke,go_sem,eg]
 have hcsb:VRelL g Wb cs cap:=⟨hcs.1,fun j u y hu hy=>(hcs.2 j u y hu hy).step J0.S2⟩
 refine (hit.run L (L+1) (bdy ps.toList va vb e) Z (Nat.lt_succ_self L) hOK ?_ h g Wb cs _ ⟨J0,hLb,hDb,fun x hx=>by cases hx⟩ hcsb hI).mono ?_
 ·-- a round
  rintro h1 gc W args vals K ⟨J,hl,hd,_⟩ hV ⟨hlen,hva⟩
  have hsv:vals.size=ps.size:=by rw [hV.1,hlen];simp
  have E1:ERel n (setPs e ps.toList args) gc W { tmps:=(ps.zip vals).foldl (fun t (p,v)=>t.setIfInBounds p v) a.tmps,defers:=[] }:=by
   have:=ERel.setPs ps.toList vals.toList args e a.tmps hps' (by simpa using hV.1) (fun j u y hu hy=>hV.2 j u y (by simpa using hu) hy) (base J.S2)
   rw [<-Array.toList_zip,Array.foldl_toList] at this
   exact this
  refine ⟨fno,_,asg,body,run_yield (P:=P.p) (args:=vals) hl hsv,roundIn_of_wpIn hfno ?_⟩
  refine wpIn_mono (had L { gc with tn:=Hh g0 w0 w } W ((GR.step J.S1).step (GStep.setT gc W _)) _ _ h1 gc _ W hva ⟨E1,J.H,GSh.reflM gc W _,MK.body,MO.round S.O S.E hps2 J.S2 _⟩) ?_
  rintro _ a1 W1 ⟨x1,rfl,e1,h2,g1,hq1,T1⟩
  cases x1 with
  | exit id=>exact hq1.elim
  | ret=>exact hq1.elim
  | goto j=>exact hq1.elim
  | normal=>
  have hl1:W1.heap[L]? = some (.loop (rec' .ready none)):=(T1.S.own L (Array.getElem?_eq_some_iff.1 hl).1 (fun q=>absurd q.1.2 (by show ¬ w.heap.size+1<w.heap.size;omega)) (.inr ⟨_,hl,rfl⟩)).trans hl
  have hd1:W1.heap[w.heap.size]? = some (.deferred (some [])):=(T1.S.own _ (Array.getElem?_eq_some_iff.1 hd).1 (fun q=>absurd q.1.2 (Nat.lt_irrefl _)) (.inr ⟨_,hd,rfl⟩)).trans hd
  refine ⟨_,run_beginRound hl1 rfl,?_⟩
  obtain ⟨J2,W2s,Dk⟩:=(J.step T1.H T1.S).put hw0 (show w.heap.size<=L by omega) (r':={ rec' .ready none with state:=.busy }) hl1
  have hl2:(W1.putObj L (.loop { rec' .ready none with state:=.busy })).heap[L]? = some (.loop { rec' .ready none with state:=.busy }):=World.putObj_heap_same (Array.getElem?_eq_some_iff.1 hl1).1
  have hd2:(W1.putObj L (.loop { rec' .ready none with state:=.busy })).heap[w.heap.size]? = some (.deferred (some [])):=(World.putObj_heap_other (by omega)).trans hd1
  have hn2:∀ b,b≠L->(W1.putObj L (.loop { rec' .ready none with state:=.busy })).heap[b]? = W1.heap[b]? := fun b hb=>K8 hb
  have hs2:(W1.putObj L (.loop { rec' .ready none with state:=.busy })).heap.size=W1.heap.size:=by simp [World.putObj]
  generalize W1.putObj L (.loop { rec' .ready none with state:=.busy })=W2 at J2 W2s Dk hl2 hd2 hn2 hs2
  have T2:St (1000000 :: ms) n { g1 with tn:=Hh g0 w0 w } W2 e1 h2 g1 a1 W2:=⟨⟨Dk _ T1.E.defers,T1.E.size,T1.E.bnd,fun t h6=>(T1.E.slot t h6).step W2s,fun b=>(T1.E.glo b).step W2s⟩,J2.H,GSh.reflM g1 W2 _,MK.body,T1.O.rebase rfl W2s.size⟩
  refine wpIn_mono (hbd L { g1 with tn:=Hh g0 w0 w } W2 ((GR.step J2.S1).step (GStep.setT g1 W2 _)) _ _ h2 g1 _ W2 hq1 T2) ?_
  rintro _ a' W3 ⟨x',rfl,e',h3,g',hq,S'⟩
  have J3:=J2.step S'.H S'.S
  have hl3:W3.heap[L]? = some (.loop { rec' .ready none with state:=.busy }):=(S'.S.own L (Array.getElem?_eq_some_iff.1 hl2).1 (fun q=>absurd q.1.2 (by show ¬ w.heap.size+1<w.heap.size;omega)) (.inr ⟨_,hl2,rfl⟩)).trans hl2
  have hd3:W3.heap[w.heap.size]? = some (.deferred (some [])):=(S'.S.own _ (Array.getElem?_eq_some_iff.1 hd2).1 (fun q=>absurd q.1.2 (Nat.lt_irrefl _)) (.inr ⟨_,hd2,rfl⟩)).trans hd2
  have fin:∀ (jump:Option Code) (s':Option SExit) (t:Bool),jump.isNone=t->st s'=rec' (if jump.isNone then .ready else .done) jump->(∀ x,s'=some x->x≠.normal /\ ∀ j,x≠.goto j)->((t=true/\s'=none/\K .normal h3)\/(t=false /\ ∃ ex,s'=some ex/\K ex h3/\ex≠.normal)) ->
   ∃ v w',(Instr.endRound L jump).run P.p W3=.ok v w'/\YPost (L+1) Z K gc W (.returned v) w':=by
   intro jump s' t ht hst hx hh
   refine ⟨_,_,run_endRound (P:=P.p) jump hl3,?_⟩
   obtain ⟨J4,W4s,_⟩:=J3.put hw0 (show w.heap.size<=L by omega) (r':={ { rec' .ready none with state:=.busy } with state:=if jump.isNone then .ready else .done,pending:=jump }) hl3
   have hl4:=World.putObj_heap_same (w:=W3) (o:=.loop { { rec' .ready none with state:=.busy } with state:=if jump.isNone then .ready else .done,pending:=jump }) (Array.getElem?_eq_some_iff.1 hl3).1
   have hn4:∀ b,b≠L->(W3.putObj L (.loop { { rec' .ready none with state:=.busy } with state:=if jump.isNone then .ready else .done,pending:=jump })).heap[b]? = W3.heap[b]? := fun b hb=>K8 hb
   have hd4:=(hn4 w.heap.size (by omega)).trans hd3
   generalize W3.putObj L (.loop { { rec' .ready none with state:=.busy } with state:=if jump.isNone then .ready else .done,pending:=jump })=W4 at J4 W4s hl4 hn4 hd4
   have hsame:∀ b o,w.heap.size<=b->b≠L->W.heap[b]? = some o->o.isCells=false->W4.heap[b]? = some o:=fun b o hwb hb ho hc=>by
    have q1:=(T1.S.own b (Array.getElem?_eq_some_iff.1 ho).1 (fun q=>absurd q.1.2 (by omega)) (.inr ⟨o,ho,hc⟩)).trans ho
    have q2:=(hn2 b hb).trans q1
    have q3:=(S'.S.own b (Array.getElem?_eq_some_iff.1 q2).1 (fun q=>absurd q.1.2 (by omega)) (.inr ⟨o,q2,hc⟩)).trans q2
    exact (hn4 b hb).trans q3
   refine ⟨s',h3,g',⟨J4,by rw [hst];exact hl4,hd4,hx⟩,(((GSh.ofM T1.S).trans W2s).trans (GSh.ofM S'.S)).trans W4s,fun b o hb ho hc=>hsame b o (by omega) (by omega) ho hc,fun b hb=>?_,fun b hb ho=>?_,?_⟩
   ·have nb:∀ {Wx Wy:World},(∀ c,c≠L->Wy.heap[c]? = Wx.heap[c]?)->Wy.heap[L]? ≠ none->True:=fun _ _=>trivial
    have hbL:b≠L:=fun hE=>by
     subst hE
     rcases J4.hz _ hb with h1 | h1
     ·omega
     ·exact h1 ⟨_,hl4,rfl⟩
    rcases S'.S.fzc b hb with h1 | h1
    ·rcases T1.S.fzc b h1 with h5 | h5
     ·exact .inl h5
     ·refine .inr fun ⟨o,ho,hc⟩=>h5 ⟨o,?_,hc⟩
      rw [hn4 b hbL] at ho
      exact (hn2 b hbL).symm.trans ((S'.S.keep b h1).symm.trans ho)
    ·exact .inr fun ⟨o,ho,hc⟩=>h1 ⟨o,(hn4 b hbL).symm.trans ho,hc⟩
   ·have o2:=S'.S.new b (by rw [hs2];exact Nat.lt_of_lt_of_le hb T1.S.size) ho
    exact T1.S.new b hb o2
   ·rcases hh with ⟨rfl,h1,h2⟩ | ⟨rfl,h1⟩
    ·exact .inl ⟨by rw [ht],h1,h2⟩
    ·exact .inr ⟨by rw [ht],h1⟩
  cases x' with
  | normal=>exact fin none none true rfl rfl (fun x hx=>by cases hx) (.inl ⟨rfl,rfl,hq⟩)
  | exit id=>exact fin (some (.exit id)) (some (.exit id)) false rfl rfl (fun x hx=>by cases hx;exact ⟨by simp,by simp⟩) (.inr ⟨rfl,_,rfl,hq,by simp⟩)
  | ret=>exact fin (some .ret) (some .ret) false rfl rfl (fun x hx=>by cases hx;exact ⟨by simp,by simp⟩) (.inr ⟨rfl,_,rfl,hq,by simp⟩)
  | goto j=>exact hq.elim
 ·-- behind the iterator
  rintro e' W2 ⟨⟨v,rfl⟩,s',h',gc,hQ,J,hl,hd,hx⟩
  have hbusy:(st s').state≠.busy:=by cases s' <;> simp [st,rec']
  have hpend:(st s').pending=s'.map codeOf:=by cases s' <;> rfl
  have hrun:=run_endLoop (P:=P.p) hl hbusy
  obtain ⟨J4,_,_⟩:=J.put hw0 (show w.heap.size<=L by omega) (r':={ st s' with state:=.exhausted }) hl
  have hd4:(W2.putObj L (.loop { st s' with state:=.exhausted })).heap[w.heap.size]? = some (.deferred (some [])):=(World.putObj_heap_other (by omega)).trans hd
  generalize W2.putObj L (.loop { st s' with state:=.exhausted })=W4 at J4 hd4 hrun
  rw [hpend] at hrun
  have St':St ms n g0 w0 e h' gc { a with defers:={ target:=.collected w.heap.size,args:=#[] } :: a.defers } W4:=by
   refine ⟨⟨⟨fun d hd=>?_,?_⟩,S.E.size,S.E.bnd,fun t h6=>(S.E.slot t h6).step J4.S2,fun b=>(S.E.glo b).step J4.S2⟩,J4.H,J4.S1,fun _ d hd D1 hD1=>?_,S.O.step S.E J4.S2⟩
   ·rcases List.mem_cons.1 hd with rfl | hd
    ·refine ⟨_,rfl,hd4,fun ho=>?_,fun hf=>?_⟩
     ·obtain ⟨cur,t,fz,hc⟩:=J4.H.ow _ ho
      rw [hc] at hd4;cases hd4
     ·rcases J4.hz _ hf with h1 | h1
      ·omega
      ·exact h1 ⟨_,hd4,rfl⟩
    ·exact J4.D.one d hd
   ·refine List.pairwise_cons.2 ⟨fun d hd he=>?_,J4.D.two⟩
    obtain ⟨D2,f1,f2,_⟩:=S.E.defers.one d hd
    have h1:=(Array.getElem?_eq_some_iff.1 f2).1
    rw [<-he] at f1
    cases f1
    omega
   ·rcases List.mem_cons.1 hd with rfl | hd
    ·cases hD1;omega
    ·exact S.M hms d hd D1 hD1
  cases s' with
  | none=>exact ⟨none,W4,hrun,.normal,rfl,e,h',gc,hQ,St'⟩
  | some x=>
    obtain ⟨hx1,hx2⟩:=hx x rfl
    refine ⟨some (codeOf x),W4,hrun,?_⟩
    cases x with
    | normal=>exact absurd rfl hx1
    | goto j=>exact absurd rfl (hx2 j)
    | exit id=>exact wpIn_exit ⟨.exit id,rfl,e,h',gc,hQ,St'⟩
    | ret=>exact wpIn_ret ⟨.ret,rfl,e,h',gc,hQ,St'⟩
theorem range_sound {ms:List Nat} (hms:ms.contains 1000000=false) {f:Operand} {ps:Array Nat} {asg body:Code} {fx:SX} {sa sb:SCode} (hfx:Y5 f=some fx) (hps:(ps.toList.all fun p=>decide (p<n) && !ms.contains p)=true)
 (had:∀ (l:Nat) (g0:Ghost) (w0:World),GRel P.gl g0 w0 -> ∀ (Q:SExit->Env->Z2->Prop) (e:Env) (h:Z2) (g:Ghost) (a:Act) (w:World),vc P sa Q e h->St (1000000 :: ms) n g0 w0 e h g a w->asg.wpIn (FR (some l)) 0 P (LiftQ (1000000 :: ms) n g0 w0 Q) a w)
 (hbd:∀ (l:Nat) (g0:Ghost) (w0:World),GRel P.gl g0 w0 -> ∀ (Q:SExit->Env->Z2->Prop) (e:Env) (h:Z2) (g:Ghost) (a:Act) (w:World),vc P sb Q e h->St (1000000 :: ms) n g0 w0 e h g a w->body.wpIn (FR (some l)) 0 P (LiftQ (1000000 :: ms) n g0 w0 Q) a w)
 {g0:Ghost} {w0:World} (GR:GRel P.gl g0 w0) {Q:SExit->Env->Z2->Prop} {e:Env} {h:Z2} {g:Ghost} {a:Act} {w:World} (hk:vc P (.range fx ps.toList sa sb) Q e h) (S:St ms n g0 w0 e h g a w) :
 (Code.rangeFunc f ps asg body).wpIn (FR none) 2 P (LiftQ ms n g0 w0 Q) a w:=by
 rcases (show RangeV0 P fx ps.toList (vc P sa) (vc P sb) Q e h\/RangeI P fx ps.toList (vc P sa) (vc P sb) Q e h from hk) with hk | hk
 rotate_left
 ·exact rangeI_sound hms hfx hps had hbd GR hk S
 obtain ⟨X,enc,xs,N,k,cap,hf,⟨⟨fn,hfn,hname,hbody⟩,hit⟩,hl,I,Ix,⟨hSt,hStx⟩,h0,hb,hQ,hQx⟩:=hk
 have hv:=J1 S.E hfx
 rw [hf] at hv
 obtain ⟨cs,hfv,hcs⟩:∃ cs,a.eval f=.func (.func k) #[] cs/\VRelL g w cs cap:=by
  revert hv
  generalize a.eval f=q
  intro hv
  cases hv with
  | fn _ fs cs _ _ hf1 hc1 h1 h2=>
    obtain rfl:fs = #[]:=by simpa using hf1
    exact ⟨cs,rfl,hc1,h2⟩
 have hit:=hit g w cs S.H.fz (GR.step S.S) hcs
 have hB:fn.body.isNone=false:=by cases hb:fn.body <;> simp_all
 have hps':∀ p∈ps.toList,p<n:=fun p hp=>by have:=List.all_eq_true.1 hps p hp;rw [Bool.and_eq_true] at this;simpa using this.1
 have hps2:∀ p∈ps.toList,ms.contains p=false:=fun p hp=>by have:=List.all_eq_true.1 hps p hp;rw [Bool.and_eq_true] at this;simpa using this.2
 have hw0:w0.heap.size<=w.heap.size:=S.S.size
 let Iw (J:Z2->Prop) (W:World):Prop:=∃ h' gc,J h'/\HRel h' gc W/\GSh g0 w0 gc W/\GStep g w gc W/\DOK gc W a.defers/\(∀ r n es,MapAt h' r n es->gc.eta r<w.heap.size) /\ ∀ b,gc.fz b->b<w.heap.size\/¬ V8 W b
 have hOwn:∀ {J:Z2->Prop} {W W':World} {row:Option Nat},Iw J W->W.grownBy W' row->(∀ r,row=some r->w.heap.size<=r /\ ∃ o:Obj,W.heap[r]? = some o/\o.isCells=false)->Iw J W':=by
  rintro J W W' row ⟨h',gc,hJ,H,S1,S2,D,hmp,hz⟩ hg hr
  have hsame:∀ b,b<W.heap.size->(∀ r,row=some r->b≠r)->W'.heap[b]? = W.heap[b]? := fun b hb hn=>hg.block b hb fun e=>hn b e.symm rfl
  have hfz:∀ b,gc.fz b->W'.heap[b]? = W.heap[b]? := fun b hb=>hsame b (H.fz b hb) fun r e hbr=>by
   subst hbr
   obtain ⟨h1,h2⟩:=hr b e
   rcases hz b hb with h3 | h3
   ·omega
   ·exact h3 h2
  have hown:∀ b,Own gc b->W'.heap[b]? = W.heap[b]? := fun b hb=>by
   obtain ⟨cur,t,fz,hc⟩:=H.ow b hb
   refine hsame b (Array.getElem?_eq_some_iff.1 hc).1 fun r e hbr=>?_
   subst hbr
   obtain ⟨_,o,ho,hoc⟩:=hr b e
   rw [hc] at ho;cases ho;cases hoc
  have W1:GStep gc W gc W':=GStep.world hfz hg.os hg.tape hg.output hg.size
  refine ⟨h',gc,hJ,⟨fun r ob ho=>(H.obj r ob ho).step W1 (fun hc=>hown _ ⟨r,(H.obj r ob ho).lt,hc,rfl⟩) (fun hc=>?_),H.inj,fun b hb=>Nat.lt_of_lt_of_le (H.fz b hb) hg.size,fun b hb=>?_,⟨fun r n es hm=>?_,H.mob.two⟩⟩,
   ⟨S1.toGStep.trans W1,fun b hb hu hn=>?_,S1.new,S1.fzn,fun b hb=>?_⟩,S2.trans W1,⟨fun d hd=>?_,D.two⟩,hmp,fun b hb=>?_⟩
  ·rcases (H.obj r ob ho).block with h' | ⟨_,hf',_⟩
   ·exact absurd h' hc
   ·exact hf'
  ·obtain ⟨cur,t,fz,hc⟩:=H.ow b hb
   exact ⟨cur,t,fz,(hown b hb).trans hc⟩
  ·have R:=H.mob.one r n es hm
   obtain ⟨o,hblk,hB⟩:=R.block
   have hlt:=(Array.getElem?_eq_some_iff.1 hblk).1
   refine ⟨R.lt,R.own,R.fz,R.bo,o,(hsame _ hlt fun r' e' hbr=>?_).trans hblk,hB.step W1⟩
   have h1:=hmp r n es hm
   have h2:=(hr r' e').1
   omega
  ·exact (hsame b (Nat.lt_of_lt_of_le hb S1.size) fun r e hbr=>by have:=(hr r e).1;omega).trans (S1.own b hb hu hn)
  ·rcases S1.fzc b hb with h1 | h1
   ·exact .inl h1
   ·exact .inr fun ⟨o,ho,hc⟩=>h1 ⟨o,(hfz b hb).symm.trans ho,hc⟩
  ·obtain ⟨D',e1,e2,e3,e4⟩:=D.one d hd
   refine ⟨D',e1,(hsame D' (Array.getElem?_eq_some_iff.1 e2).1 fun r e hbr=>?_).trans e2,e3,e4⟩
   obtain ⟨D2,f1,f2,_⟩:=S.E.defers.one d hd
   have:D'=D2:=by rw [e1] at f1;cases f1;rfl
   have h1:=(Array.getElem?_eq_some_iff.1 f2).1
   have h2:=(hr r e).1
   omega
  ·rcases hz b hb with h1 | h1
   ·exact .inl h1
   ·exact .inr fun ⟨o,ho,hc⟩=>h1 ⟨o,(hfz b hb).symm.trans ho,hc⟩
 let X':={ p:X×Array Value // VRelL g w p.2 (enc p.1) }
 have base:∀ {W:World} {gc:Ghost},GStep g w gc W->ERel n e gc W { tmps:=a.tmps,defers:=[] }:=fun S2=>⟨DOK.nil _ _,S.E.size,S.E.bnd,fun t h6=>(S.E.slot t h6).step S2,fun b=>(S.E.glo b).step S2⟩
 have fin:∀ {D:Nat} {W:World} {J:Z2->Prop},Iw J W->w.heap.size<=D->W.heap[D]? = some (.deferred (some [])) -> ∃ h' gc,J h'/\St ms n g0 w0 e h' gc { a with defers:={ target:=.collected D,args:=#[] } :: a.defers } W:=by
  rintro D W J ⟨h',gc,hJ,H,S1,S2,Dk,hmp,hz⟩ hD hDW
  refine ⟨h',gc,hJ,⟨⟨⟨fun d hd=>?_,?_⟩,S.E.size,S.E.bnd,fun t h6=>(S.E.slot t h6).step S2,fun b=>(S.E.glo b).step S2⟩,H,S1,fun _ d hd D1 hD1=>?_,S.O.step S.E S2⟩⟩
  ·rcases List.mem_cons.1 hd with rfl | hd
   ·refine ⟨D,rfl,hDW,fun ho=>?_,fun hf=>?_⟩
    ·obtain ⟨cur,t,fz,hc⟩:=H.ow D ho
     rw [hc] at hDW;cases hDW
    ·rcases hz D hf with h1 | h1
     ·omega
     ·exact h1 ⟨_,hDW,rfl⟩
   ·exact Dk.one d hd
  ·refine List.pairwise_cons.2 ⟨fun d hd he=>?_,Dk.two⟩
   obtain ⟨D2,f1,f2,_⟩:=S.E.defers.one d hd
   have h1:=(Array.getElem?_eq_some_iff.1 f2).1
   rw [<-he] at f1
   cases f1
   omega
  ·rcases List.mem_cons.1 hd with rfl | hd
   ·cases hD1;omega
   ·exact S.M hms d hd D1 hD1
 refine range_rounds (F:=FR none) (n:=2) (α:=X') rfl (by decide) (k:=k) (cs:=cs) hfv trivial (fun args W=>by simp only [callFunc,Sem.run_bind,run_program,Sem.run_pure,Result.andThen_ok,hfn,hname,hB,Bool.false_eq_true,if_false]) hit
  (fun h1 h2 b hb=>(h2 b hb).trans (h1 b hb)) (fun W l o o' hl _ _ _ b hb=>K8 (by have:=S.H.fz b hb;omega)) (RowKit.Below.refl _ _) (fun x=>by
    have:=x.2.1;rw [this,hl];simp)
  (fun (pre:List X') (W:World)=>Iw (I (pre.map fun (p:X')=>p.1.1)) W) (fun (c:Code) (pre:List X') (W:World)=>∃ ex:SExit,(ex≠.normal /\ ∀ l,ex≠.goto l)/\c=codeOf ex/\Iw (Ix ex (pre.map fun (p:X')=>p.1.1)) W)
  (fun (s:List X') W W' row hs hg hr=>hOwn hs hg hr) (fun c (s:List X') W W' row ⟨ex,h1,h2,hs⟩ hg hr=>⟨ex,h1,h2,hOwn hs hg hr⟩)
  ⟨h,g,h0,S.H,S.S,GStep.refl g w,S.E.defers,(fun r n es hm=>by obtain ⟨_,hb,_⟩:=(S.H.mob.one r n es hm).block;exact (Array.getElem?_eq_some_iff.1 hb).1),fun b hb=>.inl (S.H.fz b hb)⟩ ?_ ?_ ?_
 ·rintro l pre x Wa hlw ⟨h',gc,hJ,H,S1,S2,D,hmp,hz⟩ hlen K hK
  have J0:Jw g0 w0 g w a.defers h' gc Wa:=⟨H,S1,S2,D,hz⟩
  have E1:ERel n (setPs e ps.toList (enc x.1.1)) gc Wa { tmps:=(ps.zip x.1.2).foldl (fun t (p,v)=>t.setIfInBounds p v) a.tmps,defers:=[] }:=by
   have:=ERel.setPs ps.toList x.1.2.toList (enc x.1.1) e a.tmps hps' (by simpa using x.2.1) (fun j u y hu hy=>(x.2.2 j u y (by simpa using hu) hy).step S2) (base S2)
   rw [<-Array.toList_zip,Array.foldl_toList] at this
   exact this
  have hv':=hb (pre.map fun p=>p.1.1) x.1.1 h' hJ (by simpa using hlen)
  refine wpIn_mono (had l { gc with tn:=Hh g0 w0 w } Wa ((GR.step S1).step (GStep.setT gc Wa _)) _ _ h' gc _ Wa hv' ⟨E1,H,GSh.reflM gc Wa _,MK.body,MO.round S.O S.E hps2 S2 _⟩) ?_
  rintro _ a1 W1 ⟨x1,rfl,e1,h1,g1,hq1,T1⟩
  cases x1 with
  | exit id=>exact hq1.elim
  | ret=>exact hq1.elim
  | goto l=>exact hq1.elim
  | normal=>
  refine hK a1 W1 ⟨T1.S.size,fun b o hwb ho hc=>(T1.S.own b (Array.getElem?_eq_some_iff.1 ho).1 (fun q=>absurd q.1.2 (by omega)) (.inr ⟨o,ho,hc⟩)).trans ho⟩ (fun b hb=>T1.S.keep b (S2.fz b hb)) fun rl rl' hrl=>?_
  obtain ⟨J2,W2s,Dk⟩:=(J0.step T1.H T1.S).put hw0 hlw (r':=rl') hrl
  generalize W1.putObj l (.loop rl')=W at J2 W2s Dk
  have T2:St (1000000 :: ms) n { g1 with tn:=Hh g0 w0 w } W e1 h1 g1 a1 W:=⟨⟨Dk _ T1.E.defers,T1.E.size,T1.E.bnd,fun t h6=>(T1.E.slot t h6).step W2s,fun b=>(T1.E.glo b).step W2s⟩,J2.H,GSh.reflM g1 W _,MK.body,T1.O.rebase rfl W2s.size⟩
  refine wpIn_mono (hbd l { g1 with tn:=Hh g0 w0 w } W ((GR.step J2.S1).step (GStep.setT g1 W _)) _ _ h1 g1 _ W hq1 T2) ?_
  rintro _ a' W' ⟨x',rfl,e',h2,g',hq,S'⟩
  have hko:KeepsFrom w.heap.size W W':=⟨S'.S.size,fun b o hwb ho hc=>(S'.S.own b (Array.getElem?_eq_some_iff.1 ho).1 (fun q=>absurd q.1.2 (by omega)) (.inr ⟨o,ho,hc⟩)).trans ho⟩
  have hkp:∀ b,g.fz b->W'.heap[b]? = W.heap[b]? := fun b hb=>S'.S.keep b (J2.S2.fz b hb)
  have J3:=J2.step S'.H S'.S
  have hI:∀ {J:Z2->Prop},StrpM h J->J h2->Iw J W':=fun {J} hSJ hJ2=>by
   classical
   have h2o:∀ r,(∃ n es,MapAt h2 r n es)->r<g.nxt->h r=h2 r->g'.eta r<w.heap.size:=fun r ⟨n,es,hm⟩ hlt he=>by
    have hm':MapAt h r n es:=by obtain ⟨sz,cs,q⟩:=hm;exact ⟨sz,cs,he.trans q⟩
    obtain ⟨_,hb,_⟩:=(S.H.mob.one r n es hm').block
    rw [J3.S2.eta r hlt]
    exact (Array.getElem?_eq_some_iff.1 hb).1
   have hle:∀ r o,(fun r=>if (∃ n es,MapAt h2 r n es)/\¬ g'.eta r<w.heap.size then (none:Option AObj) else h2 r) r=some o->h2 r=some o:=fun r o hr=>by
    simp only at hr
    split at hr
    ·cases hr
    ·exact hr
   refine ⟨fun r=>if (∃ n es,MapAt h2 r n es)/\¬ g'.eta r<w.heap.size then none else h2 r,g',hSJ h2 _ hJ2 hle (fun r o hr hk=>?_) (fun r o o' hr hr' hM=>?_),S'.H.le hle,J3.S1,J3.S2,J3.D,(fun r n es ⟨sz,cs,hm⟩=>?_),J3.hz⟩
   ·show (if _ then none else h2 r)=some o
    rw [if_neg]
    ·exact hr
    ·rintro ⟨hm,hn⟩
     rcases hk with hk | hk
     ·obtain ⟨n,es,sz,cs,q⟩:=hm
      rw [hr] at q;cases q;cases hk
     ·exact hn (h2o r hm (S.H.obj r o hk).lt (hk.trans hr.symm))
   ·show (if _ then none else h2 r)=some o
    rw [if_neg]
    ·exact hr
    ·rintro ⟨hm,hn⟩
     refine hn ?_
     have hm':∃ n es,MapAt h r n es:=by
      obtain ⟨ty,sz,cs⟩:=o'
      cases ty <;> first | (cases hM;done) | exact ⟨_,_,_,_,hr'⟩
     obtain ⟨n,es,hm'⟩:=hm'
     obtain ⟨_,hb,_⟩:=(S.H.mob.one r n es hm').block
     rw [J3.S2.eta r (S.H.obj r o' hr').lt]
     exact (Array.getElem?_eq_some_iff.1 hb).1
   ·have q:=hle r _ hm
    simp only at hm
    split at hm
    ·cases hm
    ·rename_i hh
     exact Classical.byContradiction fun hn=>hh ⟨⟨n,es,sz,cs,q⟩,hn⟩
  cases x' with
  | normal=>exact ⟨hko,hkp,hI (hSt _) (by simpa [roundK] using hq)⟩
  | exit id=>exact ⟨hko,.exit id,by simp,rfl,hI (hStx _ _) (by simpa [roundK] using hq)⟩
  | ret=>exact ⟨hko,.ret,by simp,rfl,hI (hStx _ _) (by simpa [roundK] using hq)⟩
  | goto l=>exact (show False from hq).elim
 ·intro D ys W hD hS hI hDW
  rw [hS] at hI
  obtain ⟨h',gc,hJ,St'⟩:=fin hI hD hDW
  exact ⟨.normal,rfl,e,h',gc,hQ h' hJ,St'⟩
 ·rintro D c pre W hD hS ⟨ex,hne,rfl,hI⟩ hDW
  obtain ⟨h',gc,hJ,St'⟩:=fin hI hD hDW
  have hq:=hQx ex _ h' hne.1 hS hJ
  cases ex with
  | normal=>exact absurd rfl hne.1
  | goto l=>exact absurd rfl (hne.2 l)
  | exit id=>exact wpIn_exit ⟨.exit id,rfl,e,h',gc,hq,St'⟩
  | ret=>exact wpIn_ret ⟨.ret,rfl,e,h',gc,hq,St'⟩
theorem find_rel {P:Program} {ann:Ann} {n:Nat}:∀ (c:Code) (sc:SCode),toS P ann n c=some sc -> ∀ l,(findLabel c l=none/\findS sc l=none) \/ ∃ cr r,findLabel c l=some cr/\findS sc l=some r/\toS P ann n cr=some r/\(K7 c=true->K7 cr=true)/\SizeOf.sizeOf cr<=SizeOf.sizeOf c:=by
 intro c
 induction c with
 | seq x y ihx ihy=>
   intro sc ht l
   simp only [toS,Option.bind_eq_some_iff,Option.map_eq_some_iff] at ht
   obtain ⟨sx,hsx,sy,hsy,rfl⟩:=ht
   rcases ihx sx hsx l with ⟨h1,h2⟩ | ⟨cr,r,h1,h2,h3,h4,h5⟩
   ·rcases ihy sy hsy l with ⟨g1,g2⟩ | ⟨cr,r,g1,g2,g3,g4,g5⟩
    ·exact .inl ⟨by simp [findLabel,h1,g1],by simp [findS,h2,g2]⟩
    ·exact .inr ⟨cr,r,by simp [findLabel,h1,g1],by simp [findS,h2,g2],g3,fun hn=>g4 (by simp [K7] at hn;exact hn.2),by simp;omega⟩
   ·exact .inr ⟨.seq cr y,.seq r sy,by simp [findLabel,h1],by simp [findS,h2],by simp [toS,h3,hsy],fun hn=>by simp [K7] at hn ⊢; exact ⟨h4 hn.1,hn.2⟩,by simp;omega⟩
 | label l'=>
   intro sc ht l
   simp [toS] at ht;subst ht
   by_cases hl:l'=l
   ·exact .inr ⟨.skip,.skip,by simp [findLabel,hl],by simp [findS,hl],by simp [toS],fun _=>rfl,by simp⟩
   ·exact .inl ⟨by simp [findLabel,hl],by simp [findS,hl]⟩
 | skip=>intro sc ht l;simp [toS] at ht;subst ht;exact .inl ⟨rfl,rfl⟩
 | region id ops draws=>
   intro sc ht l
   cases draws <;> (simp only [toS,Option.map_eq_some_iff] at ht;obtain ⟨s,_,rfl⟩:=ht;exact .inl ⟨rfl,rfl⟩)
 | cond c x y _ _=>
   intro sc ht l
   simp only [toS,Option.bind_eq_some_iff,Option.map_eq_some_iff] at ht
   obtain ⟨s,_,sx,_,sy,_,rfl⟩:=ht
   exact .inl ⟨rfl,rfl⟩
 | block id c _=>intro sc ht l;simp only [toS,Option.map_eq_some_iff] at ht;obtain ⟨s,_,rfl⟩:=ht;exact .inl ⟨rfl,rfl⟩
 | loop c _=>intro sc ht l;simp only [toS,Option.map_eq_some_iff] at ht;obtain ⟨s,_,rfl⟩:=ht;exact .inl ⟨rfl,rfl⟩
 | exit id=>intro sc ht l;simp [toS] at ht;subst ht;exact .inl ⟨rfl,rfl⟩
 | ret=>intro sc ht l;simp [toS] at ht;subst ht;exact .inl ⟨rfl,rfl⟩
 | goto j=>intro sc ht l;simp [toS] at ht;subst ht;exact .inl ⟨rfl,rfl⟩
 | scope c _=>
   intro sc ht l
   simp only [toS,Option.bind_eq_some_iff,Option.map_eq_some_iff] at ht
   obtain ⟨s,_,l',_,r,_,rfl⟩:=ht
   exact .inl ⟨rfl,rfl⟩
 | rangeFunc f ps asg body _ _=>
   intro sc ht l
   simp only [toS] at ht
   split at ht
   case isFalse=>cases ht
   simp only [Option.bind_eq_some_iff,Option.map_eq_some_iff] at ht
   obtain ⟨fx,_,sa,_,sb,_,rfl⟩:=ht
   exact .inl ⟨rfl,rfl⟩
 | refuse=>intro sc ht;simp [toS] at ht
section
variable {P:Program} {b:Frame} {a:Act} {k:List Item} {cs:List Frame} {w:World}
theorem stepR_scope {c:Code}:step P (lone (b.atR a (.code (.scope c) :: k)) cs w)=.next (lone (b.atR a (.code c :: .inScope c :: k)) cs w):=
 step_lone_go (by simp [stepG,stepG.exec,Frame.atR])
theorem stepR_inScope {c:Code}:step P (lone (b.atR a (.inScope c :: k)) cs w)=.next (lone (b.atR a k) cs w):=
 step_lone_go (by simp [stepG,stepG.exec,Frame.atR])
end
def SoundC (P:PG) (n:Nat) (c:Code):Prop:=∀ (ann:Ann) (sc:SCode),toS P ann n c=some sc -> ∀ (ro:Option Nat) (nn:Nat),(ro=none/\nn=2\/K7 c=true) -> ∀ (g0:Ghost) (w0:World),GRel P.gl g0 w0 -> ∀ (Q:SExit->Env->Z2->Prop) (e:Env) (h:Z2) (g:Ghost) (a:Act) (w:World),vc P sc Q e h->St ann.mp n g0 w0 e h g a w->c.wpIn (FR ro) nn P (LiftQ ann.mp n g0 w0 Q) a w
theorem vc_sound:∀ c:Code,SoundC P n c:=by
 intro c
 induction hm:SizeOf.sizeOf c using Nat.strongRecOn generalizing c with
 | _ m IH0=>
 have IH:∀ c',SizeOf.sizeOf c'<SizeOf.sizeOf c->SoundC P n c':=fun c' h=>IH0 _ (hm ▸ h) c' rfl
 cases c with
 | skip=>
   intro ann sc ht ro nn hro g0 w0 GR Q e h g a w hk S
   simp [toS] at ht;subst ht
   exact wpIn_skip ⟨.normal,rfl,e,h,g,hk,S⟩
 | region id ops draws=>
   intro ann sc ht ro nn hro g0 w0 GR Q e h g a w hk S
   cases draws with
   | false=>
     simp only [toS,Option.map_eq_some_iff] at ht
     obtain ⟨sops,hs,rfl⟩:=ht
     exact wpIn_region_list (list_in LiftQ.in _ _ _ (toSOps_defer hs) (vcOps_sound GR (K:=Q .normal) (fun a w L=>⟨.normal,rfl,L⟩) _ _ e h g a w hs hk S))
   | true=>
     simp only [toS,Option.map_eq_some_iff] at ht
     obtain ⟨sops,hs,rfl⟩:=ht
     exact dreg_sound GR LiftQ.in hs (K:=Q .normal) (fun a w L=>⟨.normal,rfl,L⟩) hk S
 | seq x y=>
   have ihx:=IH x (by simp;omega)
   have ihy:=IH y (by simp;omega)
   intro ann sc ht ro nn hro g0 w0 GR Q e h g a w hk S
   simp only [toS,Option.bind_eq_some_iff,Option.map_eq_some_iff] at ht
   obtain ⟨sx,hsx,sy,hsy,rfl⟩:=ht
   refine wpIn_seq (wpIn_mono (ihx ann sx hsx ro nn (hro.imp (fun h=>h) fun h=>by simp [K7] at h;exact h.1) g0 w0 GR (WW (vc P sy Q) Q) e h g a w hk S) ?_)
   rintro _ a' w' ⟨x',rfl,e',h',g',hq,S'⟩
   cases x' with
   | normal=>exact ihy ann sy hsy ro nn (hro.imp (fun h=>h) fun h=>by simp [K7] at h;exact h.2) g0 w0 GR Q e' h' g' a' w' hq S'
   | exit id=>exact ⟨.exit id,rfl,e',h',g',hq,S'⟩
   | ret=>exact ⟨.ret,rfl,e',h',g',hq,S'⟩
   | goto l=>exact ⟨.goto l,rfl,e',h',g',hq,S'⟩
 | cond c x y=>
   have ihx:=IH x (by simp;omega)
   have ihy:=IH y (by simp;omega)
   intro ann sc ht ro nn hro g0 w0 GR Q e h g a w hk S
   simp only [toS,Option.bind_eq_some_iff,Option.map_eq_some_iff] at ht
   obtain ⟨s,hs,sx,hsx,sy,hsy,rfl⟩:=ht
   have hv:=J1 S.E hs
   have hk:condOn (ev e s) (vc P sx Q e h) (vc P sy Q e h):=hk
   revert hk hv
   cases ev e s <;> intro hv hk <;> try exact hk.elim
   rename_i t
   exact wpIn_cond_split hv.bool_inv (fun ht=>ihx ann sx hsx ro nn (hro.imp (fun h=>h) fun h=>by simp [K7] at h;exact h.1) g0 w0 GR Q e h g a w (hk.1 ht) S) (fun ht=>ihy ann sy hsy ro nn (hro.imp (fun h=>h) fun h=>by simp [K7] at h;exact h.2) g0 w0 GR Q e h g a w (hk.2 ht) S)
 | block id c=>
   have ih:=IH c (by simp;omega)
   intro ann sc ht ro nn hro g0 w0 GR Q e h g a w hk S
   simp only [toS,Option.map_eq_some_iff] at ht
   obtain ⟨s,hs,rfl⟩:=ht
   refine wpIn_block (wpIn_mono (ih ann s hs ro nn (hro.imp (fun h=>h) fun h=>by simpa [K7] using h) g0 w0 GR (TU id Q) e h g a w hk S) ?_)
   rintro _ a' w' ⟨x',rfl,e',h',g',hq,S'⟩
   cases x' with
   | normal=>exact ⟨.normal,rfl,e',h',g',hq,S'⟩
   | ret=>exact ⟨.ret,rfl,e',h',g',hq,S'⟩
   | goto l=>exact ⟨.goto l,rfl,e',h',g',hq,S'⟩
   | exit j=>
     simp only [TU] at hq
     simp only [exitOf,Exit.inBlock]
     split at hq
     ·rename_i hj;rw [if_pos hj];exact ⟨.normal,rfl,e',h',g',hq,S'⟩
     ·rename_i hj;rw [if_neg hj];exact ⟨.exit j,rfl,e',h',g',hq,S'⟩
 | loop c=>
   have ih:=IH c (by simp)
   intro ann sc ht ro nn hro g0 w0 GR Q e h g a w hk S
   simp only [toS,Option.map_eq_some_iff] at ht
   obtain ⟨s,hs,rfl⟩:=ht
   obtain ⟨I,⟨m0,h0⟩,hround⟩:=hk
   intro b k cs hro' hb hr
   have key:∀ m e h g a w,I m e h->St ann.mp n g0 w0 e h g a w -> ∃ x a' w',LiftQ ann.mp n g0 w0 Q x a' w'/\ArrivesIn (Machine.fenced P (FR ro)) P (lone (b.atR a (.code c :: .inLoop c :: k)) cs w) b k cs x a' w':=by
    intro m
    induction m using Nat.strongRecOn with
    | _ m ihm=>
      intro e h g a w hI S
      obtain ⟨x,a₁,w₁,hq,harr⟩   := ih ann s hs ro nn (hro.imp (fun h=>h) fun h=>by simpa [K7] using h) g0 w0 GR _ e h g a w (hround m e h hI) S b (.inLoop c :: k) cs hro' hb hr
      obtain ⟨x',rfl,e',h',g',hq,S'⟩:=hq
      cases x' with
      | normal=>
        obtain ⟨m',hlt,hI'⟩:=hq
        obtain ⟨x2,a₂,w₂,hq₂,harr₂⟩:=ihm m' hlt e' h' g' a₁ w₁ hI' S'
        exact ⟨x2,a₂,w₂,hq₂,.of_steps (StepsIn.trans harr (.one (fenced_calm hb hr rfl) stepR_inLoop)) harr₂⟩
      | exit id=>exact ⟨.exit id,a₁,w₁,⟨.exit id,rfl,e',h',g',hq,S'⟩,.pass (x:=.inLoop c) rfl (fun _ _=>.inl (by simp)) harr⟩
      | ret=>exact ⟨.ret,a₁,w₁,⟨.ret,rfl,e',h',g',hq,S'⟩,.pass (x:=.inLoop c) rfl (fun _ _=>.inl (by simp)) harr⟩
      | goto l=>exact ⟨.goto l,a₁,w₁,⟨.goto l,rfl,e',h',g',hq,S'⟩,.pass (x:=.inLoop c) rfl (fun _ _=>.inl (by simp)) harr⟩
   obtain ⟨x,a',w',hq,harr⟩:=key m0 e h g a w h0 S
   exact ⟨x,a',w',hq,.of_steps (.one (fenced_calm hb hr rfl) stepR_loop) harr⟩
 | exit id=>
   intro ann sc ht ro nn hro g0 w0 GR Q e h g a w hk S
   simp [toS] at ht;subst ht
   exact wpIn_exit ⟨.exit id,rfl,e,h,g,hk,S⟩
 | ret=>
   intro ann sc ht ro nn hro g0 w0 GR Q e h g a w hk S
   simp [toS] at ht;subst ht
   exact wpIn_ret ⟨.ret,rfl,e,h,g,hk,S⟩
 | rangeFunc f ps asg body=>
   have iha:=IH asg (by simp;omega)
   have ihb:=IH body (by simp;omega)
   intro ann sc ht ro nn hro g0 w0 GR Q e h g a w hk S
   obtain ⟨rfl,rfl⟩:ro=none/\nn=2:=hro.resolve_right (by simp [K7])
   simp only [toS] at ht
   split at ht
   case isFalse=>cases ht
   rename_i hc
   obtain ⟨hna,hnr,hps,hms⟩:=hc
   simp only [Option.bind_eq_some_iff,Option.map_eq_some_iff] at ht
   obtain ⟨fx,hfx,sa,hsa,sb,hsb,rfl⟩:=ht
   exact range_sound hms hfx hps (fun l g0 w0 GR Q e h g a w hk S=>iha { ann with mp:=1000000 :: ann.mp } sa hsa (some l) 0 (.inr hna) g0 w0 GR Q e h g a w hk S) (fun l g0 w0 GR Q e h g a w hk S=>ihb { ann with mp:=1000000 :: ann.mp } sb hsb (some l) 0 (.inr hnr) g0 w0 GR Q e h g a w hk S) GR hk S
 | scope c=>
   intro ann sc ht ro nn hro g0 w0 GR Q e h g a w hk S
   simp only [toS,Option.bind_eq_some_iff,Option.map_eq_some_iff] at ht
   obtain ⟨s,hs,l,hl,r,hr,rfl⟩:=ht
   rcases find_rel c s hs l with ⟨_,h2⟩ | ⟨cr,r',h1,h2,h3,h4,h5⟩
   ·rw [h2] at hr;cases hr
   rw [hr] at h2;cases h2
   have hk:vc P s (gotoK l (vc P r (noGoK Q)) Q) e h:=hk
   intro b k cs hro' hb hrm
   have hg:gotoIn l (.inScope c :: k)=some (.code cr :: .inScope c :: k):=by simp [gotoIn,h1]
   have first:StepsIn (Machine.fenced P.p (FR ro)) P.p (lone (b.atR a (.code (.scope c) :: k)) cs w) (lone (b.atR a (.code c :: .inScope c :: k)) cs w):=.one (fenced_calm hb hrm rfl) stepR_scope
   obtain ⟨x,a₁,w₁,⟨x',rfl,e',h',g',hq,S'⟩,harr⟩:=IH c (by simp) ann s hs ro nn (hro.imp (fun h=>h) fun h=>by simpa [K7] using h) g0 w0 GR _ e h g a w hk S b (.inScope c :: k) cs hro' hb hrm
   cases x' with
   | normal=>exact ⟨.normal,a₁,w₁,⟨.normal,rfl,e',h',g',hq,S'⟩,first.trans (StepsIn.trans harr (.one (fenced_calm hb hrm rfl) stepR_inScope))⟩
   | exit id=>exact ⟨.exit id,a₁,w₁,⟨.exit id,rfl,e',h',g',hq,S'⟩,.of_steps first ⟨fun k' hk=>harr.1 k' (by simp [exitTo,hk]),fun hr hk=>harr.2 hr (by simp [exitTo,hk])⟩⟩
   | ret=>exact ⟨.ret,a₁,w₁,⟨.ret,rfl,e',h',g',hq,S'⟩,.of_steps (k:=k) first harr⟩
   | goto j=>
     obtain ⟨rfl,hq⟩:=hq
     have second:=first.trans (harr.1 _ hg)
     obtain ⟨x,a₂,w₂,⟨x',rfl,e',h',g',hq,S'⟩,harr⟩:=IH cr (by simp;omega) ann r h3 ro nn (hro.imp (fun h=>h) fun h=>h4 (by simpa [K7] using h)) g0 w0 GR _ e' h' g' a₁ w₁ hq S' b (.inScope c :: k) cs hro' hb hrm
     cases x' with
     | normal=>exact ⟨.normal,a₂,w₂,⟨.normal,rfl,e',h',g',hq,S'⟩,second.trans (StepsIn.trans harr (.one (fenced_calm hb hrm rfl) stepR_inScope))⟩
     | exit id=>exact ⟨.exit id,a₂,w₂,⟨.exit id,rfl,e',h',g',hq,S'⟩,.of_steps second ⟨fun k' hk=>harr.1 k' (by simp [exitTo,hk]),fun hr hk=>harr.2 hr (by simp [exitTo,hk])⟩⟩
     | ret=>exact ⟨.ret,a₂,w₂,⟨.ret,rfl,e',h',g',hq,S'⟩,.of_steps (k:=k) second harr⟩
     | goto j=>exact (show False from hq).elim
 | label l=>
   intro ann sc ht ro nn hro g0 w0 GR Q e h g a w hk S
   simp [toS] at ht;subst ht
   exact wpIn_label ⟨.normal,rfl,e,h,g,hk,S⟩
 | goto l=>
   intro ann sc ht ro nn hro g0 w0 GR Q e h g a w hk S
   simp [toS] at ht;subst ht
   exact wpIn_goto ⟨.goto l,rfl,e,h,g,hk,S⟩
 | refuse=>intro ann sc ht;simp [toS] at ht
theorem res_run {e:Env} {h:Z2} {g:Ghost} {a:Act} {w:World} (E:ERel n e g w a) (H:HRel h g w):∀ (rs:List ResultVar) (ss:List SRes),rs.mapM (toSRes P)=some ss->allOK e h ss ->
 ∃ vs:List Value,(rs.mapM fun x=>match x with
   | ResultVar.tmp t=>(pure (a.tmps.getD t undef):Sem Value)
   | ResultVar.cell p t=>do
     let ad <-asAddr (a.tmps.getD p undef)
     loadVar t ad).run P w=.ok vs w/\vs.length=ss.length /\ ∀ (j:Nat) (u:Value) (x:AVal),vs[j]? = some u->(ss.map (resV e h))[j]? = some x->VRel g w u x
 | [],ss,hm,_=>by
   simp at hm;subst hm
   exact ⟨[],by simp,rfl,by simp⟩
 | r :: rs,ss,hm,hok=>by
   simp only [List.mapM_cons,Option.bind_eq_bind,Option.pure_def,Option.bind_eq_some_iff,Option.some.injEq] at hm
   obtain ⟨s,hs,sr,hsr,rfl⟩:=hm
   obtain ⟨vs,hr,hl,hh⟩:=res_run E H rs sr hsr hok.2
   have key:∃ v,(match r with
    | ResultVar.tmp t=>(pure (a.tmps.getD t undef):Sem Value)
    | ResultVar.cell p t=>do
      let ad <-asAddr (a.tmps.getD p undef)
      loadVar t ad).run P w=.ok v w/\VRel g w v (resV e h s):=by
    cases r with
    | tmp t=>
      simp only [toSRes] at hs
      split at hs
      ·rename_i h6;cases hs;exact ⟨_,rfl,E.slot t h6⟩
      ·cases hs
    | cell p t=>
      simp only [toSRes] at hs
      split at hs
      case isFalse=>cases hs
      rename_i h6
      simp only [Option.bind_eq_some_iff,Option.map_eq_some_iff] at hs
      obtain ⟨sz,hsz,b,hb,rfl⟩:=hs
      have hv:=(E.slot p h6).deVp
      have hok1:okLd0 h sz b (deVp (e p)):=hok.1
      show ∃ v,_/\VRel g w v (aLd0 h sz b (deVp (e p)))
      revert hok1 hv
      cases deVp (e p) <;> intro hv hok1 <;> try exact hok1.elim
      ·rename_i r i j
       obtain ⟨ob,hob,hi,hj,h1s⟩:=hok1
       obtain ⟨hr',hv'⟩:=hv.ptr_inv
       obtain ⟨v,hrun,hrel⟩:=load_cells (P:=P) (w:=w) (g:=g) hsz hb ⟨g.eta r,g.bo r+i*g.sz r+j,none⟩ ((ob.es.getD i []).drop j) (by simp only [List.length_drop];omega) h1s ((H.obj r ob hob).cells hi j)
       exact ⟨v,by simp only [hv',asAddr,Sem.run_bind,Sem.run_pure,Result.andThen_ok];exact hrun,by simpa [aLd0,hob] using hrel⟩
      ·rename_i cs
       obtain ⟨hle,h1s⟩:=hok1
       obtain ⟨ad,hv',_,_,hc⟩:=hv.pin_inv
       obtain ⟨v,hrun,hrel⟩:=load_cells (P:=P) (w:=w) (g:=g) hsz hb ad cs hle h1s hc
       exact ⟨v,by simp only [hv',asAddr,Sem.run_bind,Sem.run_pure,Result.andThen_ok];exact hrun,hrel⟩
   obtain ⟨v,hv,hrel⟩:=key
   refine ⟨v :: vs,?_,by simp [hl],fun j u x hu hx=>?_⟩
   ·simp only [List.mapM_cons,Sem.run_bind,hv,Result.andThen_ok,hr,Sem.run_pure]
   ·cases j with
    | zero=>simp at hu hx;subst hu hx;exact hrel
    | succ j=>simp at hu;simp only [List.map_cons,List.getElem?_cons_succ] at hx;exact hh j u x hu hx
theorem leave_marks {fn:Func} {R:Ending->World->Prop} {e:Env} {h:Z2} {g:Ghost} {ts:Array Value}:∀ (a:Act) (_:a.tmps=ts) (w:World),ERel n e g w a->HRel h g w->GSh g0 w0 g w->MK [] w0 a ->
 (∀ a1 w1,a1.tmps=ts->ERel n e g w1 a1->HRel h g w1->GSh g0 w0 g w1 -> ∃ v,(results fn ts).run P w1=.ok v w1/\R (.returned v) w1)->LeavesInM (FR none) 2 P fn ts R a.defers .returning w:=by
 rintro ⟨tm,ds⟩ ht w E H S M hR
 simp only at ht
 subst ht
 induction ds generalizing w with
 | nil=>exact hR _ w rfl E H S
 | cons d ds ih=>
   obtain ⟨D,hd,hD,ho,hf⟩:=E.defers.one d List.mem_cons_self
   have hB:w0.heap.size<=D:=M (by simp) d List.mem_cons_self D (by rw [hd])
   have hlt:D<w.heap.size:=(Array.getElem?_eq_some_iff.1 hD).1
   have hsz:(w.putObj D (.deferred none)).heap.size=w.heap.size:=by simp [World.putObj]
   have W:GStep g w g (w.putObj D (.deferred none)):=GStep.world (fun b hb=>K8 (fun e=>hf (e ▸ hb))) rfl rfl rfl (by rw [hsz];exact Nat.le_refl _)
   refine ⟨by simp,.inl ⟨D,_,by rw [hd],run_takeDeferred hD,ih _ ⟨⟨fun d' hd'=>?_,(List.pairwise_cons.1 E.defers.two).2⟩,E.size,E.bnd,fun t h6=>(E.slot t h6).step W,fun b=>(E.glo b).step W⟩ ?_ ?_ (fun h d' hd'=>M h d' (List.mem_cons_of_mem _ hd'))⟩⟩
   ·obtain ⟨D',e1,e2,e3,e4⟩:=E.defers.one d' (List.mem_cons_of_mem _ hd')
    have hne:D'≠D:=by
     rintro rfl
     exact (List.pairwise_cons.1 E.defers.two).1 d' hd' (hd.trans e1.symm)
    exact ⟨D',e1,(K8 hne).trans e2,e3,e4⟩
   ·refine ⟨fun r ob hr=>(H.obj r ob hr).step W (fun h0=>K8 fun he=>ho ⟨r,(H.obj r ob hr).lt,h0,he⟩) (fun h0=>?_),H.inj,fun b hb=>by rw [hsz];exact H.fz b hb,fun b hb=>?_,⟨fun r n es hm=>?_,H.mob.two⟩⟩
    rcases (H.obj r ob hr).block with h' | ⟨_,hf',_⟩
    ·exact absurd h' h0
    ·exact hf'
    ·obtain ⟨cur,t,f,hc⟩:=H.ow b hb
     have hne:b≠D:=by rintro rfl;exact ho hb
     exact ⟨cur,t,f,(K8 hne).trans hc⟩
    ·have R:=H.mob.one r n es hm
     obtain ⟨o,hblk,hB⟩:=R.block
     have hne:g.eta r≠D:=by rintro hh;rw [hh,hD] at hblk;cases hblk;exact hB.defd
     exact ⟨R.lt,R.own,R.fz,R.bo,o,(K8 hne).trans hblk,hB.step W⟩
   ·refine ⟨S.toGStep.trans W,fun b hb hu hn=>(K8 (by omega)).trans (S.own b hb hu hn),S.new,S.fzn,fun b hb=>?_⟩
    rcases S.fzc b hb with h1 | h1
    ·exact .inl h1
    ·have hne:b≠D:=by rintro rfl;exact hf hb
     exact .inr fun ⟨o,ho',hc⟩=>h1 ⟨o,(K8 hne).symm.trans ho',hc⟩
theorem Z4 {f : Nat} {fn : Func} {sf : SFun} {args : List AVal} {h : Z2} {K : AVal -> Z2 -> Prop} (hf : P.p.funcs[f]? = some fn) (hname : (fn.name == "runtime.NumGoroutine") = false)
 (hsf:Y6 P ann fn=some sf) (hn:args.length<=fn.ntmps) (hN:fn.ntmps<=1000000) (hk:vc P sf.code (retK sf.res K) (T5 P.gl args) h) (hmp:(ann.mp.all fun t=>decide (args.length<=t/\t<1000000))=true:=by rfl):DCalls P f args h K:=by
 simp only [Y6,Option.bind_eq_some_iff,Option.map_eq_some_iff] at hsf
 obtain ⟨c,hc,sc,hsc,rs,hrs,rfl⟩:=hsf
 have hm6:ann.mp.contains 1000000=false:=by
  cases hx:ann.mp.contains 1000000 with
  | false=>rfl
  | true=>
    have h2:=List.all_eq_true.1 hmp 1000000 (by simpa using hx)
    simp only [decide_eq_true_eq] at h2
    omega
 refine ⟨⟨fn,hf,hname,by simp [hc]⟩,fun g w vs H GR V=>?_⟩
 refine in_calls (ro:=none) (n:=2) (callsIn_of_wp_marks hf hc trivial (wpIn_mono (vc_sound c ann sc hsc none 2 (.inl ⟨rfl,rfl⟩) g.shut w (GR.step (GStep.shut g w)) (retK rs K) (T5 P.gl args) h g _ w hk ⟨⟨DOK.nil g w,?_,hN,fun t h6=>?_,fun b=>?_⟩,H,GSh.reflM g w _,(fun _ d hd=>by cases hd),fun t h6 ht r hr=>?_⟩) ?_) rfl)
 ·simp only [Array.size_append,Array.size_replicate]
  have:=V.1
  omega
 ·simp only [T5,if_pos h6]
  by_cases ht:t<vs.size
  ·have h1:(vs++Array.replicate (fn.ntmps-vs.size) undef).getD t undef=vs[t]:=by
    simp only [Array.getD_eq_getD_getElem?,Array.getElem?_append_left ht,Array.getElem?_eq_getElem ht,Option.getD_some]
   rw [h1]
   exact V.2 t _ _ (Array.getElem?_eq_getElem ht) (U6 args t .dead (by rw [<-V.1];exact ht))
  ·have h1:args.getD t .dead=.dead:=by
    rw [List.getD_eq_getElem?_getD,List.getElem?_eq_none (by rw [<-V.1];omega)]
    rfl
   rw [h1]
   exact .dead _
 ·rw [T5,if_neg (by omega),Nat.add_sub_cancel_left];exact (GR b).2
 ·have h1:args.length<=t:=by have h2:=List.all_eq_true.1 hmp t (by simpa using ht);simp only [decide_eq_true_eq] at h2;exact h2.1
  rw [T5,if_pos h6,List.getD_eq_getElem?_getD,List.getElem?_eq_none h1] at hr
  rcases hr with hr | hr <;> cases hr
 ·rintro x a' w' ⟨x',rfl,e,h',g',hq,S'⟩
  have fin:allOK e h' rs->(∃ h'',(∀ t o,h'' t=some o->h' t=some o)/\K (retV e h' rs) h'')->LeavesInM (FR none) 2 P fn a'.tmps (fun e w'=>∃ v r h'' g'',e=.returned v/\K r h''/\HRel h'' g'' w'/\VRel g'' w' v r/\GS g w g'' w') a'.defers .returning w':=by
   intro hok ⟨h'',hle,hK⟩
   refine leave_marks (R:=fun e w'=>∃ v r h'' g'',e=.returned v/\K r h''/\HRel h'' g'' w'/\VRel g'' w' v r/\GS g w g'' w') a' rfl w' S'.E S'.H S'.S (fun _=>S'.M hm6) fun a1 w1 ht E1 H1 S1=>?_
   obtain ⟨us,hrun,hl,hh⟩:=res_run (P:=P) E1 H1 fn.results.toList rs hrs hok
   have hrun':(results fn a1.tmps).run P w1=.ok (if h:us.toArray.size=1 then us.toArray[0] else Value.tuple us.toArray) w1:=by
    unfold results
    rw [Array.mapM_eq_mapM_toList]
    simp only [Sem.run_bind,Sem.run_map]
    exact (fun (r:Result (List Value)) (hr:r=.ok us w1)=>(by subst hr;rfl:(r.andThen fun a w1=>Result.ok a.toArray w1).andThen (fun a w1=>Sem.run P (pure (if h:a.size=1 then a[0] else Value.tuple a)) w1) =
     .ok (if h:us.toArray.size=1 then us.toArray[0] else Value.tuple us.toArray) w1)) _ hrun
   rw [ht] at hrun'
   refine ⟨_,hrun',_,_,h'',g',rfl,hK,H1.le hle,?_,S1.full⟩
   cases rs with
   | nil=>
     obtain rfl:us=[]:=List.eq_nil_of_length_eq_zero hl
     simp only [retV]
     exact .tup #[] [] rfl (by simp)
   | cons r0 rs=>
     cases rs with
     | nil=>
       obtain ⟨u,rfl⟩:=List.length_eq_one_iff.1 hl
       exact hh 0 u _ rfl rfl
     | cons r1 rs=>
       have h2:¬ us.toArray.size=1:=by simp only [List.size_toArray,hl,List.length_cons];omega
       rw [dif_neg h2]
       exact .tup us.toArray _ (by simp [hl]) (fun j u x hu hx=>hh j u x (by simpa using hu) hx)
  cases x' with
  | normal=>exact fin hq.1 hq.2
  | ret=>exact fin hq.1 hq.2
  | exit id=>exact hq.elim
  | goto l=>exact hq.elim
end
end Go.Sim
end
