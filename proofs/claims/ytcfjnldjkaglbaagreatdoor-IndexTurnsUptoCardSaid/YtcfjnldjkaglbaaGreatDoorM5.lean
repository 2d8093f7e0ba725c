/- Texts of this claim, one behind the other. -/
import Derived.Test.YtcfjnldjkaglbaaGreatDoorM4
import Derived.Test.YtcfjnldjkaglbaaGreatDoorM3
import Derived.Shelf.Strings.Builder1
import Derived.Lib.RuneBytes
import Derived.Laws.BitsLemmas
import Derived.Lib.IndexMore
import Derived.Shelf.Spec.SlicesInsert
import Derived.Shelf.Spec.SlicesInsertGrow
set_option maxHeartbeats 4000000
set_option maxRecDepth 100000
section
set_option linter.unusedSimpArgs false
set_option linter.unusedVariables false
namespace Go.Proofs.K
open Go Go.Sim Go.Proofs
structure HEdit where
 do':Int
 at':Int
 into:Int
 before:Int
 name:List UInt8
 value:List UInt8
 node:HNode
deriving DecidableEq,Inhabited
def Z4 (e:HEdit):List AVal:=[Q3 e.do',Q3 e.at',Q3 e.into,Q3 e.before,.str e.name,.str e.value,Q3 e.node.kind,.str e.node.name,sl Y0 e.node.attrs,.str e.node.text,Q3 e.node.parent,sl Z6 e.node.kids]
instance:LenE Z4 12:=⟨fun _=>rfl⟩
structure EditSm (e:HEdit):Prop where
 name:e.name.length<=1073741824
 value:e.value.length<=1073741824
 node:NodeSm e.node
def V6 (l:List HAttr) (name value:List UInt8):List HAttr:=if 0<=J9 l name then l.set (J9 l name).toNat ⟨name,value⟩ else l++[⟨name,value⟩]
def W9 (l:List HAttr) (name:List UInt8):List HAttr:=l.take (J9 l name).toNat++l.drop ((J9 l name).toNat+1)
theorem attrAt_mem (l:List HAttr) (name:List UInt8):0<=J9 l name↔name∈l.map (·.name):=by
 have:=idxM_any (fun a:HAttr=>a.name==name) l
 unfold J9
 rw [<-decide_eq_true_iff (p:=0<=U8 (fun a:HAttr=>a.name==name) l),this,List.any_eq_true,List.mem_map]
 constructor
 ·rintro ⟨a,h1,h2⟩;exact ⟨a,h1,by simpa using h2⟩
 ·rintro ⟨a,h1,h2⟩;exact ⟨a,h1,by simpa using h2⟩
theorem WQ (l:List HAttr) (name:List UInt8) (h:0<=J9 l name):(J9 l name).toNat<l.length/\(nth l (J9 l name).toNat).name=name/\((J9 l name).toNat:Int)=J9 l name:=by
 unfold J9 U8 at *
 cases hf:l.findIdx? (fun a:HAttr=>a.name==name) with
 | none=>rw [hf] at h;simp at h
 | some i=>
   simp only [hf] at h ⊢
   rw [List.findIdx?_eq_some_iff_getElem] at hf
   obtain ⟨h1,h2,_⟩:=hf
   refine ⟨by simpa using h1,?_,by simp⟩
   have:nth l i=l[i]:=by unfold nth;rw [List.getD_eq_getElem?_getD,List.getElem?_eq_getElem h1];rfl
   show (nth l ((i:Int)).toNat).name=name
   rw [show ((i:Int)).toNat=i by simp,this]
   simpa using h2
theorem ZZ (l:List HAttr):JW l=0↔l.length<=12/\(∀ a∈l,K4 false a.name=true/\a.value.length<=400)/\(l.map (·.name)).Nodup:=by
 have key:∀ i,i<l.length->(WZ l i=0↔K4 false (nth l i).name=true/\(nth l i).value.length<=400/\nth (l.map (·.name)) i∉(l.map (·.name)).take i):=fun i hi=>by
  have hn:nth (l.map (·.name)) i=(nth l i).name:=by
   unfold nth;rw [List.getD_eq_getElem?_getD,List.getD_eq_getElem?_getD,List.getElem?_map,List.getElem?_eq_getElem hi];rfl
  have hm:=attrAt_mem (l.take i) (nth l i).name
  rw [List.map_take] at hm
  rw [hn,<-hm]
  unfold WZ
  constructor
  ·intro h
   split at h
   ·omega
   ·rename_i h1
    split at h
    ·omega
    ·rename_i h2
     split at h
     ·omega
     ·rename_i h3
      exact ⟨by simpa using h1,by omega,h3⟩
  ·rintro ⟨h1,h2,h3⟩
   rw [if_neg (by simp [h1]),if_neg (by omega),if_neg h3]
 unfold JW
 constructor
 ·intro h
  split at h
  ·omega
  ·rename_i hl
   have h:=fe_zero h
   refine ⟨by omega,fun a ha=>?_,nodup_of_take fun k hk=>?_⟩
   ·obtain ⟨k,hk,rfl⟩:=QY ha
    have:=(key k hk).1 (h k hk)
    exact ⟨this.1,this.2.1⟩
   ·rw [List.length_map] at hk
    exact ((key k hk).1 (h k hk)).2.2
 ·rintro ⟨h1,h2,h3⟩
  rw [if_neg (by omega)]
  refine ZU fun k hk=>(key k hk).2 ⟨(h2 _ (Y7 hk)).1,(h2 _ (Y7 hk)).2,take_of_nodup h3 (by rw [List.length_map];exact hk)⟩
theorem W5 (x:HNode):V8 x=0↔(1<=x.kind/\x.kind<=5)/\XZ x=true/\(x.kind=2->K4 true x.name=true)/\JW x.attrs=0/\x.text.length<=400/\x.name.length<=400:=by
 unfold V8
 constructor
 ·intro h
  split at h
  ·omega
  ·rename_i h1
   simp only [not_or] at h1
   split at h
   ·omega
   ·rename_i h2
    split at h
    ·rename_i h3;exact absurd h h3
    ·rename_i h3
     split at h
     ·omega
     ·rename_i h4
      refine ⟨by omega,by simpa using h1.2.2,fun h5=>?_,by simpa using h3,by omega,by omega⟩
      cases hn:K4 true x.name with
      | true=>rfl
      | false=>exact absurd ⟨h5,hn⟩ h2
 ·rintro ⟨h1,h2,h3,h4,h5,h6⟩
  rw [if_neg (by rw [h2];simp;omega),if_neg (by rintro ⟨h7,h8⟩;rw [h3 h7] at h8;cases h8),if_neg (by simpa using h4),if_neg (by omega)]
theorem map_set_name {l:List HAttr} {i:Nat} {a:HAttr} (hi:i<l.length) (hn:(nth l i).name=a.name):(l.set i a).map (·.name)=l.map (·.name):=by
 apply List.ext_getElem?
 intro j
 rw [List.getElem?_map,List.getElem?_map,List.getElem?_set]
 by_cases h:i=j
 ·subst h
  have:nth l i=l[i]:=by unfold nth;rw [List.getD_eq_getElem?_getD,List.getElem?_eq_getElem hi];rfl
  rw [if_pos rfl,if_pos hi,List.getElem?_eq_getElem hi,Option.map_some,Option.map_some,<-this,hn]
 ·rw [if_neg h]
theorem setAttr_ok {l:List HAttr} {name value:List UInt8} (hl:JW l=0) (hn:K4 false name=true):JW (V6 l name value)=0↔value.length<=400/\(¬ 0<=J9 l name->l.length<12):=by
 rw [ZZ] at hl
 obtain ⟨h1,h2,h3⟩:=hl
 rw [ZZ]
 unfold V6
 by_cases h0:0<=J9 l name
 ·rw [if_pos h0]
  obtain ⟨g1,g2,g3⟩:=WQ l name h0
  rw [List.length_set,map_set_name g1 (by rw [g2])]
  constructor
  ·rintro ⟨_,q,_⟩
   have hm:(⟨name,value⟩:HAttr)∈l.set (J9 l name).toNat ⟨name,value⟩:=List.mem_of_getElem? (i:=(J9 l name).toNat) (by rw [List.getElem?_set];simp [g1])
   exact ⟨(q _ hm).2,fun h=>absurd h0 h⟩
  ·rintro ⟨q,_⟩
   refine ⟨h1,fun a ha=>?_,h3⟩
   rcases List.mem_or_eq_of_mem_set ha with ha | rfl
   ·exact h2 a ha
   ·exact ⟨hn,q⟩
 ·rw [if_neg h0,List.length_append,List.map_append]
  have hnm:name∉l.map (·.name):=fun h=>h0 ((attrAt_mem l name).2 h)
  constructor
  ·rintro ⟨q1,q2,_⟩
   have:=(q2 ⟨name,value⟩ (by simp)).2
   simp only [List.length_singleton] at q1
   exact ⟨this,fun _=>by omega⟩
  ·rintro ⟨q1,q2⟩
   have:=q2 h0
   refine ⟨by simp;omega,fun a ha=>?_,?_⟩
   ·rcases List.mem_append.1 ha with ha | ha
    ·exact h2 a ha
    ·simp only [List.mem_singleton] at ha;subst ha;exact ⟨hn,q1⟩
   ·rw [List.nodup_append]
    refine ⟨h3,by simp,fun x hx y hy hxy=>?_⟩
    simp only [List.map_cons,List.map_nil,List.mem_singleton] at hy
    subst hy;subst hxy
    exact hnm hx
theorem dropAttr_ok {l:List HAttr} {name:List UInt8} (hl:JW l=0) (h0:0<=J9 l name):JW (W9 l name)=0:=by
 rw [ZZ] at hl ⊢
 obtain ⟨h1,h2,h3⟩:=hl
 have hs:∀ i,(l.take i++l.drop (i+1)).Sublist l:=fun i=>by
  conv=>rhs;rw [<-List.take_append_drop i l]
  refine List.Sublist.append (List.Sublist.refl _) ?_
  rw [show l.drop (i+1)=(l.drop i).drop 1 by rw [List.drop_drop]]
  exact List.drop_sublist _ _
 unfold W9
 have h:=hs (J9 l name).toNat
 exact ⟨Nat.le_trans h.length_le h1,fun a ha=>h2 a (h.subset ha),(h3.sublist (h.map _))⟩
theorem setAttr_map {l:List HAttr} {name value:List UInt8} (h3:(l.map (·.name)).Nodup):V6 l name value=(l.map fun a=>if a.name=name then ⟨a.name,value⟩ else a)++(if 0<=J9 l name then [] else [⟨name,value⟩]):=by
 unfold V6
 by_cases h0:0<=J9 l name
 ·rw [if_pos h0,if_pos h0,List.append_nil]
  obtain ⟨g1,g2,g3⟩:=WQ l name h0
  generalize (J9 l name).toNat=i at *
  apply List.ext_getElem?
  intro j
  rw [List.getElem?_set,List.getElem?_map]
  by_cases h:i=j
  ·subst h
   have e:nth l i=l[i]:=by unfold nth;rw [List.getD_eq_getElem?_getD,List.getElem?_eq_getElem g1];rfl
   rw [if_pos rfl,if_pos g1,List.getElem?_eq_getElem g1,Option.map_some,<-e,if_pos g2,g2]
  ·rw [if_neg h]
   by_cases hj:j<l.length
   ·rw [List.getElem?_eq_getElem hj,Option.map_some,if_neg]
    intro e
    refine h ?_
    have e1:nth l i=l[i]:=by unfold nth;rw [List.getD_eq_getElem?_getD,List.getElem?_eq_getElem g1];rfl
    rw [List.Nodup,List.pairwise_iff_getElem] at h3
    rcases Nat.lt_trichotomy i j with hij | hij | hij
    ·exact absurd (by rw [List.getElem_map,List.getElem_map,e,<-e1,g2]) (h3 i j (by simpa using g1) (by simpa using hj) hij)
    ·exact hij
    ·exact absurd (by rw [List.getElem_map,List.getElem_map,e,<-e1,g2]) (h3 j i (by simpa using hj) (by simpa using g1) hij)
   ·rw [List.getElem?_eq_none (by omega)];rfl
 ·rw [if_neg h0,if_neg h0]
  congr 1
  have:∀ a∈l,a.name≠name:=fun a ha e=>h0 ((attrAt_mem l name).2 (List.mem_map.2 ⟨a,ha,e⟩))
  conv=>lhs;rw [<-List.map_id l]
  refine List.map_congr_left fun a ha=>?_
  rw [if_neg (this a ha)];rfl
theorem dropAttr_filter {l:List HAttr} {name:List UInt8} (h3:(l.map (·.name)).Nodup) (h0:0<=J9 l name):W9 l name=l.filter fun a=>decide (a.name≠name):=by
 obtain ⟨g1,g2,g3⟩:=WQ l name h0
 unfold W9
 generalize (J9 l name).toNat=i at *
 have e:l=l.take i++nth l i :: l.drop (i+1):=by
  have:nth l i=l[i]:=by unfold nth;rw [List.getD_eq_getElem?_getD,List.getElem?_eq_getElem g1];rfl
  rw [this,List.getElem_cons_drop,List.take_append_drop]
 generalize nth l i=y at *
 generalize l.take i=A at *
 generalize l.drop (i+1)=B at *
 subst e
 rw [List.map_append,List.map_cons,List.nodup_append,List.nodup_cons] at h3
 obtain ⟨_,⟨k2,_⟩,k4⟩:=h3
 rw [List.filter_append,List.filter_cons_of_neg (by simpa using g2)]
 rw [List.filter_eq_self.2 fun a ha=>?_,List.filter_eq_self.2 fun a ha=>?_]
 ·simp only [ne_eq,decide_eq_true_eq]
  intro e
  exact k2 (List.mem_map.2 ⟨a,ha,by rw [e,g2]⟩)
 ·simp only [ne_eq,decide_eq_true_eq]
  intro e
  exact k4 a.name (List.mem_map.2 ⟨a,ha,rfl⟩) y.name List.mem_cons_self (by rw [e,g2])
def lowF:Nat->HDoc->Int->Nat
 | 0,_,_=>0
 | f+1,d,n=>((nd d n).kids.map fun k=>lowF f d k+1).foldl max 0
def low (d:HDoc) (n:Int):Nat:=lowF (41-up d n) d n
theorem foldl_max (l:List Nat) (c:Nat):∀ a,l.foldl max a<=c↔a<=c /\ ∀ x∈l,x<=c:=by
 induction l with
 | nil=>intro a;simp
 | cons y l ih=>
   intro a
   rw [List.foldl_cons,ih]
   constructor
   ·rintro ⟨h1,h2⟩
    refine ⟨by omega,fun x hx=>?_⟩
    rcases List.mem_cons.1 hx with rfl | hx
    ·omega
    ·exact h2 x hx
   ·rintro ⟨h1,h2⟩
    have:=h2 y List.mem_cons_self
    exact ⟨by omega,fun x hx=>h2 x (List.mem_cons_of_mem _ hx)⟩
section
variable {d:HDoc}
theorem low_eq (V:DV d) {n:Int} (hn:inD d n):low d n=((nd d n).kids.map fun k=>low d k+1).foldl max 0:=by
 have h40:=V.deep n hn
 obtain ⟨f,hf⟩:∃ f,41-up d n=f+1:=⟨40-up d n,by omega⟩
 have e:low d n=lowF (f+1) d n:=by unfold low;rw [hf]
 rw [e,lowF]
 congr 1
 refine List.map_congr_left fun k hk=>?_
 have hu:=V.up_kid hn hk
 show _=lowF (41-up d k) d k+1
 rw [show 41-up d k=f by omega]
theorem low_le (V:DV d):∀ n,inD d n -> ∀ c,low d n<=c ↔ ∀ m∈Z5 d n,up d m<=up d n+c:=V.down fun n hn ih c=>by
 rw [low_eq V hn,foldl_max,W7 V hn]
 constructor
 ·rintro ⟨_,h⟩ m hm
  rcases List.mem_cons.1 hm with rfl | hm
  ·omega
  ·obtain ⟨k,hk,hm⟩:=List.mem_flatMap.1 hm
   have h1:=h _ (List.mem_map.2 ⟨k,hk,rfl⟩)
   have h2:=(ih k hk (c-1)).1 (by omega) m hm
   have:=V.up_kid hn hk
   omega
 ·intro h
  refine ⟨by omega,fun x hx=>?_⟩
  obtain ⟨k,hk,rfl⟩:=List.mem_map.1 hx
  have hki:=(V.kid n hn k hk).1
  have hu:=V.up_kid hn hk
  have h0:=h k (List.mem_cons_of_mem _ (List.mem_flatMap.2 ⟨k,hk,XJ V hki⟩))
  have:=(ih k hk (c-1)).2 fun m hm=>by
   have:=h m (List.mem_cons_of_mem _ (List.mem_flatMap.2 ⟨k,hk,hm⟩))
   omega
  omega
theorem low_40 (V:DV d) {n:Int} (hn:inD d n):low d n<=40:=(low_le V n hn 40).2 fun m hm=>by have:=V.deep m (X5 V n hn m hm);omega
end
def YY (d:HDoc) (e:HEdit):Nat:=if e.before = -1 then (nd d e.at').kids.length else (U8 (· == e.before) (nd d e.at').kids).toNat
def V4 (d:HDoc) (e:HEdit):Int:=
 if e.do'=1 then (if ¬ inD d e.at' then 5 else if (nd d e.at').kind≠2 then 7 else if K4 false e.name=false then 3
  else if 400<e.value.length\/(¬ 0<=J9 (nd d e.at').attrs e.name/\(nd d e.at').attrs.length=12) then 2 else 0)
 else if e.do'=2 then (if ¬ inD d e.at' then 5 else if (nd d e.at').kind≠2 then 7 else if ¬ 0<=J9 (nd d e.at').attrs e.name then 5 else 0)
 else if e.do'=3 then (if ¬ inD d e.at' then 5 else if (nd d e.at').kind≠3/\(nd d e.at').kind≠4 then 7 else if 400<e.value.length then 2 else 0)
 else if e.do'=4 then (if e.node.kids≠[] then 3 else if e.node.kind=1 then 7 else if V8 e.node≠0 then V8 e.node else if d.nodes.length=200 then 2 else 0)
 else if e.do'=5 then (if ¬ inD d e.at'\/¬ inD d e.into then 5
  else if ¬ ((nd d e.at').kind=1\/(nd d e.at').kind=2)\/(nd d e.into).kind=1\/((nd d e.at').kind=1/\(nd d e.into).kind=3) then 7
  else if 0<=(nd d e.into).parent then 9 else if e.before ≠ -1/\e.before∉(nd d e.at').kids then 5 else if e.into∈X7 d e.at' then 8
  else if 40<up d e.at'+1+low d e.into then 2 else 0)
 else if e.do'=6 then (if ¬ inD d e.at' then 5 else if (nd d e.at').kind=1 then 7 else if ¬ 0<=(nd d e.at').parent then 5 else 0)
 else 1
def madeM (x:HNode):HNode:=⟨x.kind,x.name,x.attrs,x.text,-1,[]⟩
def J6 (d:HDoc) (e:HEdit):HDoc:=
 if e.do'=1 then setN d e.at' { nd d e.at' with attrs:=V6 (nd d e.at').attrs e.name e.value }
 else if e.do'=2 then setN d e.at' { nd d e.at' with attrs:=W9 (nd d e.at').attrs e.name }
 else if e.do'=3 then setN d e.at' { nd d e.at' with text:=e.value }
 else if e.do'=4 then UX d (madeM e.node)
 else if e.do'=5 then UV d e.at' e.into (YY d e)
 else cutN d e.at' (U8 (· == e.at') (nd d (nd d e.at').parent).kids).toNat
def editN (d:HDoc) (e:HEdit):Int:=if e.do'=4 then d.nodes.length else 0
def JK (d:HDoc) (e:HEdit):Int:=
 if ¬ (1<=e.do'/\e.do'<=6) then 1
 else if e.do'=4 then (if e.node.kids≠[] then 3 else if e.node.kind=1 then 7 else V8 e.node)
 else if ¬ inD d e.at'\/(e.do'=5/\¬ inD d e.into) then 5
 else if e.do'=1 then (if (nd d e.at').kind≠2 then 7 else if K4 false e.name=false then 3 else 0)
 else if e.do'=2 then (if (nd d e.at').kind≠2 then 7 else if ¬ 0<=J9 (nd d e.at').attrs e.name then 5 else 0)
 else if e.do'=3 then (if (nd d e.at').kind≠3/\(nd d e.at').kind≠4 then 7 else 0)
 else if e.do'=6 then (if e.at'=0 then 7 else if (nd d e.at').parent<0 then 5 else 0)
 else (if 2<(nd d e.at').kind\/e.into=0\/(e.at'=0/\(nd d e.into).kind=3) then 7 else if 0<=(nd d e.into).parent then 9
  else if e.before ≠ -1/\e.before∉(nd d e.at').kids then 5 else if e.into∈X7 d e.at' then 8 else 0)
section
variable {d:HDoc}
theorem editE_errR (V:DV d) (e:HEdit):(JK d e≠0->V4 d e=JK d e)/\(JK d e=0->V4 d e=0\/V4 d e=2):=by
 unfold JK V4
 by_cases h1:e.do'=1
 ·rw [if_neg (by omega),if_neg (by omega),if_pos h1,if_pos h1]
  by_cases ha:inD d e.at'
  ·rw [if_neg (show ¬ (¬ inD d e.at'\/(e.do'=5/\¬ inD d e.into)) by simp [ha];omega),if_neg (show ¬ ¬ inD d e.at' from fun h=>h ha)]
   by_cases hk:(nd d e.at').kind≠2
   ·first | (rw [if_pos hk,if_pos hk];simp;done) | (rw [if_pos hk];simp)
   ·rw [if_neg hk,if_neg hk]
    by_cases hn:K4 false e.name=false
    ·first | (rw [if_pos hn,if_pos hn];simp;done) | (rw [if_pos hn];simp)
    ·first | (rw [if_neg hn,if_neg hn];split <;> simp;done) | (rw [if_neg hn];split <;> simp)
  ·rw [if_pos (.inl ha),if_pos ha];simp
 rw [if_neg (show ¬ e.do'=1 from h1),if_neg (show ¬ e.do'=1 from h1)]
 by_cases h2:e.do'=2
 ·rw [if_neg (by omega),if_neg (by omega),if_pos h2,if_pos h2]
  by_cases ha:inD d e.at'
  ·rw [if_neg (show ¬ (¬ inD d e.at'\/(e.do'=5/\¬ inD d e.into)) by simp [ha];omega),if_neg (show ¬ ¬ inD d e.at' from fun h=>h ha)]
   by_cases hk:(nd d e.at').kind≠2
   ·first | (rw [if_pos hk,if_pos hk];simp;done) | (rw [if_pos hk];simp)
   ·first | (rw [if_neg hk,if_neg hk];split <;> simp;done) | (rw [if_neg hk];split <;> simp)
  ·rw [if_pos (.inl ha),if_pos ha];simp
 rw [if_neg (show ¬ e.do'=2 from h2),if_neg (show ¬ e.do'=2 from h2)]
 by_cases h3:e.do'=3
 ·rw [if_neg (by omega),if_neg (by omega),if_pos h3,if_pos h3]
  by_cases ha:inD d e.at'
  ·rw [if_neg (show ¬ (¬ inD d e.at'\/(e.do'=5/\¬ inD d e.into)) by simp [ha];omega),if_neg (show ¬ ¬ inD d e.at' from fun h=>h ha)]
   by_cases hk:(nd d e.at').kind≠3/\(nd d e.at').kind≠4
   ·first | (rw [if_pos hk,if_pos hk];simp;done) | (rw [if_pos hk];simp)
   ·first | (rw [if_neg hk,if_neg hk];split <;> simp;done) | (rw [if_neg hk];split <;> simp)
  ·rw [if_pos (.inl ha),if_pos ha];simp
 rw [if_neg (show ¬ e.do'=3 from h3),if_neg (show ¬ e.do'=3 from h3)]
 by_cases h4:e.do'=4
 ·rw [if_neg (by omega),if_pos h4,if_pos h4]
  by_cases hk:e.node.kids≠[]
  ·first | (rw [if_pos hk,if_pos hk];simp;done) | (rw [if_pos hk];simp)
  ·rw [if_neg hk,if_neg hk]
   by_cases hk1:e.node.kind=1
   ·first | (rw [if_pos hk1,if_pos hk1];simp;done) | (rw [if_pos hk1];simp)
   ·rw [if_neg hk1,if_neg hk1]
    by_cases hz:V8 e.node≠0
    ·rw [if_pos hz];exact ⟨fun _=>rfl,fun h=>absurd h hz⟩
    ·rw [if_neg hz]
     refine ⟨fun h=>absurd h hz,fun _=>?_⟩
     split <;> simp
 rw [if_neg (show ¬ e.do'=4 from h4),if_neg (show ¬ e.do'=4 from h4)]
 by_cases h5:e.do'=5
 ·rw [if_neg (by omega),if_pos h5]
  by_cases ha:inD d e.at'
  ·by_cases ht:inD d e.into
   ·rw [if_neg (show ¬ (¬ inD d e.at'\/(e.do'=5/\¬ inD d e.into)) by simp [ha,ht]),if_neg (show ¬ e.do'=6 by omega),if_neg (show ¬ (¬ inD d e.at'\/¬ inD d e.into) by simp [ha,ht])]
    have ka:=V.kind _ ha
    have kt:=V.kind _ ht
    have na:=((W5 _).1 (V.node _ ha)).1
    have eq7:(¬ ((nd d e.at').kind=1\/(nd d e.at').kind=2)\/(nd d e.into).kind=1\/((nd d e.at').kind=1/\(nd d e.into).kind=3))↔(2<(nd d e.at').kind\/e.into=0\/(e.at'=0/\(nd d e.into).kind=3)):=by
     rw [kt,ka]
     refine or_congr ?_ Iff.rfl
     omega
    by_cases h7:2<(nd d e.at').kind\/e.into=0\/(e.at'=0/\(nd d e.into).kind=3)
    ·rw [if_pos h7,if_pos (eq7.2 h7)];simp
    ·rw [if_neg h7,if_neg (fun h=>h7 (eq7.1 h))]
     by_cases h9:0<=(nd d e.into).parent
     ·first | (rw [if_pos h9,if_pos h9];simp;done) | (rw [if_pos h9];simp)
     ·rw [if_neg h9,if_neg h9]
      by_cases hb:e.before ≠ -1/\e.before∉(nd d e.at').kids
      ·first | (rw [if_pos hb,if_pos hb];simp;done) | (rw [if_pos hb];simp)
      ·rw [if_neg hb,if_neg hb]
       by_cases hc:e.into∈X7 d e.at'
       ·first | (rw [if_pos hc,if_pos hc];simp;done) | (rw [if_pos hc];simp)
       ·first | (rw [if_neg hc,if_neg hc];split <;> simp;done) | (rw [if_neg hc];split <;> simp)
   ·rw [if_pos (.inr ⟨h5,ht⟩),if_pos (.inr ht)];simp
  ·rw [if_pos (.inl ha),if_pos (.inl ha)];simp
 rw [if_neg (show ¬ e.do'=5 from h5)]
 by_cases h6:e.do'=6
 ·rw [if_neg (by omega),if_pos h6,if_pos h6]
  by_cases ha:inD d e.at'
  ·rw [if_neg (show ¬ (¬ inD d e.at'\/(e.do'=5/\¬ inD d e.into)) by simp [ha];omega),if_neg (show ¬ ¬ inD d e.at' from fun h=>h ha)]
   have ka:=V.kind _ ha
   by_cases hk:e.at'=0
   ·rw [if_pos hk,if_pos (ka.2 hk)];simp
   ·rw [if_neg hk,if_neg (fun h=>hk (ka.1 h))]
    by_cases hp:0<=(nd d e.at').parent
    ·rw [if_neg (by omega),if_neg (by simpa using hp)];simp
    ·rw [if_pos (by omega),if_pos hp];simp
  ·rw [if_pos (.inl ha),if_pos ha];simp
 rw [if_neg (show ¬ e.do'=6 from h6),if_pos (by omega)]
 simp [h6]
theorem made_nodeE {x:HNode} (h:x.kids=[]):V8 (madeM x)=V8 x:=by
 have:XZ (madeM x)=XZ x:=by unfold XZ madeM;rw [h]
 unfold V8;rw [this];rfl
theorem idxM_leK (l:List Int) (x:Int):-1<=U8 (· == x) l/\U8 (· == x) l<l.length/\(0<=U8 (· == x) l->nth l (U8 (· == x) l).toNat=x):=by
 unfold U8
 split
 ·rename_i i hi
  rw [List.findIdx?_eq_some_iff_getElem] at hi
  obtain ⟨h1,h2,_⟩:=hi
  refine ⟨by omega,by omega,fun _=>?_⟩
  have:nth l i=l[i]:=by unfold nth;rw [List.getD_eq_getElem?_getD,List.getElem?_eq_getElem h1];rfl
  rw [Int.toNat_natCast,this];simpa using h2
 ·refine ⟨by omega,by omega,fun h=>by omega⟩
theorem idx_at {l:List Int} {x:Int} (h:x∈l):(U8 (· == x) l).toNat<l.length/\nth l (U8 (· == x) l).toNat=x:=by
 have h0:=(idx_mem l x).2 h
 have:=idxM_leK l x
 exact ⟨by omega,this.2.2 h0⟩
theorem edit_DV (V:DV d) (e:HEdit) (h0:JK d e=0):DV (J6 d e)↔V4 d e=0:=by
 unfold JK at h0
 unfold V4 J6
 by_cases h1:e.do'=1
 ·rw [if_neg (by omega),if_neg (by omega)] at h0
  split at h0
  ·omega
  rename_i ha
  simp only [not_or,Classical.not_not] at ha
  try rw [if_pos h1] at h0
  split at h0
  ·omega
  rename_i hk
  split at h0
  ·omega
  rename_i hn
  have hk:(nd d e.at').kind=2:=by simpa using hk
  rw [if_pos h1,if_pos h1,if_neg (by simpa using ha.1),if_neg (by simpa using hk),if_neg hn]
  rw [V.same ha.1 (x:={ nd d e.at' with attrs:=V6 (nd d e.at').attrs e.name e.value }) rfl rfl rfl]
  have hx:=(W5 _).1 (V.node _ ha.1)
  have hs:=setAttr_ok (value:=e.value) hx.2.2.2.1 (by simpa using hn:K4 false e.name=true)
  rw [W5]
  constructor
  ·rintro ⟨_,_,_,h4,_⟩
   have:=hs.1 h4
   have hl:=((ZZ _).1 hx.2.2.2.1).1
   rw [if_neg]
   rintro (h | ⟨h,h'⟩)
   ·omega
   ·have:=this.2 h;omega
  ·intro h
   split at h
   ·omega
   rename_i hb
   simp only [not_or,not_and] at hb
   have hl:=((ZZ _).1 hx.2.2.2.1).1
   refine ⟨hx.1,?_,hx.2.2.1,hs.2 ⟨by omega,fun hh=>by have:=hb.2 hh;omega⟩,hx.2.2.2.2⟩
   have hbm:=hx.2.1
   unfold XZ at hbm ⊢
   simp only [hk] at hbm ⊢
   simpa using hbm
 rw [if_neg h1,if_neg h1]
 by_cases h2:e.do'=2
 ·rw [if_neg (by omega),if_neg (by omega)] at h0
  split at h0
  ·omega
  rename_i ha
  simp only [not_or,Classical.not_not] at ha
  try rw [if_neg h1] at h0
  try rw [if_pos h2] at h0
  split at h0
  ·omega
  rename_i hk
  split at h0
  ·omega
  rename_i hn
  have hk:(nd d e.at').kind=2:=by simpa using hk
  have hn:0<=J9 (nd d e.at').attrs e.name:=Classical.not_not.1 hn
  rw [if_pos h2,if_pos h2,if_neg (by simpa using ha.1),if_neg (by simpa using hk),if_neg (by simpa using hn)]
  rw [V.same ha.1 (x:={ nd d e.at' with attrs:=W9 (nd d e.at').attrs e.name }) rfl rfl rfl]
  have hx:=(W5 _).1 (V.node _ ha.1)
  rw [W5]
  refine ⟨fun _=>rfl,fun _=>⟨hx.1,?_,hx.2.2.1,dropAttr_ok hx.2.2.2.1 hn,hx.2.2.2.2⟩⟩
  have hbm:=hx.2.1
  unfold XZ at hbm ⊢
  simp only [hk] at hbm ⊢
  simpa using hbm
 rw [if_neg h2,if_neg h2]
 by_cases h3:e.do'=3
 ·rw [if_neg (by omega),if_neg (by omega)] at h0
  split at h0
  ·omega
  rename_i ha
  simp only [not_or,Classical.not_not] at ha
  try rw [if_neg h1] at h0
  try rw [if_neg h2] at h0
  try rw [if_pos h3] at h0
  split at h0
  ·omega
  rename_i hk
  rw [if_pos h3,if_pos h3,if_neg (by simpa using ha.1),if_neg hk]
  rw [V.same ha.1 (x:={ nd d e.at' with text:=e.value }) rfl rfl rfl]
  have hx:=(W5 _).1 (V.node _ ha.1)
  rw [W5]
  constructor
  ·rintro ⟨_,_,_,_,h5,_⟩
   rw [if_neg (by simpa using h5)]
  ·intro h
   split at h
   ·omega
   rename_i hb
   refine ⟨hx.1,?_,hx.2.2.1,hx.2.2.2.1,by show e.value.length<=400;omega,hx.2.2.2.2.2⟩
   have hbm:=hx.2.1
   unfold XZ at hbm ⊢
   have:(nd d e.at').kind=3\/(nd d e.at').kind=4:=by omega
   rcases this with hk | hk <;> simp only [hk] at hbm ⊢ <;> simpa using hbm
 rw [if_neg h3,if_neg h3]
 by_cases h4:e.do'=4
 ·rw [if_neg (by omega),if_pos h4] at h0
  split at h0
  ·omega
  rename_i hk
  split at h0
  ·omega
  rename_i hk1
  have hk:e.node.kids=[]:=by simpa using hk
  rw [if_pos h4,if_pos h4,if_neg (by simpa using hk),if_neg hk1,if_neg (by simpa using h0)]
  rw [V.add (x:=madeM e.node) rfl rfl hk1,made_nodeE hk]
  have:=V.len
  constructor
  ·rintro ⟨_,h⟩;rw [if_neg (by omega)]
  ·intro h
   split at h
   ·omega
   exact ⟨h0,by omega⟩
 rw [if_neg h4,if_neg h4]
 by_cases h5:e.do'=5
 ·rw [if_neg (by omega),if_neg h4] at h0
  split at h0
  ·omega
  rename_i ha
  simp only [not_or,Classical.not_not,not_and] at ha
  have hat:=ha.1
  have hto:=ha.2 h5
  try rw [if_neg h1] at h0
  try rw [if_neg h2] at h0
  try rw [if_neg h3] at h0
  try rw [if_neg (show ¬ e.do'=6 by omega)] at h0
  split at h0
  ·omega
  rename_i h7
  split at h0
  ·omega
  rename_i h9
  split at h0
  ·omega
  rename_i hb
  split at h0
  ·omega
  rename_i hc
  simp only [not_or,not_and] at h7
  have ka:=V.kind _ hat
  have kt:=V.kind _ hto
  have na:=((W5 _).1 (V.node _ hat)).1
  have c1:(nd d e.at').kind=1\/(nd d e.at').kind=2:=by omega
  have c2:(nd d e.into).kind≠1:=fun h=>h7.2.1 (kt.1 h)
  have c3:¬ ((nd d e.at').kind=1/\(nd d e.into).kind=3):=fun ⟨h,h'⟩=>h7.2.2 (ka.1 h) h'
  rw [if_pos h5,if_pos h5,if_neg (by simp [hat,hto]),if_neg (fun hh=>hh.elim (fun h=>h c1) (fun h=>h.elim c2 c3)),if_neg h9,if_neg hb,if_neg hc]
  rw [V.hang hat hto c1 c2 c3 h9 hc]
  have hl:=low_le V e.into hto
  have ut:=V.up_top (n:=e.into) h9
  rw [ut] at hl
  constructor
  ·intro h
   rw [if_neg]
   have:=(hl (39-up d e.at')).2 fun m hm=>by have:=h m hm;omega
   have:=h e.into (XJ V hto)
   omega
  ·intro h m hm
   split at h
   ·omega
   have:=(hl (39-up d e.at')).1 (by omega) m hm
   omega
 rw [if_neg h5,if_neg h5]
 by_cases h6:e.do'=6
 ·rw [if_neg (by omega),if_neg h4] at h0
  split at h0
  ·omega
  rename_i ha
  simp only [not_or,Classical.not_not] at ha
  try rw [if_neg h1] at h0
  try rw [if_neg h2] at h0
  try rw [if_neg h3] at h0
  try rw [if_pos h6] at h0
  split at h0
  ·omega
  rename_i hz
  split at h0
  ·omega
  rename_i hp
  have hp:0<=(nd d e.at').parent:=by omega
  have ka:=V.kind _ ha.1
  rw [if_pos h6,if_neg (by simpa using ha.1),if_neg (fun h=>hz (ka.1 h)),if_neg (by simpa using hp)]
  obtain ⟨i1,i2⟩:=idx_at (V.par_in ha.1 hp).2
  exact ⟨fun _=>rfl,fun _=>V.cut ha.1 hp i1 i2⟩
 rw [if_pos (by omega)] at h0
 omega
end
end Go.Proofs.K
end
section
set_option linter.unusedSimpArgs false
set_option linter.unusedVariables false
namespace Go.Proofs.YtcfjnldjkaglbaaGreatDoor
open Go Go.Sim Go.Proofs Go.Proofs.K Go.ChangeShapes Go.WideShapes Go.ChangeAt Go.RowKit
variable {H:Type} {enc:TypeId×Value->H} {w:World}
def goodE (k:Nat) (x:HEdit):Prop:=x.name.length<=k/\x.value.length<=k/\goodN k x.node
theorem rEdit:Rdr enc Tryz.prog w Rows.uptoBulk 33 Z4 goodE:=by
 have hB:=bulk H
 have r:=Rdr.struct (eh:=enc) (w:=w) hB Tryz.underlying33 (by kernel_rfl) (.cons (sz:=1) rfl (by kernel_rfl) mInt rInt (.cons (sz:=1) rfl (by kernel_rfl) mInt rInt (.cons (sz:=1) rfl (by kernel_rfl) mInt rInt (.cons (sz:=1) rfl (by kernel_rfl) mInt rInt
  (.cons (sz:=1) rfl (by kernel_rfl) mStr rStr (.cons (sz:=1) rfl (by kernel_rfl) mStr rStr (.cons (sz:=6) rfl (by kernel_rfl) mN rNode (.nil _))))))))
 exact r.map (fun p=>(⟨p.1,p.2.1,p.2.2.1,p.2.2.2.1,p.2.2.2.2.1,p.2.2.2.2.2.1,p.2.2.2.2.2.2.1⟩:HEdit)) (fun _=>rfl) (fun _ _ h=>⟨h.2.2.2.2.1,h.2.2.2.2.2.1,h.2.2.2.2.2.2.1⟩)
theorem editSm_of {k:Nat} {e:HEdit} (hk:k<=1073741824) (g:goodE k e):EditSm e:=by
 obtain ⟨g1,g2,h1,⟨h2,h3⟩,h4,h5⟩:=g
 exact ⟨Nat.le_trans g1 hk,Nat.le_trans g2 hk,⟨Nat.le_trans h1 hk,Nat.le_trans h2 hk,fun a ha=>⟨Nat.le_trans (h3 a ha).1 hk,Nat.le_trans (h3 a ha).2 hk⟩,Nat.le_trans h4 hk,Nat.le_trans h5 hk⟩⟩
end Go.Proofs.YtcfjnldjkaglbaaGreatDoor
end
section
set_option linter.unusedSimpArgs false
set_option linter.unusedVariables false
namespace Go.Proofs.K
open Go Go.Sim Go.Proofs Go.Shelf
variable {G:YZ}
theorem f128 (x:Int):WJ .or .u8 128 (WJ .and .u8 (IntKind.u8.wrap x) 63)=128+x % 64:=by
 rw [IntKind.wrap_u8]
 have h1:WJ .and .u8 (x % 256) 63=x % 256 % 64:=u8_and63 _ (by omega) (by omega)
 have h2:WJ .or .u8 128 (x % 256 % 64)=128+x % 256 % 64:=u8_or128 _ (by omega) (by omega)
 rw [h1,h2];omega
end Go.Proofs.K
end
section
set_option linter.unusedSimpArgs false
set_option linter.unusedVariables false
namespace Go.Proofs.K
open Go Go.Sim Go.Proofs
variable {G:YZ}
def eRune (r:Int):List AVal:=[.int .i32 r]
instance:LenE eRune 1:=⟨fun _=>rfl⟩
def validR (r:Int):Bool:=(decide (0<=r)&&decide (r<55296))||(decide (57343<r)&&decide (r<=1114111))
def c104:SFun:=⟨.seq (.reg [o 2 (.mv (.c (.bool false)))]) (.seq (.block 0 (.seq (.reg [o 4 (.mv (.t 0)),o 5 (.bin .leq (.c (.int .i32 0)) (.t 4)),o 6 (.mv (.t 5)),⟨some 7,.mv (.t 0),some (6,true)⟩,⟨some 8,.bin .lss (.t 7) (.c (.int .i32 55296)),some (6,true)⟩,o 9 (.pick (.t 6) (.t 8) (.c (.bool false))),o 3 (.mv (.t 9))]) (.cond (.t 3) (.seq (.reg [o 2 (.mv (.c (.bool true)))]) .ret) (.seq (.reg [o 11 (.mv (.t 0)),o 12 (.bin .lss (.c (.int .i32 57343)) (.t 11)),o 13 (.mv (.t 12)),⟨some 14,.mv (.t 0),some (13,true)⟩,⟨some 15,.bin .leq (.t 14) (.c (.int .i32 1114111)),some (13,true)⟩,o 16 (.pick (.t 13) (.t 15) (.c (.bool false))),o 10 (.mv (.t 16))]) (.cond (.t 10) (.seq (.reg [o 2 (.mv (.c (.bool true)))]) .ret) .skip))))) (.seq (.reg [o 2 (.mv (.c (.bool false)))]) .ret)),[.tmp 2]⟩
theorem hc104:Y3 Tryz.prog {} Tryz.f104=some c104:=by kernel_rfl
theorem validRune_ok (r:Int):PCalls (Pg G) 104 [.int .i32 r] (.bool (validR r)):=fun h=>by
 refine Q0 Tryz.func104 (by kernel_rfl) hc104 (by rw [Tryz.ntmps104];simp) (by rw [Tryz.ntmps104];decide) ?_
 unfold validR
 by_cases h1:0<=r <;> by_cases h2:r<55296 <;> by_cases h3:57343<r <;> by_cases h4:r<=1114111
 all_goals simp only [h1,h2,h3,h4,decide_true,decide_false,Bool.and_true,Bool.and_false,Bool.or_true,Bool.or_false]
 all_goals first | omega | skip
 all_goals (
  simp -dsimp -implicitDefEqProofs (disch:=omega) only [↓Q1 6,↓Q1 13,VCA,Nat.reduceEqDiff,↓reduceIte,reduceCtorEq,exists_eq_right,c104,h1,h2,h3,h4,decide_true,decide_false]
  exact Sub.refl _)
def bt (s:List UInt8) (i:Nat):Int:=((s.getD i 0).toNat:Int)
def firstF (q:Nat->Bool):Nat->Nat->Nat
 | 0,a=>a
 | f+1,a=>if q a=true then a else firstF q f (a+1)
def firstM (q:Nat->Bool) (n a:Nat):Nat:=firstF q (n-a) a
theorem first_on {q:Nat->Bool} {n a:Nat} (h:a<n) (hq:q a=false):firstM q n a=firstM q n (a+1):=by
 unfold firstM
 obtain ⟨f,hf⟩:∃ f,n-a=f+1:=⟨n-a-1,by omega⟩
 rw [hf,show n-(a+1)=f by omega,firstF,hq,if_neg (by simp)]
theorem first_off {q:Nat->Bool} {n a:Nat} (hq:q a=true) (h:a<n):firstM q n a=a:=by
 unfold firstM
 obtain ⟨f,hf⟩:∃ f,n-a=f+1:=⟨n-a-1,by omega⟩
 rw [hf,firstF,hq,if_pos rfl]
theorem first_end {q:Nat->Bool} {n a:Nat} (h:n<=a):firstM q n a=a:=by
 unfold firstM
 rw [show n-a=0 by omega];rfl
structure FirstIs (q:Nat->Bool) (n a k:Nat):Prop where
 ge:a<=k
 le:k<=n
 hit:k<n->q k=true
 no:∀ j,a<=j->j<k->q j=false
theorem first_is {q:Nat->Bool} {n:Nat}:∀ m a,n-a=m->a<=n->FirstIs q n a (firstM q n a)
 | 0,a,hm,h=>by
   obtain rfl:a=n:=by omega
   rw [first_end (Nat.le_refl _)]
   exact ⟨Nat.le_refl _,Nat.le_refl _,fun h=>absurd h (Nat.lt_irrefl _),fun j h1 h2=>by omega⟩
 | m+1,a,hm,h=>by
   cases hq:q a with
   | true=>
     rw [first_off hq (by omega)]
     exact ⟨Nat.le_refl _,h,fun _=>hq,fun j h1 h2=>by omega⟩
   | false=>
     rw [first_on (by omega) hq]
     obtain ⟨h1,h2,h3,h4⟩:=first_is (q:=q) (n:=n) m (a+1) (by omega) (by omega)
     refine ⟨by omega,h2,h3,fun j g1 g2=>?_⟩
     by_cases e:j=a
     ·rw [e];exact hq
     ·exact h4 j (by omega) g2
theorem fstI {q:Nat->Bool} {n a:Nat} (h:a<=n):FirstIs q n a (firstM q n a):=first_is _ a rfl h
theorem FirstIs.eq {q:Nat->Bool} {n a k:Nat} (h:FirstIs q n a k):firstM q n a=k:=by
 have g:=fstI (q:=q) (n:=n) (a:=a) (Nat.le_trans h.ge h.le)
 rcases Nat.lt_trichotomy (firstM q n a) k with hl | he | hl
 ·have h1:=h.no _ g.ge hl
  rw [g.hit (Nat.lt_of_lt_of_le hl h.le)] at h1;cases h1
 ·exact he
 ·have h1:=g.no _ h.ge hl
  rw [h.hit (Nat.lt_of_lt_of_le hl g.le)] at h1;cases h1
def seg (s:List UInt8) (a b:Nat):List UInt8:=(s.take b).drop a
theorem seg_len {s:List UInt8} {a b:Nat} (hb:b<=s.length):(seg s a b).length=b-a:=by
 unfold seg;rw [List.length_drop,List.length_take];omega
theorem seg_le (s:List UInt8) (a b:Nat):(seg s a b).length<=s.length:=by
 unfold seg;rw [List.length_drop,List.length_take];omega
theorem seg_self (s:List UInt8) (a:Nat):seg s a a=[]:=by
 unfold seg;apply List.drop_eq_nil_of_le;rw [List.length_take];omega
def U7 (b:Int):Bool:=b==32||(b==9||(b==10||(b==12||b==13)))
theorem runeAt_is (l:List UInt8) (p:Nat) (hp:p<l.length) :
 (bt l p<128->JX l p=((bt l p).toNat,1))/\(128<=bt l p->(JX l p=(65533,1))\/(2<=(JX l p).2/\128<=(JX l p).1))/\1<=(JX l p).2/\p+(JX l p).2<=l.length:=by
 have hb:((⟨l.toArray⟩:ByteArray).get! (p+0)).toNat=(bt l p).toNat:=by
  show (l.toArray.getD (p+0) default).toNat=_
  unfold bt
  simp [Array.getD_eq_getD_getElem?,List.getD_eq_getElem?_getD]
  rfl
 have hs:(⟨l.toArray⟩:ByteArray).size=l.length:=rfl
 have h0:0<=bt l p:=by unfold bt;omega
 unfold JX Utf8.decode
 simp only [hb,hs,Utf8.runeError]
 generalize ((⟨l.toArray⟩:ByteArray).get! (p+1)).toNat=b1
 generalize ((⟨l.toArray⟩:ByteArray).get! (p+2)).toNat=b2
 generalize ((⟨l.toArray⟩:ByteArray).get! (p+3)).toNat=b3
 simp only [Bool.and_eq_true,decide_eq_true_eq,beq_iff_eq]
 (repeat' split) <;> (refine ⟨fun h=>?_,fun h=>?_,?_,?_⟩) <;> first | omega | rfl | (simp only;omega) | (left;rfl) | (right;constructor <;> (simp only;omega)) | (exfalso;omega) | trace_state
theorem runeAt_cont (l:List UInt8) (p:Nat):∀ i,p<i->i<p+(JX l p).2->128<=bt l i:=by
 have hb:∀ k,((⟨l.toArray⟩:ByteArray).get! (p+k)).toNat=(bt l (p+k)).toNat:=fun k=>by
  show (l.toArray.getD (p+k) default).toNat=_
  unfold bt
  simp [Array.getD_eq_getD_getElem?,List.getD_eq_getElem?_getD]
  rfl
 intro i h1 h2
 obtain ⟨k,rfl⟩:∃ k,i=p+k:=⟨i-p,by omega⟩
 have hk:k=1\/k=2\/k=3\/4<=k:=by omega
 revert h2
 unfold JX Utf8.decode
 simp only [hb,Utf8.runeError]
 simp only [Bool.and_eq_true,decide_eq_true_eq,beq_iff_eq]
 (repeat' split) <;> intro h2 <;> (simp only at h2) <;> rcases hk with rfl | rfl | rfl | hk <;> first | omega | trace_state
theorem idxB_none {l:List UInt8} {c:UInt8} (h:c∉l):Lib.indexByte l c = -1:=by
 have h1:=Lib.indexByte_ge l c
 by_cases h2:Lib.indexByte l c = -1
 ·exact h2
 ·obtain ⟨o,ho⟩:∃ o:Nat,Lib.indexByte l c=o:=⟨(Lib.indexByte l c).toNat,by omega⟩
  exact absurd (List.mem_of_getElem? (Lib.indexByte_some ho).1) h
theorem idxB_some {l:List UInt8} {c:UInt8} (h:c∈l):0<=Lib.indexByte l c:=by
 have h1:=Lib.indexByte_ge l c
 by_cases h2:Lib.indexByte l c = -1
 ·obtain ⟨k,hk,e⟩:=List.getElem_of_mem h
  exact absurd (by rw [List.getElem?_eq_getElem hk,e]) (Lib.indexByte_none h2 k)
 ·omega
theorem enc_is (c:Nat) (h:128<=c) (hv:Utf8.valid (c:Int)=true):2<=(Utf8.encode (c:Int)).data.toList.length/\(Utf8.encode (c:Int)).data.toList.length<=4 /\ ∀ b∈(Utf8.encode (c:Int)).data.toList,128<=b.toNat:=by
 have hc:c<2097152:=by
  unfold Utf8.valid at hv
  simp only [Bool.or_eq_true,Bool.and_eq_true,decide_eq_true_eq] at hv
  omega
 unfold Utf8.encode
 simp only [hv,if_true,Int.toNat_natCast]
 (repeat' split)
 ·omega
 all_goals
  refine ⟨by simp,by simp,fun b hb=>?_⟩
  simp at hb
  rcases hb with rfl | rfl | rfl | rfl <;> simp <;> omega
theorem valid_eq (c:Int):validR c=Utf8.valid c:=by
 unfold validR Utf8.valid
 rw [Bool.eq_iff_iff]
 simp only [Bool.or_eq_true,Bool.and_eq_true,decide_eq_true_eq]
 omega
def ixR (l:List UInt8) (c:Nat):Int:=if c<128 then Lib.indexByte l (UInt8.ofNat c) else -1
def c87:SFun:=⟨.seq (.reg [o 4 (.mv (.c (.int .i64 0)))]) (.block 0 (.seq (.reg [o 161 (.mv (.t 1)),o 162 (.bin .leq (.c (.int .i32 0)) (.t 161)),o 163 (.mv (.t 162)),⟨some 164,.mv (.t 1),some (163,true)⟩,⟨some 165,.bin .lss (.t 164) (.c (.int .i32 128)),some (163,true)⟩,o 166 (.pick (.t 163) (.t 165) (.c (.bool false))),o 160 (.mv (.t 166))]) (.cond (.t 160) (.seq (.reg [o 167 (.mv (.t 0)),o 168 (.mv (.t 1)),o 169 (.cvi .u8 (.t 168)),o 170 (.pcall 103 [.t 167,.t 169]),o 4 (.mv (.t 170))]) .ret) (.seq (.reg [o 172 (.mv (.t 1)),o 173 (.bin .eql (.t 172) (.c (.int .i32 65533))),o 171 (.mv (.t 173))]) (.cond (.t 171) (.seq (.seq (.reg [o 174 (.mv (.t 0)),o 175 (.rng (.t 174))]) (.block 9 (.loop (.seq (.reg [o 176 (.nxt (.t 175)),o 177 (.ext (.t 176) 0)]) (.seq (.cond (.t 177) .skip (.exit 9)) (.block 10 (.seq (.reg [o 178 (.ext (.t 176) 1),o 179 (.ext (.t 176) 2),o 5 (.mv (.t 178)),o 6 (.mv (.t 179))]) (.seq (.reg [o 180 (.mv (.t 6)),o 181 (.bin .eql (.t 180) (.c (.int .i32 65533)))]) (.cond (.t 181) (.seq (.reg [o 182 (.mv (.t 5)),o 4 (.mv (.t 182))]) .ret) .skip))))))))) (.seq (.reg [o 4 (.mv (.c (.int .i64 (-1))))]) .ret)) (.seq (.reg [o 184 (.mv (.t 1)),o 185 (.pcall 104 [.t 184]),o 186 (.un .not (.t 185)),o 183 (.mv (.t 186))]) (.cond (.t 183) (.seq (.reg [o 4 (.mv (.c (.int .i64 (-1))))]) .ret) (.scope 1 (.seq (.reg [o 17 (.mv (.t 1)),o 18 (.r2s (.t 17)),o 7 (.mv (.t 18))]) (.seq (.reg [o 19 (.mv (.t 7)),o 20 (.lenS (.t 19)),o 21 (.bin .sub (.t 20) (.c (.int .i64 1))),o 8 (.mv (.t 21))]) (.seq (.reg [o 22 (.mv (.t 8)),o 9 (.mv (.t 22))]) (.seq (.reg [o 10 (.mv (.c (.int .i64 0)))]) (.seq (.block 1 (.loop (.seq (.seq (.reg [o 23 (.mv (.t 9)),o 24 (.mv (.t 0)),o 25 (.lenS (.t 24)),o 26 (.bin .lss (.t 23) (.t 25))]) (.cond (.t 26) .skip (.exit 1))) (.block 2 (.scope 0 (.seq (.seq (.dreg [(o 27 (.mv (.t 0)),none),(o 28 (.mv (.t 9)),none),(o 29 (.idxS (.t 27) (.t 28)),none),(o 30 (.mv (.t 7)),none),(o 31 (.mv (.t 8)),none),(o 32 (.idxS (.t 30) (.t 31)),none),(o 33 (.bin .neq (.t 29) (.t 32)),none)]) (.cond (.t 33) (.seq (.dreg [(o 34 (.mv (.t 0)),none),(o 35 (.mv (.t 9)),none),(o 36 (.bin .add (.t 35) (.c (.int .i64 1))),none),(o 37 (.slS (.t 34) (some (.t 36)) none),none),(o 38 (.mv (.t 7)),none),(o 39 (.mv (.t 8)),none),(o 40 (.idxS (.t 38) (.t 39)),none),(o 41 (.pcall 103 [.t 37,.t 40]),none),(o 11 (.mv (.t 41)),none)]) (.seq (.seq (.reg [o 42 (.mv (.t 11)),o 43 (.bin .lss (.t 42) (.c (.int .i64 0)))]) (.cond (.t 43) (.seq (.reg [o 4 (.mv (.c (.int .i64 (-1))))]) .ret) .skip)) (.reg [o 44 (.mv (.t 9)),o 45 (.mv (.t 11)),o 46 (.bin .add (.t 45) (.c (.int .i64 1))),o 47 (.bin .add (.t 44) (.t 46)),o 9 (.mv (.t 47))]))) .skip)) (.seq (.seq (.reg [o 12 (.mv (.c (.int .i64 1)))]) (.block 3 (.loop (.seq (.seq (.reg [o 48 (.mv (.t 12)),o 49 (.mv (.t 7)),o 50 (.lenS (.t 49)),o 51 (.bin .lss (.t 48) (.t 50))]) (.cond (.t 51) .skip (.exit 3))) (.seq (.block 4 (.seq (.dreg [(o 54 (.mv (.t 0)),none),(o 55 (.mv (.t 9)),none),(o 56 (.mv (.t 12)),none),(o 57 (.bin .sub (.t 55) (.t 56)),none),(o 58 (.idxS (.t 54) (.t 57)),none),(o 59 (.mv (.t 7)),none),(o 60 (.mv (.t 8)),none),(o 61 (.mv (.t 12)),none),(o 62 (.bin .sub (.t 60) (.t 61)),none),(o 63 (.idxS (.t 59) (.t 62)),none),(o 64 (.bin .neq (.t 58) (.t 63)),none)]) (.cond (.t 64) (.goto 0) .skip))) (.reg [o 52 (.mv (.t 12)),o 53 (.bin .add (.t 52) (.c (.int .i64 1))),o 12 (.mv (.t 53))])))))) (.seq (.seq (.reg [o 65 (.mv (.t 9)),o 66 (.mv (.t 8)),o 67 (.bin .sub (.t 65) (.t 66)),o 4 (.mv (.t 67))]) .ret) (.seq (.label 0) (.seq (.reg [o 68 (.mv (.t 10)),o 69 (.bin .add (.t 68) (.c (.int .i64 1))),o 10 (.mv (.t 69))]) (.seq (.reg [o 70 (.mv (.t 9)),o 71 (.bin .add (.t 70) (.c (.int .i64 1))),o 9 (.mv (.t 71))]) (.seq (.reg [o 72 (.mv (.c (.bool true))),⟨some 73,.mv (.t 10),some (72,true)⟩,⟨some 74,.mv (.t 9),some (72,true)⟩,⟨some 75,.call (.c (.fn 105 [] [])) [.t 74],some (72,true)⟩,⟨some 76,.bin .gtr (.t 73) (.t 75),some (72,true)⟩,o 77 (.pick (.t 72) (.t 76) (.c (.bool false))),o 78 (.mv (.t 77)),⟨some 79,.mv (.t 9),some (78,true)⟩,⟨some 80,.mv (.t 0),some (78,true)⟩,⟨some 81,.lenS (.t 80),some (78,true)⟩,⟨some 82,.bin .lss (.t 79) (.t 81),some (78,true)⟩,o 83 (.pick (.t 78) (.t 82) (.c (.bool false))),o 84 (.mv (.t 83)),⟨some 85,.mv (.c (.bool false)),some (84,false)⟩,⟨some 86,.mv (.t 10),some (85,true)⟩,⟨some 87,.mv (.t 9),some (85,true)⟩,⟨some 88,.bin .shr (.t 87) (.c (.int .u64 4)),some (85,true)⟩,⟨some 89,.bin .add (.c (.int .i64 4)) (.t 88),some (85,true)⟩,⟨some 90,.bin .geq (.t 86) (.t 89),some (85,true)⟩,⟨some 91,.pick (.t 85) (.t 90) (.c (.bool false)),some (84,false)⟩,⟨some 92,.mv (.t 91),some (84,false)⟩,⟨some 93,.mv (.t 9),some (92,true)⟩,⟨some 94,.mv (.t 0),some (92,true)⟩,⟨some 95,.lenS (.t 94),some (92,true)⟩,⟨some 96,.bin .lss (.t 93) (.t 95),some (92,true)⟩,⟨some 97,.pick (.t 92) (.t 96) (.c (.bool false)),some (84,false)⟩,o 98 (.pick (.t 84) (.c (.bool true)) (.t 97))]) (.cond (.t 98) (.goto 1) .skip)))))))) (.seq .skip (.seq (.reg [o 68 (.mv (.t 10)),o 69 (.bin .add (.t 68) (.c (.int .i64 1))),o 10 (.mv (.t 69))]) (.seq (.reg [o 70 (.mv (.t 9)),o 71 (.bin .add (.t 70) (.c (.int .i64 1))),o 9 (.mv (.t 71))]) (.seq (.reg [o 72 (.mv (.c (.bool true))),⟨some 73,.mv (.t 10),some (72,true)⟩,⟨some 74,.mv (.t 9),some (72,true)⟩,⟨some 75,.call (.c (.fn 105 [] [])) [.t 74],some (72,true)⟩,⟨some 76,.bin .gtr (.t 73) (.t 75),some (72,true)⟩,o 77 (.pick (.t 72) (.t 76) (.c (.bool false))),o 78 (.mv (.t 77)),⟨some 79,.mv (.t 9),some (78,true)⟩,⟨some 80,.mv (.t 0),some (78,true)⟩,⟨some 81,.lenS (.t 80),some (78,true)⟩,⟨some 82,.bin .lss (.t 79) (.t 81),some (78,true)⟩,o 83 (.pick (.t 78) (.t 82) (.c (.bool false))),o 84 (.mv (.t 83)),⟨some 85,.mv (.c (.bool false)),some (84,false)⟩,⟨some 86,.mv (.t 10),some (85,true)⟩,⟨some 87,.mv (.t 9),some (85,true)⟩,⟨some 88,.bin .shr (.t 87) (.c (.int .u64 4)),some (85,true)⟩,⟨some 89,.bin .add (.c (.int .i64 4)) (.t 88),some (85,true)⟩,⟨some 90,.bin .geq (.t 86) (.t 89),some (85,true)⟩,⟨some 91,.pick (.t 85) (.t 90) (.c (.bool false)),some (84,false)⟩,⟨some 92,.mv (.t 91),some (84,false)⟩,⟨some 93,.mv (.t 9),some (92,true)⟩,⟨some 94,.mv (.t 0),some (92,true)⟩,⟨some 95,.lenS (.t 94),some (92,true)⟩,⟨some 96,.bin .lss (.t 93) (.t 95),some (92,true)⟩,⟨some 97,.pick (.t 92) (.t 96) (.c (.bool false)),some (84,false)⟩,o 98 (.pick (.t 84) (.c (.bool true)) (.t 97))]) (.cond (.t 98) (.goto 1) .skip)))))))))) (.seq (.seq (.reg [o 4 (.mv (.c (.int .i64 (-1))))]) .ret) (.seq (.label 1) (.seq (.cond (.c (.bool true)) (.seq (.reg [o 99 (.mv (.t 0)),o 100 (.mv (.t 9)),o 101 (.mv (.t 8)),o 102 (.bin .sub (.t 100) (.t 101)),o 103 (.slS (.t 99) (some (.t 102)) none),o 104 (.mv (.t 1)),o 105 (.r2s (.t 104)),o 106 (.call (.c (.fn 106 [] [])) [.t 103,.t 105]),o 13 (.mv (.t 106))]) (.seq (.reg [o 107 (.mv (.t 13)),o 108 (.bin .geq (.t 107) (.c (.int .i64 0)))]) (.cond (.t 108) (.seq (.reg [o 109 (.mv (.t 9)),o 110 (.mv (.t 13)),o 111 (.bin .add (.t 109) (.t 110)),o 112 (.mv (.t 8)),o 113 (.bin .sub (.t 111) (.t 112)),o 4 (.mv (.t 113))]) .ret) .skip))) (.scope 2 (.seq (.reg [o 114 (.mv (.t 7)),o 115 (.mv (.t 8)),o 116 (.idxS (.t 114) (.t 115)),o 14 (.mv (.t 116))]) (.seq (.reg [o 117 (.mv (.t 7)),o 118 (.mv (.t 8)),o 119 (.bin .sub (.t 118) (.c (.int .i64 1))),o 120 (.idxS (.t 117) (.t 119)),o 15 (.mv (.t 120))]) (.seq (.label 2) (.block 5 (.loop (.seq (.seq (.reg [o 121 (.mv (.t 9)),o 122 (.mv (.t 0)),o 123 (.lenS (.t 122)),o 124 (.bin .lss (.t 121) (.t 123))]) (.cond (.t 124) .skip (.exit 5))) (.seq (.block 6 (.seq (.reg [o 127 (.mv (.t 0)),o 128 (.mv (.t 9)),o 129 (.idxS (.t 127) (.t 128)),o 130 (.mv (.t 14)),o 131 (.bin .eql (.t 129) (.t 130)),o 132 (.mv (.t 131)),⟨some 133,.mv (.t 0),some (132,true)⟩,⟨some 134,.mv (.t 9),some (132,true)⟩,⟨some 135,.bin .sub (.t 134) (.c (.int .i64 1)),some (132,true)⟩,⟨some 136,.idxS (.t 133) (.t 135),some (132,true)⟩,⟨some 137,.mv (.t 15),some (132,true)⟩,⟨some 138,.bin .eql (.t 136) (.t 137),some (132,true)⟩,o 139 (.pick (.t 132) (.t 138) (.c (.bool false)))]) (.cond (.t 139) (.seq (.seq (.reg [o 16 (.mv (.c (.int .i64 2)))]) (.block 7 (.loop (.seq (.seq (.reg [o 140 (.mv (.t 16)),o 141 (.mv (.t 7)),o 142 (.lenS (.t 141)),o 143 (.bin .lss (.t 140) (.t 142))]) (.cond (.t 143) .skip (.exit 7))) (.seq (.block 8 (.seq (.dreg [(o 146 (.mv (.t 0)),none),(o 147 (.mv (.t 9)),none),(o 148 (.mv (.t 16)),none),(o 149 (.bin .sub (.t 147) (.t 148)),none),(o 150 (.idxS (.t 146) (.t 149)),none),(o 151 (.mv (.t 7)),none),(o 152 (.mv (.t 8)),none),(o 153 (.mv (.t 16)),none),(o 154 (.bin .sub (.t 152) (.t 153)),none),(o 155 (.idxS (.t 151) (.t 154)),none),(o 156 (.bin .neq (.t 150) (.t 155)),none)]) (.cond (.t 156) (.exit 6) .skip))) (.reg [o 144 (.mv (.t 16)),o 145 (.bin .add (.t 144) (.c (.int .i64 1))),o 16 (.mv (.t 145))])))))) (.seq (.reg [o 157 (.mv (.t 9)),o 158 (.mv (.t 8)),o 159 (.bin .sub (.t 157) (.t 158)),o 4 (.mv (.t 159))]) .ret)) .skip))) (.reg [o 125 (.mv (.t 9)),o 126 (.bin .add (.t 125) (.c (.int .i64 1))),o 9 (.mv (.t 126))])))))))) (.seq .skip (.block 5 (.loop (.seq (.seq (.reg [o 121 (.mv (.t 9)),o 122 (.mv (.t 0)),o 123 (.lenS (.t 122)),o 124 (.bin .lss (.t 121) (.t 123))]) (.cond (.t 124) .skip (.exit 5))) (.seq (.block 6 (.seq (.reg [o 127 (.mv (.t 0)),o 128 (.mv (.t 9)),o 129 (.idxS (.t 127) (.t 128)),o 130 (.mv (.t 14)),o 131 (.bin .eql (.t 129) (.t 130)),o 132 (.mv (.t 131)),⟨some 133,.mv (.t 0),some (132,true)⟩,⟨some 134,.mv (.t 9),some (132,true)⟩,⟨some 135,.bin .sub (.t 134) (.c (.int .i64 1)),some (132,true)⟩,⟨some 136,.idxS (.t 133) (.t 135),some (132,true)⟩,⟨some 137,.mv (.t 15),some (132,true)⟩,⟨some 138,.bin .eql (.t 136) (.t 137),some (132,true)⟩,o 139 (.pick (.t 132) (.t 138) (.c (.bool false)))]) (.cond (.t 139) (.seq (.seq (.reg [o 16 (.mv (.c (.int .i64 2)))]) (.block 7 (.loop (.seq (.seq (.reg [o 140 (.mv (.t 16)),o 141 (.mv (.t 7)),o 142 (.lenS (.t 141)),o 143 (.bin .lss (.t 140) (.t 142))]) (.cond (.t 143) .skip (.exit 7))) (.seq (.block 8 (.seq (.dreg [(o 146 (.mv (.t 0)),none),(o 147 (.mv (.t 9)),none),(o 148 (.mv (.t 16)),none),(o 149 (.bin .sub (.t 147) (.t 148)),none),(o 150 (.idxS (.t 146) (.t 149)),none),(o 151 (.mv (.t 7)),none),(o 152 (.mv (.t 8)),none),(o 153 (.mv (.t 16)),none),(o 154 (.bin .sub (.t 152) (.t 153)),none),(o 155 (.idxS (.t 151) (.t 154)),none),(o 156 (.bin .neq (.t 150) (.t 155)),none)]) (.cond (.t 156) (.exit 6) .skip))) (.reg [o 144 (.mv (.t 16)),o 145 (.bin .add (.t 144) (.c (.int .i64 1))),o 16 (.mv (.t 145))])))))) (.seq (.reg [o 157 (.mv (.t 9)),o 158 (.mv (.t 8)),o 159 (.bin .sub (.t 157) (.t 158)),o 4 (.mv (.t 159))]) .ret)) .skip))) (.reg [o 125 (.mv (.t 9)),o 126 (.bin .add (.t 125) (.c (.int .i64 1))),o 9 (.mv (.t 126))])))))))) (.seq (.reg [o 4 (.mv (.c (.int .i64 (-1))))]) .ret))))))))) (.seq .skip (.seq (.cond (.c (.bool true)) (.seq (.reg [o 99 (.mv (.t 0)),o 100 (.mv (.t 9)),o 101 (.mv (.t 8)),o 102 (.bin .sub (.t 100) (.t 101)),o 103 (.slS (.t 99) (some (.t 102)) none),o 104 (.mv (.t 1)),o 105 (.r2s (.t 104)),o 106 (.call (.c (.fn 106 [] [])) [.t 103,.t 105]),o 13 (.mv (.t 106))]) (.seq (.reg [o 107 (.mv (.t 13)),o 108 (.bin .geq (.t 107) (.c (.int .i64 0)))]) (.cond (.t 108) (.seq (.reg [o 109 (.mv (.t 9)),o 110 (.mv (.t 13)),o 111 (.bin .add (.t 109) (.t 110)),o 112 (.mv (.t 8)),o 113 (.bin .sub (.t 111) (.t 112)),o 4 (.mv (.t 113))]) .ret) .skip))) (.scope 2 (.seq (.reg [o 114 (.mv (.t 7)),o 115 (.mv (.t 8)),o 116 (.idxS (.t 114) (.t 115)),o 14 (.mv (.t 116))]) (.seq (.reg [o 117 (.mv (.t 7)),o 118 (.mv (.t 8)),o 119 (.bin .sub (.t 118) (.c (.int .i64 1))),o 120 (.idxS (.t 117) (.t 119)),o 15 (.mv (.t 120))]) (.seq (.label 2) (.block 5 (.loop (.seq (.seq (.reg [o 121 (.mv (.t 9)),o 122 (.mv (.t 0)),o 123 (.lenS (.t 122)),o 124 (.bin .lss (.t 121) (.t 123))]) (.cond (.t 124) .skip (.exit 5))) (.seq (.block 6 (.seq (.reg [o 127 (.mv (.t 0)),o 128 (.mv (.t 9)),o 129 (.idxS (.t 127) (.t 128)),o 130 (.mv (.t 14)),o 131 (.bin .eql (.t 129) (.t 130)),o 132 (.mv (.t 131)),⟨some 133,.mv (.t 0),some (132,true)⟩,⟨some 134,.mv (.t 9),some (132,true)⟩,⟨some 135,.bin .sub (.t 134) (.c (.int .i64 1)),some (132,true)⟩,⟨some 136,.idxS (.t 133) (.t 135),some (132,true)⟩,⟨some 137,.mv (.t 15),some (132,true)⟩,⟨some 138,.bin .eql (.t 136) (.t 137),some (132,true)⟩,o 139 (.pick (.t 132) (.t 138) (.c (.bool false)))]) (.cond (.t 139) (.seq (.seq (.reg [o 16 (.mv (.c (.int .i64 2)))]) (.block 7 (.loop (.seq (.seq (.reg [o 140 (.mv (.t 16)),o 141 (.mv (.t 7)),o 142 (.lenS (.t 141)),o 143 (.bin .lss (.t 140) (.t 142))]) (.cond (.t 143) .skip (.exit 7))) (.seq (.block 8 (.seq (.dreg [(o 146 (.mv (.t 0)),none),(o 147 (.mv (.t 9)),none),(o 148 (.mv (.t 16)),none),(o 149 (.bin .sub (.t 147) (.t 148)),none),(o 150 (.idxS (.t 146) (.t 149)),none),(o 151 (.mv (.t 7)),none),(o 152 (.mv (.t 8)),none),(o 153 (.mv (.t 16)),none),(o 154 (.bin .sub (.t 152) (.t 153)),none),(o 155 (.idxS (.t 151) (.t 154)),none),(o 156 (.bin .neq (.t 150) (.t 155)),none)]) (.cond (.t 156) (.exit 6) .skip))) (.reg [o 144 (.mv (.t 16)),o 145 (.bin .add (.t 144) (.c (.int .i64 1))),o 16 (.mv (.t 145))])))))) (.seq (.reg [o 157 (.mv (.t 9)),o 158 (.mv (.t 8)),o 159 (.bin .sub (.t 157) (.t 158)),o 4 (.mv (.t 159))]) .ret)) .skip))) (.reg [o 125 (.mv (.t 9)),o 126 (.bin .add (.t 125) (.c (.int .i64 1))),o 9 (.mv (.t 126))])))))))) (.seq .skip (.block 5 (.loop (.seq (.seq (.reg [o 121 (.mv (.t 9)),o 122 (.mv (.t 0)),o 123 (.lenS (.t 122)),o 124 (.bin .lss (.t 121) (.t 123))]) (.cond (.t 124) .skip (.exit 5))) (.seq (.block 6 (.seq (.reg [o 127 (.mv (.t 0)),o 128 (.mv (.t 9)),o 129 (.idxS (.t 127) (.t 128)),o 130 (.mv (.t 14)),o 131 (.bin .eql (.t 129) (.t 130)),o 132 (.mv (.t 131)),⟨some 133,.mv (.t 0),some (132,true)⟩,⟨some 134,.mv (.t 9),some (132,true)⟩,⟨some 135,.bin .sub (.t 134) (.c (.int .i64 1)),some (132,true)⟩,⟨some 136,.idxS (.t 133) (.t 135),some (132,true)⟩,⟨some 137,.mv (.t 15),some (132,true)⟩,⟨some 138,.bin .eql (.t 136) (.t 137),some (132,true)⟩,o 139 (.pick (.t 132) (.t 138) (.c (.bool false)))]) (.cond (.t 139) (.seq (.seq (.reg [o 16 (.mv (.c (.int .i64 2)))]) (.block 7 (.loop (.seq (.seq (.reg [o 140 (.mv (.t 16)),o 141 (.mv (.t 7)),o 142 (.lenS (.t 141)),o 143 (.bin .lss (.t 140) (.t 142))]) (.cond (.t 143) .skip (.exit 7))) (.seq (.block 8 (.seq (.dreg [(o 146 (.mv (.t 0)),none),(o 147 (.mv (.t 9)),none),(o 148 (.mv (.t 16)),none),(o 149 (.bin .sub (.t 147) (.t 148)),none),(o 150 (.idxS (.t 146) (.t 149)),none),(o 151 (.mv (.t 7)),none),(o 152 (.mv (.t 8)),none),(o 153 (.mv (.t 16)),none),(o 154 (.bin .sub (.t 152) (.t 153)),none),(o 155 (.idxS (.t 151) (.t 154)),none),(o 156 (.bin .neq (.t 150) (.t 155)),none)]) (.cond (.t 156) (.exit 6) .skip))) (.reg [o 144 (.mv (.t 16)),o 145 (.bin .add (.t 144) (.c (.int .i64 1))),o 16 (.mv (.t 145))])))))) (.seq (.reg [o 157 (.mv (.t 9)),o 158 (.mv (.t 8)),o 159 (.bin .sub (.t 157) (.t 158)),o 4 (.mv (.t 159))]) .ret)) .skip))) (.reg [o 125 (.mv (.t 9)),o 126 (.bin .add (.t 125) (.c (.int .i64 1))),o 9 (.mv (.t 126))])))))))) (.seq (.reg [o 4 (.mv (.c (.int .i64 (-1))))]) .ret))))))))))),[.tmp 4]⟩
theorem hc87:Y3 Tryz.prog {pure:=[103,104],mp:=[175]} Tryz.f87=some c87:=by kernel_rfl
theorem hn87 : (Tryz.f87.name == "runtime.NumGoroutine") = false := by kernel_rfl
theorem indexRune_ok (l:List UInt8) (c:Nat) (hc:c<2147483648) (hl:l.length<=1000) (ha:∀ b∈l,b.toNat<128):PCalls (Pg G) 87 [.str l,.int .i32 c] (Q3 (ixR l c)):=fun h=>by
 have hbt:∀ i,i<l.length->bt l i<128:=fun i hi=>by
  unfold bt;rw [List.getD_eq_getElem?_getD,List.getElem?_eq_getElem hi]
  have:=ha _ (List.getElem_mem hi)
  simp only [Option.getD_some]
  omega
 unfold ixR
 by_cases h1:c<128
 ·rw [if_pos h1]
  have cB:=indexByte_ok (G:=G) l (UInt8.ofNat c)
  have e1:((UInt8.ofNat c).toNat:Int)=c:=by
   have:(UInt8.ofNat c).toNat=c:=by simp;omega
   rw [this]
  rw [e1] at cB
  have e2:IntKind.u8.wrap (c:Int)=c:=by simp only [IntKind.wrap_u8];omega
  refine Q0 Tryz.func87 hn87 hc87 (by rw [Tryz.ntmps87];simp) (by rw [Tryz.ntmps87];decide) ?_
  simp -dsimp -implicitDefEqProofs (disch:=omega) only [↓Q1 163,VCA,Nat.reduceEqDiff,↓reduceIte,c87]
  repeat' (first | ((with_reducible refine brC (fun _=>?_) fun _=>?_) <;> try (exfalso;omega)) | (with_reducible apply pcallE.of; · exact cB) | (with_reducible refine And.intro ?_ ?_; · omega) | simp -dsimp -implicitDefEqProofs (disch:=omega) only [VCA,Nat.reduceEqDiff,↓reduceIte,reduceCtorEq,exists_eq_right,e2])
  all_goals first | exact ⟨Sub.refl _,rfl⟩ | exact Sub.refl _ | (exfalso;omega) | trace_state
 ·rw [if_neg h1]
  by_cases h2:c=65533
  ·subst h2
   refine Q0 Tryz.func87 hn87 hc87 (by rw [Tryz.ntmps87];simp) (by rw [Tryz.ntmps87];decide) ?_
   simp -dsimp -implicitDefEqProofs (disch:=omega) only [↓Q1 163,VCA,Nat.reduceEqDiff,↓reduceIte,c87]
   have o1:(((65533:Nat):Int))=65533:=rfl
   repeat' (first | ((with_reducible refine brC (fun _=>?_) fun _=>?_) <;> try (exfalso;omega)) | (with_reducible refine And.intro ?_ ?_; · omega) | simp -dsimp -implicitDefEqProofs (disch:=omega) only [VCA,Nat.reduceEqDiff,↓reduceIte,reduceCtorEq,o1])
   intro r hr
   refine LoopVC.intro (fun m e h'=>∃ p:Nat,p<=l.length/\m=l.length-p/\e 175=.ptr r 0 0/\h'=upd h r (some (itO l p))) l.length
    (by
      exact ⟨0,by omega,by omega,rfl,rfl⟩) ?_
   rintro m e h' ⟨p,hp,rfl,e175,rfl⟩
   have hit:upd h r (some (itO l p)) r=some (itO l p):=Q5 _ _ _
   repeat' (first | ((with_reducible refine brC (fun _=>?_) fun _=>?_) <;> try (exfalso;omega)) | (with_reducible refine And.intro ?_ ?_; · omega) | simp -dsimp -implicitDefEqProofs (disch:=omega) only [VCA,Nat.reduceEqDiff,Nat.reduceAdd,Nat.reduceLT,↓reduceIte,exists_eq_right,e175])
   refine ⟨_,_,rfl,fun hlt=>?_,fun hge=>?_⟩
   ·have hq:=runeAt_is l p hlt
    have hb:=hbt p hlt
    have hq1:=hq.1 hb
    have hq0:(JX l p).1=(bt l p).toNat:=by rw [hq1]
    have h0:0<=bt l p:=by unfold bt;omega
    have n1:((((bt l p).toNat:Nat):Int)==65533)=false:=by rw [beq_eq_false_iff_ne];omega
    repeat' (first | ((with_reducible refine brC (fun _=>?_) fun _=>?_) <;> try (exfalso;omega)) | (with_reducible refine And.intro ?_ ?_; · omega) | simp -dsimp -implicitDefEqProofs (disch:=omega) only [VCA,Nat.reduceEqDiff,↓reduceIte,e175,hq1,n1])
    all_goals first | exact ⟨_,by omega,p+1,by omega,rfl,rfl⟩ | (exfalso;omega) | trace_state
   ·repeat' (first | ((with_reducible refine brC (fun _=>?_) fun _=>?_) <;> try (exfalso;omega)) | (with_reducible refine And.intro ?_ ?_; · omega) | simp -dsimp -implicitDefEqProofs (disch:=omega) only [↓Q1 72,↓T5 72,↓Q1 78,↓T5 78,↓Q1 84,↓T5 84,↓Q1 85,↓T5 85,↓Q1 92,↓T5 92,↓Q1 132,↓T5 132,↓Q1 163,↓T5 163,VCA,pg_gl,↓X6,Nat.reduceEqDiff,Nat.reduceBEq,Nat.reduceAdd,Nat.reduceSub,Nat.reduceMul,Nat.reduceLT,Nat.reduceLeDiff,↓reduceIte,reduceCtorEq,Y8,Z0,SOp.rd,SI.rd,SX.rd,rdL,rdO,rdP,Z7,X4,Y4,K8,X3,Z8,implies_true,forall_const,forall_eq,ne_eq,exists_eq_right_right,exists_eq_right,exists_eq_left,exists_eq_left',J1,JT,e175])
    exact (Sub.refl _).upd hr
  ·have cV:=validRune_ok (G:=G) (c:Int)
   rw [valid_eq] at cV
   cases hv:Utf8.valid (c:Int) with
   | false=>
     rw [hv] at cV
     refine Q0 Tryz.func87 hn87 hc87 (by rw [Tryz.ntmps87];simp) (by rw [Tryz.ntmps87];decide) ?_
     simp -dsimp -implicitDefEqProofs (disch:=omega) only [↓Q1 163,VCA,Nat.reduceEqDiff,↓reduceIte,c87]
     repeat' (first | ((with_reducible refine brC (fun _=>?_) fun _=>?_) <;> try (exfalso;omega)) | (with_reducible apply pcallE.of; · exact cV) | (with_reducible refine And.intro ?_ ?_; · omega) | simp -dsimp -implicitDefEqProofs (disch:=omega) only [VCA,Nat.reduceEqDiff,↓reduceIte,exists_eq_right])
     all_goals first | exact ⟨Sub.refl _,rfl⟩ | exact Sub.refl _ | (exfalso;omega) | trace_state
   | true=>
     rw [hv] at cV
     obtain ⟨n1,n4,n2⟩:=enc_is c (by omega) hv
     obtain ⟨E,hE⟩:∃ E,(Utf8.encode (c:Int)).data.toList=E:=⟨_,rfl⟩
     rw [hE] at n1 n4 n2
     obtain ⟨z,hz⟩:∃ z,E.getD (E.length-1) 0=z:=⟨_,rfl⟩
     have hz128:128<=z.toNat:=n2 z (by rw [<-hz,List.getD_eq_getElem?_getD,List.getElem?_eq_getElem (by omega)];exact List.getElem_mem _)
     have el:((E.length:Int)-1).toNat=E.length-1:=by omega
     have t0:0<=(E.length:Int)-1:=by omega
     have ec:((E.length:Int)-1)=((E.length-1:Nat):Int):=by omega
     obtain ⟨d,hd⟩:∃ d,E.length-1=d:=⟨_,rfl⟩
     rw [hd] at hz ec
     have cB:=indexByte_ok (G:=G) (l.drop (d+1)) z
     rw [idxB_none (fun hm=>by have:=ha z (List.mem_of_mem_drop hm);omega)] at cB
     refine Q0 Tryz.func87 hn87 hc87 (by rw [Tryz.ntmps87];simp) (by rw [Tryz.ntmps87];decide) ?_
     simp -dsimp -implicitDefEqProofs (disch:=omega) only [↓Q1 163,VCA,Nat.reduceEqDiff,↓reduceIte,c87]
     have wd:IntKind.i64.wrap (d:Int)=d:=by simp only [IntKind.wrap_i64];omega
     repeat' (first | ((with_reducible refine brC (fun _=>?_) fun _=>?_) <;> try (exfalso;omega)) | (with_reducible apply pcallE.of; · exact cV) | (with_reducible refine And.intro ?_ ?_; · omega) | simp -dsimp -implicitDefEqProofs (disch:=omega) only [VCA,Nat.reduceEqDiff,↓reduceIte,hE,ec,wd])
     refine LoopVC.intro (fun m e h'=>m=1/\e 0=.str l/\e 7=.str E/\e 8=Q3 d/\e 9=Q3 d/\h'=h) 1 (by refine ⟨rfl,?_,?_,?_,?_,rfl⟩ <;> first | rfl | trace_state) ?_
     rintro m e h' ⟨rfl,e0,e7,e8,e9,hh⟩
     by_cases hlt:d<l.length
     ·obtain ⟨y,hy⟩:∃ y,l.getD d 0=y:=⟨_,rfl⟩
      have y128:y.toNat<128:=ha y (by rw [<-hy,List.getD_eq_getElem?_getD,List.getElem?_eq_getElem hlt];exact List.getElem_mem _)
      have nyz:((y.toNat:Int) != (z.toNat:Int))=true:=by rw [bne_iff_ne];omega
      repeat' (first | ((with_reducible refine brC (fun _=>?_) fun _=>?_) <;> try (exfalso;omega)) | (with_reducible apply pcallE.of; · exact cB) | (with_reducible refine And.intro ?_ ?_; · omega) | simp -dsimp -implicitDefEqProofs (disch:=omega) only [VCA,Nat.reduceEqDiff,↓reduceIte,reduceCtorEq,Y8,Z0,exists_eq_right,J1,e0,e7,e8,e9,hy,hz,nyz])
      all_goals first | exact ⟨by rw [hh];exact Sub.refl _,rfl⟩ | (rw [hh];exact Sub.refl _) | (exfalso;omega) | trace_state
     ·repeat' (first | ((with_reducible refine brC (fun _=>?_) fun _=>?_) <;> try (exfalso;omega)) | (with_reducible refine And.intro ?_ ?_; · omega) | simp -dsimp -implicitDefEqProofs (disch:=omega) only [VCA,Nat.reduceEqDiff,↓reduceIte,reduceCtorEq,exists_eq_right,e0,e9])
      all_goals first | exact ⟨by rw [hh];exact Sub.refl _,rfl⟩ | (rw [hh];exact Sub.refl _) | (exfalso;omega) | trace_state
def c89:SFun:=⟨.seq (.reg [o 2 (.mv (.c (.bool false)))]) (.seq (.reg [o 3 (.mv (.t 0)),o 4 (.bin .eql (.t 3) (.c (.int .u8 9))),o 5 (.mv (.t 4)),⟨some 6,.mv (.t 0),some (5,false)⟩,⟨some 7,.bin .eql (.t 6) (.c (.int .u8 10)),some (5,false)⟩,o 8 (.pick (.t 5) (.c (.bool true)) (.t 7)),o 9 (.mv (.t 8)),⟨some 10,.mv (.t 0),some (9,false)⟩,⟨some 11,.bin .eql (.t 10) (.c (.int .u8 12)),some (9,false)⟩,o 12 (.pick (.t 9) (.c (.bool true)) (.t 11)),o 13 (.mv (.t 12)),⟨some 14,.mv (.t 0),some (13,false)⟩,⟨some 15,.bin .eql (.t 14) (.c (.int .u8 13)),some (13,false)⟩,o 16 (.pick (.t 13) (.c (.bool true)) (.t 15)),o 17 (.mv (.t 16)),⟨some 18,.mv (.t 0),some (17,false)⟩,⟨some 19,.bin .eql (.t 18) (.c (.int .u8 32)),some (17,false)⟩,o 20 (.pick (.t 17) (.c (.bool true)) (.t 19)),o 2 (.mv (.t 20))]) .ret),[.tmp 2]⟩
theorem hc89:Y3 Tryz.prog {} Tryz.f89=some c89:=by kernel_rfl
theorem refBlank_ok (b:UInt8):PCalls (Pg G) 89 [.int .u8 b.toNat] (.bool (U7 b.toNat)):=fun h=>by
 unfold U7
 refine Q0 Tryz.func89 (by kernel_rfl) hc89 (by rw [Tryz.ntmps89];simp) (by rw [Tryz.ntmps89];decide) ?_
 simp -dsimp -implicitDefEqProofs (disch:=omega) only [↓Q1 5,VCA,↓reduceIte,reduceCtorEq,c89]
 repeat' (first | ((with_reducible refine brC (fun _=>?_) fun _=>?_) <;> try (exfalso;omega)) | (with_reducible refine And.intro ?_ ?_; · omega) | simp -dsimp -implicitDefEqProofs (disch:=omega) only [↓Q1 9,↓Q1 13,↓Q1 17,VCA,Nat.reduceEqDiff,↓reduceIte,reduceCtorEq,exists_eq_right_right])
 all_goals first
  | (refine ⟨Sub.refl _,?_⟩;rw [Bool.eq_iff_iff];simp only [Bool.or_eq_true,beq_iff_eq,true_iff];omega)
  | (refine ⟨Sub.refl _,?_⟩;simp_all;done)
  | exact Sub.refl _
  | trace_state
def cL:SCode->SCode
 | .seq a _=>a
 | c=>c
def cR:SCode->SCode
 | .seq _ b=>b
 | c=>c
def cB:SCode->SCode
 | .block _ c=>c
 | .loop c=>c
 | c=>c
def cT:SCode->SCode
 | .cond _ a _=>a
 | c=>c
def cE:SCode->SCode
 | .cond _ _ b=>b
 | c=>c
def T0 (s:List UInt8):List AVal:=[.str s]
instance:LenE T0 1:=⟨fun _=>rfl⟩
def Q9:AVal->Option Nat
 | .osl r _ _ _=>some r
 | _=>none
def OwnS (h:Q2) (ty sz:Nat) (cells:List (List AVal)) (a:AVal):Prop:=
 (cells=[]/\a=.emp)\/(a=.slc cells /\ ∀ e∈cells,e.length=sz) \/ ∃ r es,a=.osl r sz 0 cells.length/\h r=some ⟨ty,sz,es⟩/\cells.length<=es.length/\es.take cells.length=cells
def Mut (a:AVal):Prop:=∀ es,a≠.slc es
theorem OwnS.live {h:Q2} {ty sz:Nat} {cells:List (List AVal)} {a:AVal} (O:OwnS h ty sz cells a) (M:Mut a):(cells=[]/\a=.emp) \/ ∃ r es,a=.osl r sz 0 cells.length/\h r=some ⟨ty,sz,es⟩/\cells.length<=es.length/\es.take cells.length=cells:=by
 rcases O with O | O | O
 ·exact .inl O
 ·exact absurd O.1 (M _)
 ·exact .inr O
theorem OwnS.keep {h h2:Q2} {ty sz:Nat} {cells:List (List AVal)} {a:AVal} (O:OwnS h ty sz cells a) (hk:∀ r o,Q9 a=some r->h r=some o->h2 r=some o):OwnS h2 ty sz cells a:=by
 rcases O with O | O | ⟨r,es,ha,hr,h1,h2⟩
 ·exact .inl O
 ·exact .inr (.inl O)
 ·exact .inr (.inr ⟨r,es,ha,hk r _ (by rw [ha];rfl) hr,h1,h2⟩)
theorem OwnS.of_acc {h h':Q2} {ty sz:Nat} {cells:List (List AVal)} {a:AVal} (A:Acc h ty sz cells a h'):OwnS h' ty sz cells a/\(∀ r,Q9 a=some r->h r=none)/\Mut a:=by
 rcases A with ⟨h1,h2⟩ | ⟨r,h0,h1,h2⟩
 ·exact ⟨.inl ⟨h1,h2⟩,fun r hr=>by (rw [h2] at hr;cases hr),fun es e=>by rw [h2] at e;cases e⟩
 ·exact ⟨.inr (.inr ⟨r,_,h2,h1,Nat.le_refl _,by rw [List.take_length]⟩),fun r' hr=>by (rw [h2] at hr;cases hr;exact h0),fun es e=>by rw [h2] at e;cases e⟩
theorem OwnS.len {h:Q2} {ty sz:Nat} {cells:List (List AVal)} {a:AVal} (O:OwnS h ty sz cells a):aLen a=Q3 cells.length/\okLen a=True:=by
 rcases O with ⟨h1,h2⟩ | ⟨h2,_⟩ | ⟨r,es,ha,_⟩
 ·subst h1;subst h2;exact ⟨rfl,rfl⟩
 ·subst h2;exact ⟨rfl,rfl⟩
 ·subst ha;exact ⟨rfl,rfl⟩
theorem OwnS.isV {h:Q2} {ty sz:Nat} {cells:List (List AVal)} {a:AVal} (O:OwnS h ty sz cells a):isV a=true/\cellsOf a=[a]:=by
 rcases O with ⟨h1,h2⟩ | ⟨h2,_⟩ | ⟨r,es,ha,_⟩
 ·subst h2;exact ⟨rfl,rfl⟩
 ·subst h2;exact ⟨rfl,rfl⟩
 ·subst ha;exact ⟨rfl,rfl⟩
theorem OwnS.root {h:Q2} {ty sz:Nat} {cells:List (List AVal)} {a:AVal} (O:OwnS h ty sz cells a) {r:Nat} (hr:Q9 a=some r):∃ o,h r=some o:=by
 rcases O with ⟨h1,h2⟩ | ⟨h2,_⟩ | ⟨r',es,ha,h1,_⟩
 ·subst h2;cases hr
 ·subst h2;cases hr
 ·subst ha;cases hr;exact ⟨_,h1⟩
theorem OwnS.vw {α:Type} [Inhabited α] {enc:α->List AVal} {h:Q2} {ty sz:Nat} [LenE enc sz] {l:List α} {a:AVal} (O:OwnS h ty sz (l.map enc) a):Vw h a (sl enc l):=by
 rcases O with ⟨h1,h2⟩ | ⟨h2,_⟩ | ⟨r,es,ha,hr,h1,h2⟩
 ·have:l=[]:=by simpa using h1
  subst this;subst h2;exact .emp
 ·subst h2;exact .refl _
 ·subst ha
  refine .osl r sz 0 _ ⟨ty,sz,es⟩ (l.map enc) hr (by simpa using h1) rfl (fun f hf=>by obtain ⟨x,_,rfl⟩:=List.mem_map.1 hf;exact LenE.len x) fun k j e f x y he hf hx hy=>?_
  have hk:k<(l.map enc).length:=(List.getElem?_eq_some_iff.1 hf).1
  simp only [Nat.zero_add] at he
  have he':(es.take (l.map enc).length)[k]? = some e:=by rw [List.getElem?_take,if_pos hk];exact he
  rw [h2] at he'
  rw [he'] at hf
  cases hf
  rw [hx] at hy;cases hy;exact .refl _
def rowA (x:HNode) (a k:AVal):List AVal:=[Q3 x.kind,.str x.name,a,.str x.text,Q3 x.parent,k]
def QZ (d:HDoc) (sl:Nat->AVal):List (List AVal):=(List.range d.nodes.length).map fun i=>rowA (nth d.nodes i) (sl (2*i)) (sl (2*i+1))
theorem QK (d:HDoc) (sl:Nat->AVal):(QZ d sl).length=d.nodes.length:=by simp [QZ]
theorem JY {d:HDoc} {sl:Nat->AVal} {i:Nat} (hi:i<d.nodes.length):(QZ d sl).getD i []=rowA (nth d.nodes i) (sl (2*i)) (sl (2*i+1)):=by
 rw [List.getD_eq_getElem?_getD,QZ,List.getElem?_map,List.getElem?_range hi];rfl
structure Dw (X:List Nat) (h0 h:Q2) (rN:Nat) (d:HDoc) (sl:Nat->AVal):Prop where
 sub:Sim.Sub h0 h
 nodes:h rN=some ⟨.t 31,6,QZ d sl⟩
 new:h0 rN=none/\rN∉X
 own:∀ i,i<d.nodes.length->OwnS h 72 2 ((nth d.nodes i).attrs.map Y0) (sl (2*i))/\OwnS h 3 1 ((nth d.nodes i).kids.map Z6) (sl (2*i+1))
 fresh:∀ k,k<2*d.nodes.length -> ∀ r,Q9 (sl k)=some r->h0 r=none/\r≠rN/\r∉X
 sep:∀ j k,j<2*d.nodes.length->k<2*d.nodes.length->j≠k -> ∀ r,Q9 (sl j)=some r->Q9 (sl k)≠some r
 keep:∀ r∈X,∃ o,h r=some o
theorem Dw.slot {X:List Nat} {h0 h:Q2} {rN:Nat} {d:HDoc} {sl:Nat->AVal} (E:Dw X h0 h rN d sl) {k:Nat} (hk:k<2*d.nodes.length) {r:Nat} (hr:Q9 (sl k)=some r):∃ o,h r=some o:=by
 have hi:k / 2<d.nodes.length:=by omega
 obtain ⟨h1,h2⟩:=E.own _ hi
 rcases (by omega:k=2*(k / 2)\/k=2*(k / 2)+1) with h | h
 ·rw [h] at hr;exact h1.root hr
 ·rw [h] at hr;exact h2.root hr
theorem Dw.put {X:List Nat} {h0 h h2:Q2} {rN:Nat} {d:HDoc} {sl sl':Nat->AVal} (E:Dw X h0 h rN d sl) {i:Nat} (hi:i<d.nodes.length) {x':HNode}
 (hs:∀ j,j≠2*i->j≠2*i+1->sl' j=sl j)
 (hN:h2 rN=some ⟨.t 31,6,(QZ d sl).set i (rowA x' (sl' (2*i)) (sl' (2*i+1)))⟩)
 (hk:∀ r o,h r=some o->r≠rN->Q9 (sl (2*i))≠some r->Q9 (sl (2*i+1))≠some r->h2 r=some o)
 (hA:OwnS h2 72 2 (x'.attrs.map Y0) (sl' (2*i))) (hK:OwnS h2 3 1 (x'.kids.map Z6) (sl' (2*i+1)))
 (hf:∀ r,Q9 (sl' (2*i))=some r\/Q9 (sl' (2*i+1))=some r->Q9 (sl (2*i))=some r\/Q9 (sl (2*i+1))=some r\/h r=none)
 (hd:∀ r,Q9 (sl' (2*i))=some r->Q9 (sl' (2*i+1))≠some r):Dw X h0 h2 rN ⟨d.nodes.set i x',d.quirks⟩ sl':=by
 have hl:(d.nodes.set i x').length=d.nodes.length:=by simp
 have fr:∀ r,Q9 (sl' (2*i))=some r\/Q9 (sl' (2*i+1))=some r->h0 r=none/\r≠rN/\r∉X:=fun r hr=>by
  rcases hf r hr with h | h | h
  ·exact E.fresh _ (by omega) r h
  ·exact E.fresh _ (by omega) r h
  ·refine ⟨E.sub.none h,fun e=>?_,fun hx=>?_⟩
   ·rw [e,E.nodes] at h;cases h
   ·obtain ⟨o,ho⟩:=E.keep r hx;rw [h] at ho;cases ho
 have oth:∀ j,j<2*d.nodes.length->j≠2*i->j≠2*i+1 -> ∀ r,Q9 (sl j)=some r->Q9 (sl' (2*i))≠some r/\Q9 (sl' (2*i+1))≠some r:=fun j hj h1 h2 r hr=>by
  have key:¬ (Q9 (sl (2*i))=some r\/Q9 (sl (2*i+1))=some r\/h r=none):=by
   rintro (h | h | h)
   ·exact E.sep j (2*i) hj (by omega) h1 r hr h
   ·exact E.sep j (2*i+1) hj (by omega) h2 r hr h
   ·obtain ⟨o,ho⟩:=E.slot hj hr;rw [h] at ho;cases ho
  exact ⟨fun h=>key (hf r (.inl h)),fun h=>key (hf r (.inr h))⟩
 refine ⟨fun t o ht=>?_,?_,E.new,fun j hj=>?_,fun k hk' r hr=>?_,fun j k hj hk' hne r hr=>?_,fun r hr=>?_⟩
 ·have hne:t≠rN:=fun e=>by rw [e,E.new.1] at ht;cases ht
  refine hk t o (E.sub t o ht) hne (fun h=>?_) (fun h=>?_)
  ·have:=(E.fresh _ (by omega) t h).1;rw [this] at ht;cases ht
  ·have:=(E.fresh _ (by omega) t h).1;rw [this] at ht;cases ht
 ·rw [hN]
  congr 2
  apply List.ext_getElem?
  intro j
  rw [List.getElem?_set]
  show _=(QZ ⟨d.nodes.set i x',d.quirks⟩ sl')[j]?
  unfold QZ
  simp only [hl]
  by_cases hij:i=j
  ·subst hij
   rw [if_pos rfl,if_pos (by simpa using hi),List.getElem?_map,List.getElem?_range hi,Option.map_some,K9 _ _ _ _ hi,if_pos rfl]
  ·rw [if_neg hij]
   by_cases hj:j<d.nodes.length
   ·rw [List.getElem?_map,List.getElem?_map,List.getElem?_range hj,Option.map_some,Option.map_some,K9 _ _ _ _ hi,if_neg (fun e=>hij e.symm),hs (2*j) (by omega) (by omega),hs (2*j+1) (by omega) (by omega)]
   ·rw [List.getElem?_eq_none (by simp;omega),List.getElem?_eq_none (by simp;omega)]
 ·simp only [hl] at hj
  show OwnS h2 _ _ ((nth (d.nodes.set i x') j).attrs.map Y0) _/\OwnS h2 _ _ ((nth (d.nodes.set i x') j).kids.map Z6) _
  rw [K9 _ _ _ _ hi]
  by_cases hij:j=i
  ·subst hij;rw [if_pos rfl];exact ⟨hA,hK⟩
  ·rw [if_neg hij,hs (2*j) (by omega) (by omega),hs (2*j+1) (by omega) (by omega)]
   obtain ⟨g1,g2⟩:=E.own j hj
   exact ⟨g1.keep fun r o hr ho=>hk r o ho (E.fresh _ (by omega) r hr).2.1 (fun h=>E.sep (2*j) (2*i) (by omega) (by omega) (by omega) r hr h) (fun h=>E.sep (2*j) (2*i+1) (by omega) (by omega) (by omega) r hr h),
    g2.keep fun r o hr ho=>hk r o ho (E.fresh _ (by omega) r hr).2.1 (fun h=>E.sep (2*j+1) (2*i) (by omega) (by omega) (by omega) r hr h) (fun h=>E.sep (2*j+1) (2*i+1) (by omega) (by omega) (by omega) r hr h)⟩
 ·simp only [hl] at hk'
  by_cases e1:k=2*i
  ·subst e1;exact fr r (.inl hr)
  ·by_cases e2:k=2*i+1
   ·subst e2;exact fr r (.inr hr)
   ·rw [hs k e1 e2] at hr;exact E.fresh k hk' r hr
 ·simp only [hl] at hj hk'
  by_cases j1:j=2*i <;> by_cases j2:j=2*i+1 <;> by_cases k1:k=2*i <;> by_cases k2:k=2*i+1
  all_goals first
   | (exfalso;omega)
   | (subst j1;subst k2;exact hd r hr)
   | (subst j2;subst k1;exact fun h=>hd r h hr)
   | (subst j1;rw [hs k k1 k2];exact fun h=>(oth k hk' k1 k2 r h).1 hr)
   | (subst j2;rw [hs k k1 k2];exact fun h=>(oth k hk' k1 k2 r h).2 hr)
   | (subst k1;rw [hs j j1 j2] at hr;exact (oth j hj j1 j2 r hr).1)
   | (subst k2;rw [hs j j1 j2] at hr;exact (oth j hj j1 j2 r hr).2)
   | (rw [hs j j1 j2] at hr;rw [hs k k1 k2];exact E.sep j k hj hk' hne r hr)
 ·obtain ⟨o,ho⟩:=E.keep r hr
  refine ⟨o,hk r o ho (fun e=>E.new.2 (e ▸ hr)) (fun h=>?_) (fun h=>?_)⟩
  ·exact (E.fresh _ (by omega) r h).2.2 hr
  ·exact (E.fresh _ (by omega) r h).2.2 hr
theorem Dw.vw {X:List Nat} {h0 h:Q2} {rN:Nat} {d:HDoc} {sl':Nat->AVal} (E:Dw X h0 h rN d sl'):Vw h (.osl rN 6 0 d.nodes.length) (sl Q7 d.nodes):=by
 refine Vw.osl0 E.nodes (by simp) (by rw [QK];exact Nat.le_refl _) (fun f hf=>by obtain ⟨x,_,rfl⟩:=List.mem_map.1 hf;rfl) ?_
 show F2 (F2 (Vw h)) ((QZ d sl').take d.nodes.length) (d.nodes.map Q7)
 rw [List.take_of_length_le (by rw [QK];exact Nat.le_refl _)]
 have key:∀ (i:Nat),i<d.nodes.length->F2 (Vw h) (rowA (nth d.nodes i) (sl' (2*i)) (sl' (2*i+1))) (Q7 (nth d.nodes i)):=fun i hi=>by
  obtain ⟨g1,g2⟩:=E.own i hi
  exact .cons (.refl _) (.cons (.refl _) (.cons g1.vw (.cons (.refl _) (.cons (.refl _) (.cons g2.vw .nil)))))
 have e:d.nodes.map Q7=(List.range d.nodes.length).map fun i=>Q7 (nth d.nodes i):=by
  apply List.ext_getElem?
  intro j
  by_cases hj:j<d.nodes.length
  ·rw [List.getElem?_map,List.getElem?_map,List.getElem?_range hj,J5 hj];rfl
  ·rw [List.getElem?_eq_none (by simp;omega),List.getElem?_eq_none (by simp;omega)]
 rw [e]
 unfold QZ
 have gen:∀ l:List Nat,(∀ i∈l,i<d.nodes.length)->F2 (F2 (Vw h)) (l.map fun i=>rowA (nth d.nodes i) (sl' (2*i)) (sl' (2*i+1))) (l.map fun i=>Q7 (nth d.nodes i)):=fun l=>by
  induction l with
  | nil=>intro _;exact .nil
  | cons i l ih=>intro hl;exact .cons (key i (hl i List.mem_cons_self)) (ih fun j hj=>hl j (List.mem_cons_of_mem _ hj))
 exact gen _ fun i hi=>List.mem_range.1 hi
theorem Dw.other {X:List Nat} {h0 h:Q2} {rN:Nat} {d:HDoc} {sl:Nat->AVal} (E:Dw X h0 h rN d sl) {r:Nat} (hr:r∈X) (h0r:h0 r=none) (o:AObj):Dw X h0 (upd h r (some o)) rN d sl:=by
 have hne:rN≠r:=fun e=>E.new.2 (e ▸ hr)
 refine ⟨E.sub.upd h0r,by rw [Q4 _ _ hne];exact E.nodes,E.new,fun i hi=>?_,E.fresh,E.sep,fun t ht=>?_⟩
 ·obtain ⟨g1,g2⟩:=E.own i hi
  exact ⟨g1.keep fun t ob ht ho=>by rw [Q4 _ _ (fun e=>(E.fresh _ (by omega) t ht).2.2 (by rw [e];exact hr))];exact ho,g2.keep fun t ob ht ho=>by rw [Q4 _ _ (fun e=>(E.fresh _ (by omega) t ht).2.2 (by rw [e];exact hr))];exact ho⟩
 ·by_cases e:t=r
  ·subst e;exact ⟨o,Q5 _ _ _⟩
  ·rw [Q4 _ _ e];exact E.keep t ht
theorem Dw.less {X X':List Nat} {h0 h:Q2} {rN:Nat} {d:HDoc} {sl:Nat->AVal} (E:Dw X h0 h rN d sl) (hx:∀ r∈X',r∈X):Dw X' h0 h rN d sl:=
 ⟨E.sub,E.nodes,⟨E.new.1,fun h=>E.new.2 (hx _ h)⟩,E.own,fun k hk r hr=>⟨(E.fresh k hk r hr).1,(E.fresh k hk r hr).2.1,fun h=>(E.fresh k hk r hr).2.2 (hx _ h)⟩,E.sep,fun r hr=>E.keep r (hx r hr)⟩
theorem Dw.more {X:List Nat} {h0 h:Q2} {rN:Nat} {d:HDoc} {sl:Nat->AVal} (E:Dw X h0 h rN d sl) {r:Nat} (hr:h r=none) (o:AObj):Dw (r :: X) h0 (upd h r (some o)) rN d sl:=by
 have hne:rN≠r:=fun e=>by have:=E.nodes;rw [e,hr] at this;cases this
 have sn:∀ k,k<2*d.nodes.length -> ∀ t,Q9 (sl k)=some t->t≠r:=fun k hk t ht e=>by
  obtain ⟨o',ho⟩:=E.slot hk ht;rw [e,hr] at ho;cases ho
 refine ⟨E.sub.upd (E.sub.none hr),by rw [Q4 _ _ hne];exact E.nodes,⟨E.new.1,fun h=>?_⟩,fun i hi=>?_,fun k hk t ht=>⟨(E.fresh k hk t ht).1,(E.fresh k hk t ht).2.1,fun h=>?_⟩,E.sep,fun t ht=>?_⟩
 ·rcases List.mem_cons.1 h with h | h
  ·exact hne h
  ·exact E.new.2 h
 ·obtain ⟨g1,g2⟩:=E.own i hi
  exact ⟨g1.keep fun t ob ht ho=>by rw [Q4 _ _ (sn _ (by omega) t ht)];exact ho,g2.keep fun t ob ht ho=>by rw [Q4 _ _ (sn _ (by omega) t ht)];exact ho⟩
 ·rcases List.mem_cons.1 h with h | h
  ·exact sn k hk t ht h
  ·exact (E.fresh k hk t ht).2.2 h
 ·by_cases e:t=r
  ·subst e;exact ⟨o,Q5 _ _ _⟩
  ·rw [Q4 _ _ e];exact E.keep t ((List.mem_cons.1 ht).resolve_left e)
theorem getD_set_same {es:List (List AVal)} {k:Nat} {x:List AVal} (hk:k<es.length):(es.set k x).getD k []=x:=by
 rw [List.getD_eq_getElem?_getD,List.getElem?_set];simp [hk]
theorem set_set_same {es:List (List AVal)} {k:Nat} {x y:List AVal}:(es.set k x).set k y=es.set k y:=by simp
theorem _root_.Go.Sim.Acc.re {h1 h2 h1' h2':Q2} {ty:TypeId} {sz:Nat} {cells:List (List AVal)} {a:AVal} (A:Acc h1 ty sz cells a h2) (hd:∀ r o,h1 r=none->h2 r=some o->h1' r=none/\h2' r=some o):Acc h1' ty sz cells a h2':=by
 rcases A with h | ⟨r,h0,h1,h2⟩
 ·exact .inl h
 ·exact .inr ⟨r,(hd r _ h0 h1).1,(hd r _ h0 h1).2,h2⟩
theorem _root_.Go.Sim.Acc.keepA {h h1:Q2} {ty:TypeId} {sz:Nat} {cells:List (List AVal)} {a:AVal} (A:Acc h ty sz cells a h1) {r2:Nat} (hn:Q9 a≠some r2) (o:Option AObj):Acc h ty sz cells a (upd h1 r2 o):=by
 rcases A with q | ⟨r,q0,q1,q2⟩
 ·exact .inl q
 ·have:r≠r2:=fun e=>hn (by rw [q2,e];rfl)
  exact .inr ⟨r,q0,by rw [Q4 _ _ this];exact q1,q2⟩
theorem _root_.Go.Sim.Acc.appW {h h':Q2} {ty:TypeId} {sz b:Nat} {cells es2:List (List AVal)} {a:AVal} {K:AVal->Q2->Prop} (A:Acc h ty sz cells a h') (S:Sub h h')
 (h1:(cells.length+es2.length)*b<=140737488355328) (h2:cells.length+es2.length<=140737488355328)
 (hk:∀ a' h'',Acc h ty sz (cells++es2) a' h''->Sub h h''->(∀ r o,h' r=some o->Q9 a≠some r->h'' r=some o/\Q9 a'≠some r)->K a' h''):Hd (appE ty sz b a es2 h') K .mk:=by
 rcases A with ⟨rfl,rfl⟩ | ⟨r,h0,hr,rfl⟩
 ·refine ⟨by simpa using h1,by simpa using h2,fun r hr=>hk _ _ ?_ (S.upd (S.none hr)) fun x o hx _=>?_⟩
  ·exact .inr ⟨r,S.none hr,by simp,rfl⟩
  ·have:x≠r:=fun e=>by rw [e,hr] at hx;cases hx
   exact ⟨by rw [Q4 _ _ this];exact hx,fun e=>this (by cases e;rfl)⟩
 ·refine ⟨rfl,_,hr,rfl,by simp,h1,h2,fun r' hr'=>hk _ _ ?_ ?_ fun x o hx hn=>?_⟩
  ·have hn:h r'=none:=(S.del h0).none hr'
   refine .inr ⟨r',hn,by simp,by simp⟩
  ·exact (S.del h0).upd ((S.del h0).none hr')
  ·have hxr:x≠r:=fun e=>hn (by rw [e];rfl)
   have hd:del h' r x=some o:=by unfold del;rw [if_neg hxr];exact hx
   have:x≠r':=fun e=>by rw [e,hr'] at hd;cases hd
   exact ⟨by rw [Q4 _ _ this];exact hd,fun e=>this (by cases e;rfl)⟩
def fsp (s:List UInt8):Nat->List (Nat×Nat)×Option Nat
 | 0=>([],none)
 | p+1=>if U7 (bt s p)=true then (match (fsp s p).2 with | some a=>((fsp s p).1++[(a,p)],none) | none=>fsp s p)
   else match (fsp s p).2 with | some _=>fsp s p | none=>((fsp s p).1,some p)
def spansM (s:List UInt8):List (Nat×Nat):=match (fsp s s.length).2 with | some a=>(fsp s s.length).1++[(a,s.length)] | none=>(fsp s s.length).1
def KK (s:List UInt8):List (List UInt8):=(spansM s).map fun x=>seg s x.1 x.2
theorem fsp_bl {s:List UInt8} {p:Nat} (h:U7 (bt s p)=true):fsp s (p+1)=match (fsp s p).2 with | some a=>((fsp s p).1++[(a,p)],none) | none=>fsp s p:=by
 rw [fsp,if_pos h]
theorem fsp_no {s:List UInt8} {p:Nat} (h:U7 (bt s p)=false):fsp s (p+1)=match (fsp s p).2 with | some _=>fsp s p | none=>((fsp s p).1,some p):=by
 rw [fsp,if_neg (by rw [h];decide)]
theorem fsp_on {s:List UInt8} {a q:Nat} (ha:(fsp s q).2=some a):∀ k,(∀ i,q<=i->i<q+k->U7 (bt s i)=false)->fsp s (q+k)=fsp s q
 | 0,_=>rfl
 | k+1,h=>by
   have ih:=fsp_on ha k fun i h1 h2=>h i h1 (by omega)
   rw [<-Nat.add_assoc,fsp_no (h _ (by omega) (by omega)),ih,ha]
theorem fsp_sign {s:List UInt8} {p w:Nat} (hw:1<=w) (hb:U7 (bt s p)=false) (hc:∀ i,p<i->i<p+w->U7 (bt s i)=false):fsp s (p+w)=fsp s (p+1):=by
 have h1:∃ a,(fsp s (p+1)).2=some a:=by
  rw [fsp_no hb]
  cases h:(fsp s p).2 with
  | some a=>exact ⟨a,by simp only [h]⟩
  | none=>exact ⟨p,rfl⟩
 obtain ⟨a,ha⟩:=h1
 have:=fsp_on ha (w-1) fun i h1 h2=>hc i (by omega) (by omega)
 rwa [show p+1+(w-1)=p+w by omega] at this
structure FspOK (s:List UInt8) (p:Nat):Prop where
 len:(fsp s p).1.length<=p
 each:∀ x∈(fsp s p).1,x.1<x.2/\x.2<=p
 cur:∀ a,(fsp s p).2=some a->a<p
theorem fsp_is (s:List UInt8):∀ p,FspOK s p
 | 0=>⟨Nat.le_refl _,(fun x hx=>by cases hx),(fun a ha=>by cases ha)⟩
 | p+1=>by
   obtain ⟨h1,h2,h3⟩:=fsp_is s p
   cases hb:U7 (bt s p) with
   | true=>
     have e:=fsp_bl hb
     cases hq:(fsp s p).2 with
     | some a=>
       rw [hq] at e
       have ha:=h3 a hq
       refine ⟨by rw [e];simp;omega,fun x hx=>?_,fun b hb=>by rw [e] at hb;cases hb⟩
       rw [e] at hx
       rcases List.mem_append.1 hx with hx | hx
       ·have:=h2 x hx;omega
       ·simp at hx;subst hx;simp;omega
     | none=>
       rw [hq] at e
       simp only at e
       exact ⟨by rw [e];omega,fun x hx=>by rw [e] at hx;have:=h2 x hx;omega,fun b hb=>by rw [e,hq] at hb;cases hb⟩
   | false=>
     have e:=fsp_no hb
     cases hq:(fsp s p).2 with
     | some a=>
       rw [hq] at e
       simp only at e
       exact ⟨by rw [e];omega,fun x hx=>by rw [e] at hx;have:=h2 x hx;omega,fun b hb=>by rw [e] at hb;have:=h3 b hb;omega⟩
     | none=>
       rw [hq] at e
       exact ⟨by rw [e];simp;omega,fun x hx=>by rw [e] at hx;have:=h2 x hx;omega,fun b hb=>by rw [e] at hb;cases hb;omega⟩
theorem spansM_is (s:List UInt8):(spansM s).length<=s.length+1 /\ ∀ x∈spansM s,x.1<x.2/\x.2<=s.length:=by
 obtain ⟨h1,h2,h3⟩:=fsp_is s s.length
 unfold spansM
 cases hq:(fsp s s.length).2 with
 | some a=>
   have:=h3 a hq
   refine ⟨by simp;omega,fun x hx=>?_⟩
   rcases List.mem_append.1 hx with hx | hx
   ·exact h2 x hx
   ·simp at hx;subst hx;simp;omega
 | none=>exact ⟨by simp only;omega,h2⟩
def WK (L:List (List UInt8)) (w:List UInt8):List (List UInt8):=if w=[]\/w∈L then L else L++[w]
def XU (s:List UInt8):List (List UInt8):=(KK s).foldl WK []
def refW (s:List UInt8):Nat->List (List UInt8)×List UInt8
 | 0=>([],[])
 | p+1=>if U7 (bt s p)=true then (WK (refW s p).1 (refW s p).2,[]) else ((refW s p).1,(refW s p).2++[s.getD p 0])
theorem seg_snoc {s:List UInt8} {a p:Nat} (ha:a<=p) (hp:p<s.length):seg s a (p+1)=seg s a p++[s.getD p 0]:=by
 unfold seg
 have e:s[p]? = some (s.getD p 0):=by rw [List.getD_eq_getElem?_getD,List.getElem?_eq_getElem hp];rfl
 rw [List.take_add_one,e,List.drop_append_of_le_length (by rw [List.length_take];omega)];rfl
theorem addW_nil (L:List (List UInt8)):WK L []=L:=if_pos (.inl rfl)
theorem refW_is (s:List UInt8):∀ p,p<=s.length->refW s p=(((fsp s p).1.map fun x=>seg s x.1 x.2).foldl WK [],match (fsp s p).2 with | some a=>seg s a p | none=>[])
 | 0,_=>rfl
 | p+1,hp=>by
   have ih:=refW_is s p (by omega)
   have K:=fsp_is s p
   rw [refW,ih]
   cases hb:U7 (bt s p) with
   | true=>
     rw [if_pos rfl,fsp_bl hb]
     cases hq:(fsp s p).2 with
     | some a=>simp only [List.map_append,List.foldl_append,List.map_cons,List.map_nil,List.foldl_cons,List.foldl_nil]
     | none=>simp only [hq,addW_nil]
   | false=>
     rw [if_neg (by decide),fsp_no hb]
     cases hq:(fsp s p).2 with
     | some a=>simp only [hq];rw [seg_snoc (by have:=K.cur a hq;omega) (by omega)]
     | none=>simp only [List.nil_append];rw [seg_snoc (Nat.le_refl _) (by omega),seg_self];rfl
theorem refW_end (s:List UInt8):WK (refW s s.length).1 (refW s s.length).2=XU s:=by
 rw [refW_is s s.length (Nat.le_refl _)]
 unfold XU KK spansM
 cases hq:(fsp s s.length).2 with
 | some a=>simp only [List.map_append,List.foldl_append,List.map_cons,List.map_nil,List.foldl_cons,List.foldl_nil]
 | none=>simp only [addW_nil]
theorem fieldsM_ne (s:List UInt8):∀ w∈KK s,w≠[]:=fun w hw e=>by
 obtain ⟨x,hx,rfl⟩:=List.mem_map.1 hw
 have h:=(spansM_is s).2 x hx
 have:=seg_len (s:=s) (a:=x.1) (b:=x.2) h.2
 rw [e] at this;simp at this;omega
theorem fieldsM_len (s:List UInt8):(KK s).length<=s.length+1:=by unfold KK;rw [List.length_map];exact (spansM_is s).1
def blW:List UInt8:=[32,9,10,12,13]
theorem runeAt_small (s:List UInt8) (p:Nat):(JX s p).1<2147483648:=by
 show (Utf8.decode ⟨s.toArray⟩ p).1<2147483648
 unfold Utf8.decode
 simp only [Utf8.runeError]
 (repeat' split) <;> (simp only) <;> omega
theorem blW_is (b:UInt8):blW.contains b=U7 b.toNat:=of_decide_eq_true (u8_all (p:=fun b=>decide (blW.contains b=U7 b.toNat)) (by decide +kernel) b)
theorem blankI_hi {b:Int} (h:128<=b):U7 b=false:=by
 unfold U7
 simp only [Bool.or_eq_false_iff,beq_eq_false_iff_ne]
 omega
def c66:SFun:=⟨.seq (.reg [o 4 (.mv (.c (.bool false)))]) (.seq (.reg [o 5 (.mv (.t 0)),o 6 (.mv (.t 1)),o 7 (.pcall 87 [.t 5,.t 6]),o 8 (.bin .geq (.t 7) (.c (.int .i64 0))),o 4 (.mv (.t 8))]) .ret),[.tmp 4]⟩
theorem hc66:Y3 Tryz.prog {pure:=[87]} Tryz.f66=some c66:=by kernel_rfl
def c65:SFun:=⟨.seq (.reg [o 2 (.mv (.c (.bool false)))]) (.seq (.reg [o 3 (.mv (.t 0)),o 4 (.pcall 66 [.c (.str [32,9,10,12,13]),.t 3]),o 2 (.mv (.t 4))]) .ret),[.tmp 2]⟩
theorem hc65:Y3 Tryz.prog {pure:=[66]} Tryz.f65=some c65:=by kernel_rfl
theorem words1_ok (c:Nat) (hc:c<2147483648):PCalls (Pg G) 65 [.int .i32 c] (.bool (U7 c)):=fun h=>by
 have cI:=indexRune_ok (G:=G) blW c hc (by decide) (by decide)
 have hd:decide (0<=ixR blW c)=U7 c:=by
  unfold ixR
  by_cases h1:c<128
  ·rw [if_pos h1]
   have e1:(UInt8.ofNat c).toNat=c:=by simp;omega
   have e2:=blW_is (UInt8.ofNat c)
   rw [e1] at e2
   rw [<-e2]
   cases hb:blW.contains (UInt8.ofNat c) with
   | true=>exact decide_eq_true (idxB_some (by simpa using hb))
   | false=>exact decide_eq_false (by rw [idxB_none (by simpa using hb)];decide)
  ·rw [if_neg h1,blankI_hi (by omega)];rfl
 have hK:PCalls (Pg G) 66 [.str blW,.int .i32 c] (.bool (U7 c)):=fun h=>by
  refine Q0 Tryz.func66 (by kernel_rfl) hc66 (by rw [Tryz.ntmps66];simp) (by rw [Tryz.ntmps66];decide) ?_
  simp -dsimp -implicitDefEqProofs (disch:=omega) only [VCA,Nat.reduceEqDiff,↓reduceIte,reduceCtorEq,c66]
  repeat' (first | ((with_reducible refine brC (fun _=>?_) fun _=>?_) <;> try (exfalso;omega)) | (with_reducible apply pcallE.of; · exact cI) | (with_reducible refine And.intro ?_ ?_; · omega) | simp -dsimp -implicitDefEqProofs (disch:=omega) only [VCA,↓reduceIte,exists_eq_right,hd])
  exact Sub.refl _
 unfold blW at hK
 refine Q0 Tryz.func65 (by kernel_rfl) hc65 (by rw [Tryz.ntmps65];simp) (by rw [Tryz.ntmps65];decide) ?_
 simp -dsimp -implicitDefEqProofs (disch:=omega) only [VCA,↓reduceIte,reduceCtorEq,c65]
 repeat' (first | ((with_reducible refine brC (fun _=>?_) fun _=>?_) <;> try (exfalso;omega)) | (with_reducible apply pcallE.of; · exact hK) | (with_reducible refine And.intro ?_ ?_; · omega) | simp -dsimp -implicitDefEqProofs (disch:=omega) only [VCA,↓reduceIte,exists_eq_right])
 exact Sub.refl _
theorem sign_bl {s:List UInt8} {p:Nat} (hp:p<s.length):U7 ((JX s p).1:Int)=U7 (bt s p):=by
 have h:=runeAt_is s p hp
 have h0:0<=bt s p:=by unfold bt;omega
 by_cases h1:bt s p<128
 ·rw [h.1 h1]
  show U7 (((bt s p).toNat:Nat):Int)=_
  rw [show (((bt s p).toNat:Nat):Int)=bt s p by omega]
 ·rw [blankI_hi (b:=bt s p) (by omega)]
  rcases h.2.1 (by omega) with h2 | h2
  ·rw [h2];decide
  ·exact blankI_hi (by omega)
def eSpan (x:Nat×Nat):List AVal:=[Q3 x.1,Q3 x.2]
def StI (o:Option Nat) (a:AVal):Prop:=match o with | some p=>a=Q3 p | none=>∃ z:Int,z<0 /\ -1000000000<=z/\a=Q3 z
structure FJ (h h':Q2) (s:List UInt8) (p:Nat) (ri:Nat) (a5 a6:AVal) (q:List (Nat×Nat)×Option Nat):Prop where
 sub:Sim.Sub h h'
 it:h' ri=some (itO s p)
 itn:h ri=none
 sp:∃ r es,a5=.osl r 2 0 q.1.length/\h' r=some ⟨.t 128,2,es⟩/\q.1.length<=es.length/\es.take q.1.length=q.1.map eSpan/\h r=none/\r≠ri
 st:StI q.2 a6
theorem FJ.app {h HH:Q2} {s:List UInt8} {p ri r r' n:Nat} {a6:AVal} {rows:List (List AVal)} {q:List (Nat×Nat)×Option Nat} (SH:Sim.Sub h HH) (hit:HH ri=some (itO s p)) (itn:h ri=none) (hri:r≠ri) (hrn:h r=none) (hr':del HH r r'=none)
 (hq:rows=q.1.map eSpan) (hn:n=q.1.length) (st:StI q.2 a6):FJ h (upd (del HH r) r' (some ⟨.t 128,2,rows⟩)) s p ri (.osl r' 2 0 n) a6 q:=by
 have hd:del HH r ri=some (itO s p):=by unfold del;rw [if_neg (fun e=>hri e.symm)];exact hit
 have h1:r'≠ri:=fun e=>by rw [e,hd] at hr';cases hr'
 have S2:=SH.del hrn
 refine ⟨S2.upd (S2.none hr'),by rw [Q4 _ _ (fun e=>h1 e.symm)];exact hd,itn,⟨r',rows,by rw [hn],Q5 _ _ _,?_,?_,S2.none hr',h1⟩,st⟩
 ·rw [hq,List.length_map];exact Nat.le_refl _
 ·rw [hq,<-List.length_map (f:=eSpan),List.take_length]
def c64_s5:SCode:=(.seq (.reg [o 44 (.mv (.t 5)),o 45 (.len (.t 44)),o 46 (.mks 9 1 16 [.str []] (.t 45) (.t 45)),o 9 (.mv (.t 46))]) (.seq (.seq (.reg [o 47 (.mv (.t 5)),o 48 (.len (.t 47)),o 49 (.mv (.c (.int .i64 0)))]) (.block 2 (.loop (.seq (.reg [o 50 (.bin .lss (.t 49) (.t 48))]) (.seq (.cond (.t 50) .skip (.exit 2)) (.seq (.block 3 (.seq (.reg [o 51 (.mv (.t 49)),o 52 (.idxA 2 (.t 47) (.t 49)),o 53 (.ld 2 true (.t 52)),o 11 (.new 128 2 [.int .i64 0,.int .i64 0]),o 10 (.mv (.t 51)),⟨none,.st 2 (.t 11) (.t 53),none⟩]) (.reg [o 54 (.mv (.t 9)),o 55 (.mv (.t 10)),o 56 (.mv (.t 0)),o 57 (.fldA 0 (.t 11)),o 58 (.ld 1 false (.t 57)),o 59 (.fldA 1 (.t 11)),o 60 (.ld 1 false (.t 59)),o 61 (.slS (.t 56) (some (.t 58)) (some (.t 60))),o 62 (.idxA 1 (.t 54) (.t 55)),⟨none,.st 1 (.t 62) (.t 61),none⟩]))) (.reg [o 63 (.bin .add (.t 49) (.c (.int .i64 1))),o 49 (.mv (.t 63))]))))))) (.seq (.reg [o 64 (.mv (.t 9)),o 4 (.mv (.t 64))]) .ret)))
def c64:SFun:=⟨.seq (.reg [o 4 (.mv (.c .emp))]) (.seq (.reg [o 12 (.mks 128 2 16 [.int .i64 0,.int .i64 0] (.c (.int .i64 0)) (.c (.int .i64 32))),o 5 (.mv (.t 12))]) (.seq (.reg [o 6 (.mv (.c (.int .i64 (-1))))]) (.seq (.seq (.reg [o 13 (.mv (.t 0)),o 14 (.rng (.t 13))]) (.block 0 (.loop (.seq (.reg [o 15 (.nxt (.t 14)),o 16 (.ext (.t 15) 0)]) (.seq (.cond (.t 16) .skip (.exit 0)) (.block 1 (.seq (.reg [o 17 (.ext (.t 15) 1),o 18 (.ext (.t 15) 2),o 7 (.mv (.t 17)),o 8 (.mv (.t 18))]) (.seq (.reg [o 19 (.mv (.t 1)),o 20 (.mv (.t 8)),o 21 (.call (.t 19) [.t 20])]) (.cond (.t 21) (.seq (.reg [o 22 (.mv (.t 6)),o 23 (.bin .geq (.t 22) (.c (.int .i64 0)))]) (.cond (.t 23) (.seq (.reg [o 24 (.mv (.t 5)),o 25 (.mv (.t 6)),o 26 (.mv (.t 7)),o 27 (.bld [.int .i64 0,.int .i64 0] [(0,(1,(.t 25))),(1,(1,(.t 26)))]),o 28 (.bldF 128 2 [.t 27]),o 29 (.app 128 2 16 (.t 24) (.t 28)),o 5 (.mv (.t 29))]) (.reg [o 30 (.mv (.t 6)),o 31 (.un .xor (.t 30)),o 6 (.mv (.t 31))])) .skip)) (.seq (.reg [o 32 (.mv (.t 6)),o 33 (.bin .lss (.t 32) (.c (.int .i64 0)))]) (.cond (.t 33) (.reg [o 34 (.mv (.t 7)),o 6 (.mv (.t 34))]) .skip))))))))))) (.seq (.seq (.reg [o 35 (.mv (.t 6)),o 36 (.bin .geq (.t 35) (.c (.int .i64 0)))]) (.cond (.t 36) (.reg [o 37 (.mv (.t 5)),o 38 (.mv (.t 6)),o 39 (.mv (.t 0)),o 40 (.lenS (.t 39)),o 41 (.bld [.int .i64 0,.int .i64 0] [(0,(1,(.t 38))),(1,(1,(.t 40)))]),o 42 (.bldF 128 2 [.t 41]),o 43 (.app 128 2 16 (.t 37) (.t 42)),o 5 (.mv (.t 43))]) .skip)) c64_s5)))),[.tmp 4]⟩
theorem hc64:Y3 Tryz.prog {mp:=[14]} Tryz.f64=some c64:=by kernel_rfl
theorem fieldsF_rest (s:List UInt8) (hs:s.length<=1000000) (L:List (Nat×Nat)) (hL:L.length<=1000001) (hx:∀ x∈L,x.1<x.2/\x.2<=s.length) {h h1:Q2} (S:Sim.Sub h h1) {r:Nat} {es:List (List AVal)} (hr:h1 r=some ⟨.t 128,2,es⟩)
 (hle:L.length<=es.length) (ht:es.take L.length=L.map eSpan) (e:Env) (e0:e 0=.str s) (e5:e 5=.osl r 2 0 L.length) :
 vc (Pg G) c64_s5 (KU [.tmp 4] fun a h'=>Sim.Sub h h'/\VwT (newH h h') a (sl T0 (L.map fun x=>seg s x.1 x.2))) e h1:=by
 unfold c64_s5
 skip
 simp -dsimp -implicitDefEqProofs (disch:=omega) only [VCA,Nat.reduceEqDiff,↓reduceIte,e5]
 refine ⟨by omega,Int.le_refl _,by omega,by omega,fun r9 hr9=>?_⟩
 obtain ⟨W,hW⟩:∃ W,L.map (fun x=>seg s x.1 x.2)=W:=⟨_,rfl⟩
 have wl:W.length=L.length:=by rw [<-hW,List.length_map]
 have wn:∀ k,k<L.length->nth W k=seg s (nth L k).1 (nth L k).2:=fun k hk=>by
  have:=J5 (show k<W.length by omega)
  rw [<-hW,List.getElem?_map,J5 hk] at this
  rw [<-hW];exact (Option.some.inj this).symm
 have en:∀ k,k<L.length->es.getD k []=eSpan (nth L k):=fun k hk=>by
  have h1:(es.take L.length)[k]? = some (eSpan (nth L k)):=by rw [ht,List.getElem?_map,J5 hk];rfl
  rw [List.getElem?_take,if_pos hk] at h1
  rw [List.getD_eq_getElem?_getD,h1];rfl
 have hne:r≠r9:=fun e=>by rw [<-e,hr] at hr9;cases hr9
 rw [hW]
 refine LoopVC.intro (fun m e h'=>∃ (k:Nat) (fs:List (List AVal)),k<=L.length/\m=L.length-k/\e 0=.str s/\e 9=.osl r9 1 0 L.length/\e 47=.osl r 2 0 L.length/\e 48=Q3 L.length/\e 49=Q3 k/\h' r9=some ⟨.t 9,1,fs⟩/\fs.length=L.length/\(∀ c∈fs,c.length=1)/\fs.take k=(W.take k).map T0/\h' r=some ⟨.t 128,2,es⟩/\Sim.Sub h h') L.length
  ⟨0,_,Nat.zero_le _,by omega,e0,rfl,rfl,rfl,rfl,Q5 _ _ _,by simp,(fun c hc=>by rw [List.eq_of_mem_replicate hc];rfl),rfl,by rw [Q4 _ _ hne];exact hr,S.upd (S.none hr9)⟩ ?_
 clear e0 e5 hr
 rintro m e h' ⟨k,fs,hk,rfl,e0,e9,e47,e48,e49,g9,fl,f1,ft,hr,S'⟩
 simp -dsimp -implicitDefEqProofs (disch:=omega) only [VCA,↓reduceIte,e48,e49]
 refine Br.dec (fun hlt=>?_) (fun hge=>?_)
 ·have hk':k<L.length:=by omega
  have hx':=hx _ (Y7 hk')
  have enk:=en k hk'
  have wnk:=wn k hk'
  obtain ⟨y,hy⟩:∃ y,nth L k=y:=⟨_,rfl⟩
  rw [hy] at hx' enk wnk
  repeat' (first | ((with_reducible refine brC (fun _=>?_) fun _=>?_) <;> try (exfalso;omega)) | (with_reducible refine And.intro ?_ ?_; · omega) | simp -dsimp -implicitDefEqProofs (disch:=omega) only [VCA,Nat.reduceEqDiff,Nat.reduceAdd,Nat.reduceLT,Nat.reduceLeDiff,↓reduceIte,reduceCtorEq,Z8,exists_eq_left',e0,e9,e47,e48,e49,hr,enk,eSpan])
  intro r1 hr1
  have hrow:List.drop 1 (fs.getD k [])=[]:=by
   rw [List.getD_eq_getElem?_getD,List.getElem?_eq_getElem (by omega),Option.getD_some]
   exact List.drop_eq_nil_of_le (by rw [f1 _ (List.getElem_mem _)];exact Nat.le_refl _)
  have n91:¬ r9=r1:=fun e=>by rw [<-e,g9] at hr1;cases hr1
  refine ⟨⟨by omega,by omega,by omega⟩,⟨by omega,by omega⟩,_,by rw [if_neg n91];exact g9,by simp only [fl];omega,?_,?_⟩
  ·simp only
   rw [List.getD_eq_getElem?_getD,List.getElem?_eq_getElem (by omega),Option.getD_some,f1 _ (List.getElem_mem _)]
   exact Nat.le_refl _
  ·refine ⟨_,by omega,k+1,_,by omega,rfl,by omega,rfl,?_,?_,?_,?_,?_⟩
   ·simpa using fl
   ·intro c hc
    rcases List.mem_or_eq_of_mem_set hc with hc | rfl
    ·exact f1 c hc
    ·simp only [hrow];rfl
   ·simp only [hrow]
    have hkf:k<fs.length:=by omega
    rw [List.take_add_one,List.take_set_of_le (Nat.le_refl _),ft,List.getElem?_set_self hkf,X1 (by omega),wnk,List.map_append]
    rfl
   ·rw [if_neg hne,if_neg (fun e=>by rw [<-e,hr] at hr1;cases hr1)]
   ·exact (S'.upd (S'.none hr1)).upd (S.none hr9)
 ·obtain rfl:k=L.length:=by omega
  simp -dsimp -implicitDefEqProofs (disch:=omega) only [VCA,Nat.reduceEqDiff,↓reduceIte,e9]
  rw [<-wl,List.take_length] at ft
  exact ⟨_,Sub.refl _,S',.one _ _ (Vw.osl0 (by rw [UJ (S.none hr9)];exact g9) (by rw [List.length_map,wl]) (by rw [fl];exact Nat.le_refl _) (fun f hf=>by obtain ⟨w,_,rfl⟩:=List.mem_map.1 hf;rfl) (by rw [<-wl,ft];exact F2.refl (F2.refl .refl) _))⟩
theorem fieldsF_ok (s:List UInt8) (hs:s.length<=1000000) (f:Nat) (hf:∀ c:Nat,c<2147483648->PCalls (Pg G) f [.int .i32 c] (.bool (U7 c))):PCalls (Pg G) 64 [.str s,.fn f [] []] (sl T0 (KK s)):=PCalls.outV fun h=>by
 refine Q0 Tryz.func64 (by kernel_rfl) hc64 (by rw [Tryz.ntmps64];simp) (by rw [Tryz.ntmps64];decide) ?_
 simp -dsimp -implicitDefEqProofs (disch:=omega) only [VCA,↓X6,↓reduceIte,reduceCtorEq,ne_eq,c64]
 refine ⟨by decide,by decide,by decide,by decide,fun r5 hr5 r14 hr14=>?_⟩
 have J0:FJ h (upd (upd h r5 (some ⟨.t 128,2,List.replicate 32 [Q3 0,Q3 0]⟩)) r14 (some (itO s 0))) s 0 r14 (.osl r5 2 0 0) (Q3 (-1)) (fsp s 0):=
  ⟨((Sub.refl h).upd hr5).upd hr14.2,Q5 _ _ _,hr14.2,⟨r5,_,rfl,by rw [Q4 _ _ (fun e=>hr14.1 e.symm)];exact Q5 _ _ _,Nat.zero_le _,rfl,hr5,fun e=>hr14.1 e.symm⟩,-1,by decide,by decide,rfl⟩
 refine LoopVC.intro (fun m e h'=>∃ p:Nat,p<=s.length/\m=s.length-p/\e 0=.str s/\e 1=.fn f [] []/\e 14=.ptr r14 0 0/\FJ h h' s p r14 (e 5) (e 6) (fsp s p)) s.length ⟨0,Nat.zero_le _,by omega,rfl,rfl,rfl,J0⟩ ?_
 clear J0
 rintro m e h' ⟨p,hp,rfl,e0,e1,e14,J⟩
 have hit:=J.it
 simp -dsimp -implicitDefEqProofs (disch:=omega) only [VCA,Nat.reduceEqDiff,Nat.reduceAdd,Nat.reduceLT,↓reduceIte,e1,e14,hit]
 refine ⟨_,_,rfl,fun hlt=>?_,fun hge=>?_⟩
 ·have hb:=sign_bl hlt
  have hq:=runeAt_is s p hlt
  have hcn:=runeAt_cont s p
  have hF:=hf (JX s p).1 (runeAt_small s p)
  rw [hb] at hF
  obtain ⟨q,hqq⟩:∃ q,JX s p=q:=⟨_,rfl⟩
  rw [hqq] at hq hcn hF
  have J2:∀ o6:AVal,StI (fsp s (p+q.2)).2 o6->(fsp s (p+q.2)).1=(fsp s p).1->FJ h (upd h' r14 (some (itO s (p+q.2)))) s (p+q.2) r14 (e 5) o6 (fsp s (p+q.2)):=fun o6 h6 h1=>by
   obtain ⟨r,es,g1,g2,g3,g4,g5,g6⟩:=J.sp
   refine ⟨J.sub.upd J.itn,Q5 _ _ _,J.itn,⟨r,es,?_,by rw [Q4 _ _ g6];exact g2,?_,?_,g5,g6⟩,h6⟩
   ·rw [h1];exact g1
   ·rw [h1];exact g3
   ·rw [h1];exact g4
  obtain ⟨r,es,g1,g2,g3,g4,g5,g6⟩:=J.sp
  have K:=fsp_is s p
  have K1:=K.len
  cases hbl:U7 (bt s p) with
  | true=>
    rw [hbl] at hF
    have hw1:q=((bt s p).toNat,1):=hq.1 (by
     refine Int.not_le.1 fun hc=>?_
     rw [blankI_hi hc] at hbl;cases hbl)
    have hq2:q.2=1:=by rw [hw1]
    have hn:=fsp_bl hbl
    cases hst:(fsp s p).2 with
    | some a=>
      rw [hst] at hn
      have e6:e 6=Q3 a:=by have:=J.st;rw [hst] at this;exact this
      have ha:=K.cur a hst
      simp -dsimp -implicitDefEqProofs (disch:=omega) only [hqq]
      refine DCalls.of (hF _) ?_
      rintro v h2 ⟨rfl,rfl⟩
      repeat' (first | ((with_reducible refine brC (fun _=>?_) fun _=>?_) <;> try (exfalso;omega)) | (with_reducible refine And.intro ?_ ?_; · omega) | simp -dsimp -implicitDefEqProofs (disch:=omega) only [VCA,Nat.reduceEqDiff,Nat.reduceAdd,Nat.reduceLeDiff,↓reduceIte,reduceCtorEq,Z7,K8,X3,forall_eq,exists_eq_left,e6,g1])
      refine ⟨_,by rw [if_neg g6];exact g2,rfl,by simpa using g3,by omega,by omega,fun r' hr'=>?_⟩
      repeat' (first | ((with_reducible refine brC (fun _=>?_) fun _=>?_) <;> try (exfalso;omega)) | (with_reducible refine And.intro ?_ ?_; · omega) | simp -dsimp -implicitDefEqProofs (disch:=omega) only [])
      have hrow:List.take (fsp s p).1.length es++[[Q3 a,Q3 p]]=(fsp s (p+q.2)).1.map eSpan:=by rw [g4,hq2,hn,List.map_append];rfl
      exact ⟨_,by omega,p+q.2,by omega,rfl,e0,e1,e14,FJ.app (J.sub.upd J.itn) (Q5 _ _ _) J.itn g6 g5 hr' hrow (by rw [hq2,hn,List.length_append];rfl) (by rw [hq2,hn];exact ⟨-1-a,by omega,by omega,rfl⟩)⟩
    | none=>
      rw [hst] at hn
      simp only at hn
      obtain ⟨z,z0,z1,e6⟩:∃ z:Int,z<0 /\ -1000000000<=z/\e 6=Q3 z:=by have:=J.st;rw [hst] at this;exact this
      simp -dsimp -implicitDefEqProofs (disch:=omega) only [hqq]
      refine DCalls.of (hF _) ?_
      rintro v h2 ⟨rfl,rfl⟩
      repeat' (first | ((with_reducible refine brC (fun _=>?_) fun _=>?_) <;> try (exfalso;omega)) | (with_reducible refine And.intro ?_ ?_; · omega) | simp -dsimp -implicitDefEqProofs (disch:=omega) only [VCA,Nat.reduceEqDiff,↓reduceIte,reduceCtorEq,e6,e0,e1,e14,hqq])
      exact ⟨_,by omega,p+q.2,by omega,rfl,J2 _ (by rw [hq2,hn,hst];exact ⟨z,z0,z1,rfl⟩) (by rw [hq2,hn])⟩
  | false=>
    rw [hbl] at hF
    have hn:=fsp_no hbl
    have hsg:=fsp_sign (s:=s) (p:=p) (w:=q.2) hq.2.2.1 hbl fun i h1 h2=>blankI_hi (hcn i h1 h2)
    cases hst:(fsp s p).2 with
    | some a=>
      rw [hst] at hn
      simp only at hn
      have e6:e 6=Q3 a:=by have:=J.st;rw [hst] at this;exact this
      simp -dsimp -implicitDefEqProofs (disch:=omega) only [hqq]
      refine DCalls.of (hF _) ?_
      rintro v h2 ⟨rfl,rfl⟩
      repeat' (first | ((with_reducible refine brC (fun _=>?_) fun _=>?_) <;> try (exfalso;omega)) | (with_reducible refine And.intro ?_ ?_; · omega) | simp -dsimp -implicitDefEqProofs (disch:=omega) only [VCA,Nat.reduceEqDiff,↓reduceIte,reduceCtorEq,e6,e0,e1,e14,hqq])
      exact ⟨_,by omega,p+q.2,by omega,rfl,J2 _ (by rw [hsg,hn,hst];exact rfl) (by rw [hsg,hn])⟩
    | none=>
      rw [hst] at hn
      obtain ⟨z,z0,z1,e6⟩:∃ z:Int,z<0 /\ -1000000000<=z/\e 6=Q3 z:=by have:=J.st;rw [hst] at this;exact this
      simp -dsimp -implicitDefEqProofs (disch:=omega) only [hqq]
      refine DCalls.of (hF _) ?_
      rintro v h2 ⟨rfl,rfl⟩
      repeat' (first | ((with_reducible refine brC (fun _=>?_) fun _=>?_) <;> try (exfalso;omega)) | (with_reducible refine And.intro ?_ ?_; · omega) | simp -dsimp -implicitDefEqProofs (disch:=omega) only [VCA,Nat.reduceEqDiff,↓reduceIte,reduceCtorEq,e6,e0,e1,e14,hqq])
      exact ⟨_,by omega,p+q.2,by omega,rfl,J2 _ (by rw [hsg,hn];exact rfl) (by rw [hsg,hn])⟩
 ·obtain rfl:p=s.length:=by omega
  obtain ⟨r,es,g1,g2,g3,g4,g5,g6⟩:=J.sp
  have K:=fsp_is s s.length
  have K1:=K.len
  have hsp:=spansM_is s
  have hst0:=J.st
  have hsl:(spansM s).length<=1000001:=by have:=hsp.1;omega
  cases hst:(fsp s s.length).2 with
  | some a=>
    rw [hst] at hst0
    have e6:e 6=Q3 a:=hst0
    have hsm:spansM s=(fsp s s.length).1++[(a,s.length)]:=by unfold spansM;rw [hst]
    have ha:=K.cur a hst
    repeat' (first | ((with_reducible refine brC (fun _=>?_) fun _=>?_) <;> try (exfalso;omega)) | (with_reducible refine And.intro ?_ ?_; · omega) | simp -dsimp -implicitDefEqProofs (disch:=omega) only [VCA,Nat.reduceEqDiff,Nat.reduceAdd,Nat.reduceLeDiff,↓reduceIte,reduceCtorEq,Z7,K8,X3,forall_eq,exists_eq_left,e0,e6,g1])
    refine ⟨_,g2,rfl,g3,by omega,by omega,fun r' hr'=>?_⟩
    have S2:=J.sub.del g5
    have hm2:KK s=((fsp s s.length).1++[(a,s.length)]).map fun x=>seg s x.1 x.2:=by unfold KK;rw [hsm]
    rw [hm2]
    have hln:(fsp s s.length).1.length+1=((fsp s s.length).1++[(a,s.length)]).length:=by rw [List.length_append];rfl
    refine fieldsF_rest s hs _ (by rw [<-hsm];exact hsl) (by rw [<-hsm];exact hsp.2) (S2.upd (S2.none hr')) (r:=r') (Q5 _ _ _) ?_ ?_ _ e0 ?_
    ·simp only [g4,List.length_append,List.length_map];exact Nat.le_refl _
    ·simp only [g4]
     rw [List.take_of_length_le (by simp)]
     rw [List.map_append];rfl
    ·rw [<-hln];rfl
  | none=>
    rw [hst] at hst0
    obtain ⟨z,z0,z1,e6⟩:∃ z:Int,z<0 /\ -1000000000<=z/\e 6=Q3 z:=hst0
    have hsm:spansM s=(fsp s s.length).1:=by unfold spansM;rw [hst]
    repeat' (first | ((with_reducible refine brC (fun _=>?_) fun _=>?_) <;> try (exfalso;omega)) | (with_reducible refine And.intro ?_ ?_; · omega) | simp -dsimp -implicitDefEqProofs (disch:=omega) only [VCA,e6])
    have hm2:KK s=((fsp s s.length).1).map fun x=>seg s x.1 x.2:=by unfold KK;rw [hsm]
    rw [hm2]
    exact fieldsF_rest s hs _ (by rw [<-hsm];exact hsl) (by rw [<-hsm];exact hsp.2) J.sub g2 g3 g4 _ e0 g1
def c88:SFun:=⟨.seq (.reg [o 4 (.mv (.c (.int .i64 0)))]) (.seq (.seq (.reg [o 6 (.mv (.t 0)),o 7 (.len (.t 6)),o 8 (.mv (.c (.int .i64 0)))]) (.block 0 (.loop (.seq (.reg [o 9 (.bin .lss (.t 8) (.t 7))]) (.seq (.cond (.t 9) .skip (.exit 0)) (.seq (.block 1 (.seq (.reg [o 10 (.mv (.t 8)),o 5 (.mv (.t 10))]) (.seq (.reg [o 11 (.mv (.t 1)),o 12 (.mv (.t 0)),o 13 (.mv (.t 5)),o 14 (.idxA 1 (.t 12) (.t 13)),o 15 (.ld 1 false (.t 14)),o 16 (.bin .eql (.t 11) (.t 15))]) (.cond (.t 16) (.seq (.reg [o 17 (.mv (.t 5)),o 4 (.mv (.t 17))]) .ret) .skip)))) (.reg [o 18 (.bin .add (.t 8) (.c (.int .i64 1))),o 8 (.mv (.t 18))]))))))) (.seq (.reg [o 4 (.mv (.c (.int .i64 (-1))))]) .ret)),[.tmp 4]⟩
theorem hc88:Y3 Tryz.prog {} Tryz.f88=some c88:=by kernel_rfl
theorem indexS_own {h0 h:Q2} {L:List (List UInt8)} {a:AVal} (A:Acc h0 9 1 (L.map T0) a h) (w:List UInt8) (hL:L.length<=1073741824):DCalls (Pg G) 88 [a,.str w] h fun r h'=>r=Q3 (U8 (fun x=>w==x) L)/\h'=h:=by
 rcases A with ⟨hn,rfl⟩ | ⟨r,h0n,hr,rfl⟩
 ·have hL0:L=[]:=by simpa using hn
  subst hL0
  refine Q0 Tryz.func88 (by kernel_rfl) hc88 (by rw [Tryz.ntmps88];simp) (by rw [Tryz.ntmps88];decide) ?_
  simp -dsimp -implicitDefEqProofs (disch:=omega) only [VCA,↓reduceIte,reduceCtorEq,c88]
  refine LoopVC.intro (fun m e h'=>m=0/\e 7=Q3 0/\e 8=Q3 0/\h'=h) 0 ⟨rfl,rfl,rfl,rfl⟩ ?_
  rintro m e h' ⟨rfl,e7,e8,rfl⟩
  repeat' (first | ((with_reducible refine brC (fun _=>?_) fun _=>?_) <;> try (exfalso;omega)) | (with_reducible refine And.intro ?_ ?_; · omega) | simp -dsimp -implicitDefEqProofs (disch:=omega) only [VCA,↓reduceIte,exists_eq_right_right,e7,e8])
  exact ⟨Sub.refl _,rfl⟩
 ·refine Q0 Tryz.func88 (by kernel_rfl) hc88 (by rw [Tryz.ntmps88];simp) (by rw [Tryz.ntmps88];decide) ?_
  simp -dsimp -implicitDefEqProofs (disch:=omega) only [VCA,↓reduceIte,reduceCtorEq,c88]
  refine LoopVC.intro (fun m e h'=>∃ k:Nat,k<=L.length/\m=L.length-k/\e 0=.osl r 1 0 L.length/\e 1=.str w/\e 7=Q3 L.length/\e 8=Q3 k/\h'=h /\ ∀ j,j<k->(w==nth L j)=false) L.length ⟨0,by omega,by omega,(by show AVal.osl r 1 0 _=_;first | rfl | rw [List.length_map]),rfl,rfl,rfl,rfl,fun j hj=>absurd hj (Nat.not_lt_zero j)⟩ ?_
  rintro m e h' ⟨k,hk,rfl,e0,e1,e7,e8,rfl,hj⟩
  have hk2:∀ k,k<L.length->(L.map T0).getD k []=[.str (nth L k)]:=fun k hk=>by
   rw [List.getD_eq_getElem?_getD,List.getElem?_map,J5 hk];rfl
  simp -dsimp -implicitDefEqProofs (disch:=omega) only [VCA,↓reduceIte,e7,e8]
  refine Br.dec (fun hlt=>?_) (fun hge=>?_)
  ·have hk':k<L.length:=by omega
   have hkk:=hk2 k hk'
   repeat' (first | ((with_reducible refine brC (fun _=>?_) fun _=>?_) <;> try (exfalso;omega)) | (with_reducible refine And.intro ?_ ?_; · omega) | simp -dsimp -implicitDefEqProofs (disch:=omega) only [VCA,Nat.reduceEqDiff,↓reduceIte,reduceCtorEq,exists_eq_right_right,exists_eq_left',e0,e1,e7,e8,hr,hkk])
   ·rename_i hh
    rw [VV (p:=fun x=>w==x) hk' hj (by simpa using hh)]
    exact ⟨Sub.refl _,rfl⟩
   ·rename_i hh
    refine ⟨_,by omega,k+1,by omega,rfl,by omega,fun j hj'=>?_⟩
    by_cases h1:j=k
    ·subst h1;simpa using hh
    ·exact hj j (by omega)
  ·obtain rfl:k=L.length:=by omega
   simp -dsimp -implicitDefEqProofs (disch:=omega) only [VCA,↓reduceIte,exists_eq_right_right]
   rw [VU hj]
   exact ⟨Sub.refl _,rfl⟩
def c67:SFun:=⟨.seq (.reg [o 4 (.mv (.c (.bool false)))]) (.seq (.reg [o 5 (.mv (.t 0)),o 6 (.mv (.t 1)),o 7 (.call (.c (.fn 88 [] [])) [.t 5,.t 6]),o 8 (.bin .geq (.t 7) (.c (.int .i64 0))),o 4 (.mv (.t 8))]) .ret),[.tmp 4]⟩
theorem hc67:Y3 Tryz.prog {} Tryz.f67=some c67:=by kernel_rfl
theorem containsS_own {h0 h:Q2} {L:List (List UInt8)} {a:AVal} (A:Acc h0 9 1 (L.map T0) a h) (w:List UInt8) (hL:L.length<=1073741824):DCalls (Pg G) 67 [a,.str w] h fun r h'=>r=.bool (decide (w∈L))/\h'=h:=by
 have e1:decide (0<=U8 (fun x=>w==x) L)=decide (w∈L):=by rw [idxM_any,Bool.eq_iff_iff];simp
 refine Q0 Tryz.func67 (by kernel_rfl) hc67 (by rw [Tryz.ntmps67];simp) (by rw [Tryz.ntmps67];decide) ?_
 simp -dsimp -implicitDefEqProofs (disch:=omega) only [VCA,Nat.reduceEqDiff,↓reduceIte,reduceCtorEq,c67]
 refine DCalls.of (indexS_own A w hL) ?_
 rintro v h' ⟨rfl,rfl⟩
 repeat' (first | ((with_reducible refine brC (fun _=>?_) fun _=>?_) <;> try (exfalso;omega)) | (with_reducible refine And.intro ?_ ?_; · omega) | simp -dsimp -implicitDefEqProofs (disch:=omega) only [VCA,↓reduceIte,exists_eq_right,e1])
 all_goals exact Sub.refl _
theorem foldW_len (F:List (List UInt8)):∀ L:List (List UInt8),(F.foldl WK L).length<=L.length+F.length:=by
 induction F with
 | nil=>intro L;exact Nat.le_refl _
 | cons x r ih=>
   intro L
   have h1:=ih (WK L x)
   have h2:(WK L x).length<=L.length+1:=by unfold WK;split <;> simp
   rw [List.foldl_cons,List.length_cons];omega
theorem wordsM_len (s:List UInt8):(XU s).length<=s.length+1:=by
 have h1:=foldW_len (KK s) []
 have h2:=fieldsM_len s
 unfold XU;simp only [List.length_nil] at h1;omega
def c35:SFun:=⟨.seq (.reg [o 2 (.mv (.c .emp))]) (.seq (.reg [o 3 (.mv (.c .emp))]) (.seq (.seq (.reg [o 6 (.mv (.t 0)),o 7 (.pcall 64 [.t 6,.c (.fn 65 [] [])]),o 8 (.len (.t 7)),o 9 (.mv (.c (.int .i64 0)))]) (.block 0 (.loop (.seq (.reg [o 10 (.bin .lss (.t 9) (.t 8))]) (.seq (.cond (.t 10) .skip (.exit 0)) (.seq (.block 1 (.seq (.reg [o 11 (.idxA 1 (.t 7) (.t 9)),o 12 (.ld 1 false (.t 11)),o 5 (.mv (.t 12))]) (.seq (.reg [o 13 (.mv (.t 3)),o 14 (.mv (.t 5)),o 15 (.call (.c (.fn 67 [] [])) [.t 13,.t 14]),o 16 (.un .not (.t 15))]) (.cond (.t 16) (.reg [o 17 (.mv (.t 3)),o 18 (.mv (.t 5)),o 19 (.bldF 9 1 [.t 18]),o 20 (.app 9 1 16 (.t 17) (.t 19)),o 3 (.mv (.t 20))]) .skip)))) (.reg [o 21 (.bin .add (.t 9) (.c (.int .i64 1))),o 9 (.mv (.t 21))]))))))) (.seq (.reg [o 22 (.mv (.t 3)),o 2 (.mv (.t 22))]) .ret))),[.tmp 2]⟩
theorem hc35:Y3 Tryz.prog {pure:=[64]} Tryz.f35=some c35:=by kernel_rfl
theorem words_ok (s:List UInt8) (hs:s.length<=1000000):PCalls (Pg G) 35 [.str s] (sl T0 (XU s)):=PCalls.acc (ty:=9) (sz:=1) fun h=>by
 have cF:=fieldsF_ok (G:=G) s hs 65 words1_ok
 have fl:=fieldsM_len s
 have fne:=fieldsM_ne s
 unfold XU
 obtain ⟨F,hF⟩:∃ F,KK s=F:=⟨_,rfl⟩
 rw [hF] at cF fl fne ⊢
 have key:∀ k,k<F.length->(F.take (k+1)).foldl WK []=WK ((F.take k).foldl WK []) (nth F k):=fun k hk=>by
  rw [X1 hk,List.foldl_append];rfl
 refine Q0 Tryz.func35 (by kernel_rfl) hc35 (by rw [Tryz.ntmps35];simp) (by rw [Tryz.ntmps35];decide) ?_
 simp -dsimp -implicitDefEqProofs (disch:=omega) only [VCA,↓reduceIte,reduceCtorEq,c35]
 repeat' (first | ((with_reducible refine brC (fun _=>?_) fun _=>?_) <;> try (exfalso;omega)) | (with_reducible apply pcallE.of; · exact cF) | (with_reducible refine And.intro ?_ ?_; · omega) | simp -dsimp -implicitDefEqProofs (disch:=omega) only [VCA,↓reduceIte])
 refine LoopVC.intro (fun m e h'=>∃ k:Nat,k<=F.length/\m=F.length-k/\e 7=sl T0 F/\e 8=Q3 F.length/\e 9=Q3 k/\Acc h 9 1 (((F.take k).foldl WK []).map T0) (e 3) h'/\Sim.Sub h h') F.length ⟨0,by omega,by omega,rfl,rfl,rfl,.nil,Sub.refl _⟩ ?_
 rintro m e h' ⟨k,hk,rfl,e7,e8,e9,A,S⟩
 simp -dsimp -implicitDefEqProofs (disch:=omega) only [VCA,↓reduceIte,e8,e9]
 refine Br.dec (fun hlt=>?_) (fun hge=>?_)
 ·have hk':k<F.length:=by omega
  have hkey:=key k hk'
  have hw:=fne _ (Y7 hk')
  have hLl:=foldW_len (F.take k) []
  obtain ⟨L,hL⟩:∃ L,(F.take k).foldl WK []=L:=⟨_,rfl⟩
  rw [hL] at A hkey hLl
  simp only [List.length_nil,List.length_take] at hLl
  have hC:=containsS_own (G:=G) A (nth F k) (by omega)
  simp -dsimp -implicitDefEqProofs (disch:=omega) only [VCA,Nat.reduceEqDiff,↓reduceIte,T0,e7,e9,T0]
  refine ⟨by omega,DCalls.of hC ?_⟩
  rintro v h2 ⟨rfl,rfl⟩
  by_cases hin:nth F k∈L
  ·have d1:decide (nth F k∈L)=true:=decide_eq_true hin
   have hadd:WK L (nth F k)=L:=if_pos (.inr hin)
   simp -dsimp -implicitDefEqProofs (disch:=omega) only [VCA,Nat.reduceEqDiff,↓reduceIte,e7,e8,e9,d1]
   exact ⟨_,by omega,k+1,by omega,rfl,by omega,by rw [hkey,hadd];exact A,S⟩
  ·have d1:decide (nth F k∈L)=false:=decide_eq_false hin
   have hadd:WK L (nth F k)=L++[nth F k]:=if_neg (by rintro (h | h);exact hw h;exact hin h)
   simp -dsimp -implicitDefEqProofs (disch:=omega) only [VCA,Nat.reduceEqDiff,↓reduceIte,Z7,forall_eq,exists_eq_left,d1]
   refine A.app S (by simp only [List.length_map,List.length_cons,List.length_nil];omega) (by simp only [List.length_map,List.length_cons,List.length_nil];omega) fun a2 h3 A2 S3=>?_
   simp -dsimp -implicitDefEqProofs (disch:=omega) only [VCA,Nat.reduceEqDiff,↓reduceIte,e7,e8,e9]
   exact ⟨_,by omega,k+1,by omega,rfl,by omega,by rw [hkey,hadd,List.map_append];exact A2,S3⟩
 ·obtain rfl:k=F.length:=by omega
  rw [List.take_length] at A
  simp -dsimp -implicitDefEqProofs (disch:=omega) only [VCA,Nat.reduceEqDiff,↓reduceIte]
  exact ⟨_,Sub.refl _,A,S⟩
def refX (s:List UInt8) (p:Nat):List (List UInt8)×List UInt8:=if p<=s.length then refW s p else (XU s,[])
theorem refX_no {s:List UInt8} {p:Nat} (hp:p<s.length) (hb:U7 (bt s p)=false):refX s (p+1)=((refX s p).1,(refX s p).2++[s.getD p 0]):=by
 unfold refX
 rw [if_pos (by omega),if_pos (by omega),refW,if_neg (by rw [hb];decide)]
theorem refX_bl {s:List UInt8} {p:Nat} (hp:p<=s.length) (hb:p<s.length->U7 (bt s p)=true):refX s (p+1)=(WK (refX s p).1 (refX s p).2,[]):=by
 unfold refX
 rw [if_pos hp]
 by_cases h:p<s.length
 ·rw [if_pos (by omega),refW,if_pos (hb h)]
 ·obtain rfl:p=s.length:=by omega
  rw [if_neg (by omega),refW_end]
theorem refX_len (s:List UInt8) (p:Nat):(refX s p).1.length<=s.length+1/\(refX s p).2.length<=s.length:=by
 unfold refX
 split
 ·rename_i hp
  rw [refW_is s p hp]
  have K:=fsp_is s p
  have K1:=K.len
  have h1:=foldW_len ((fsp s p).1.map fun x=>seg s x.1 x.2) []
  simp only [List.length_nil,List.length_map] at h1
  refine ⟨by simp only;omega,?_⟩
  cases (fsp s p).2 with
  | some a=>exact seg_le _ _ _
  | none=>exact Nat.zero_le _
 ·exact ⟨wordsM_len s,Nat.zero_le _⟩
def c69:SFun:=⟨.seq (.reg [o 2 (.mv (.c .emp))]) (.seq (.reg [o 3 (.mv (.c .emp))]) (.seq (.reg [o 4 (.mv (.c (.str [])))]) (.seq (.seq (.reg [o 5 (.mv (.c (.int .i64 0)))]) (.block 0 (.loop (.seq (.seq (.reg [o 8 (.mv (.t 5)),o 9 (.mv (.t 0)),o 10 (.lenS (.t 9)),o 11 (.bin .leq (.t 8) (.t 10))]) (.cond (.t 11) .skip (.exit 0))) (.seq (.block 1 (.seq (.seq (.reg [o 14 (.mv (.t 5)),o 15 (.mv (.t 0)),o 16 (.lenS (.t 15)),o 17 (.bin .lss (.t 14) (.t 16)),o 18 (.mv (.t 17)),⟨some 19,.mv (.t 0),some (18,true)⟩,⟨some 20,.mv (.t 5),some (18,true)⟩,⟨some 21,.idxS (.t 19) (.t 20),some (18,true)⟩,⟨some 22,.pcall 89 [.t 21],some (18,true)⟩,⟨some 23,.un .not (.t 22),some (18,true)⟩,o 24 (.pick (.t 18) (.t 23) (.c (.bool false)))]) (.cond (.t 24) (.seq (.reg [o 25 (.mv (.t 4)),o 26 (.mv (.t 0)),o 27 (.mv (.t 5)),o 28 (.mv (.t 5)),o 29 (.bin .add (.t 28) (.c (.int .i64 1))),o 30 (.slS (.t 26) (some (.t 27)) (some (.t 29))),o 31 (.bin .add (.t 25) (.t 30)),o 4 (.mv (.t 31))]) (.exit 1)) .skip)) (.seq (.reg [o 32 (.mv (.t 4)),o 33 (.bin .eql (.t 32) (.c (.str []))),o 6 (.mv (.t 33))]) (.seq (.seq (.reg [o 7 (.mv (.c (.int .i64 0)))]) (.block 2 (.loop (.seq (.seq (.reg [o 34 (.mv (.t 7)),o 35 (.mv (.t 3)),o 36 (.len (.t 35)),o 37 (.bin .lss (.t 34) (.t 36))]) (.cond (.t 37) .skip (.exit 2))) (.seq (.block 3 (.reg [o 40 (.mv (.t 6)),o 41 (.mv (.t 40)),⟨some 42,.mv (.t 3),some (41,false)⟩,⟨some 43,.mv (.t 7),some (41,false)⟩,⟨some 44,.idxA 1 (.t 42) (.t 43),some (41,false)⟩,⟨some 45,.ld 1 false (.t 44),some (41,false)⟩,⟨some 46,.mv (.t 4),some (41,false)⟩,⟨some 47,.bin .eql (.t 45) (.t 46),some (41,false)⟩,o 48 (.pick (.t 41) (.c (.bool true)) (.t 47)),o 6 (.mv (.t 48))])) (.reg [o 38 (.mv (.t 7)),o 39 (.bin .add (.t 38) (.c (.int .i64 1))),o 7 (.mv (.t 39))])))))) (.seq (.seq (.reg [o 49 (.mv (.t 6)),o 50 (.un .not (.t 49))]) (.cond (.t 50) (.reg [o 51 (.mv (.t 3)),o 52 (.mv (.t 4)),o 53 (.bldF 9 1 [.t 52]),o 54 (.app 9 1 16 (.t 51) (.t 53)),o 3 (.mv (.t 54))]) .skip)) (.reg [o 4 (.mv (.c (.str [])))])))))) (.reg [o 12 (.mv (.t 5)),o 13 (.bin .add (.t 12) (.c (.int .i64 1))),o 5 (.mv (.t 13))])))))) (.seq (.reg [o 55 (.mv (.t 3)),o 2 (.mv (.t 55))]) .ret)))),[.tmp 2]⟩
theorem hc69:Y3 Tryz.prog {pure:=[89]} Tryz.f69=some c69:=by kernel_rfl
def wordC:SCode:=cR (cR (cB (cL (cR (cB (cB (cR (cL (cR (cR (cR c69.code)))))))))))
def wordB:SCode:=.seq (cR (cL wordC)) (cR wordC)
theorem word_ok {h0 h:Q2} {e:Env} {K:SExit->Env->Q2->Prop} {L:List (List UInt8)} {w:List UInt8} (e4:e 4=.str w) (e6:e 6=.bool (w==[])) (e7:e 7=Q3 0) (hL:L.length<=1000001) (A:Acc h0 9 1 (L.map T0) (e 3) h) (S:Sim.Sub h0 h)
 (hK:∀ (e':Env) (h':Q2),e' 0=e 0->e' 5=e 5->e' 4=.str []->Acc h0 9 1 ((WK L w).map T0) (e' 3) h'->Sim.Sub h0 h'->K .normal e' h'):vc (Pg G) wordB K e h:=by
 skip
 have hl1:=A.len
 simp only [List.length_map] at hl1
 simp -dsimp -implicitDefEqProofs (disch:=omega) only [VCA,wordB,wordC,cL,cR,cB,c69]
 refine LoopVC.intro (fun m e' h'=>∃ k:Nat,k<=L.length/\m=L.length-k/\e' 0=e 0/\e' 3=e 3/\e' 4=.str w/\e' 5=e 5/\e' 6=.bool (decide (w=[]\/w∈L.take k))/\e' 7=Q3 k/\h'=h) L.length ⟨0,by omega,by omega,rfl,rfl,e4,rfl,(by rw [e6];cases w <;> simp),e7,rfl⟩ ?_
 rintro m e' h' ⟨k,hk,rfl,f0,f3,f4,f5,f6,f7,rfl⟩
 simp -dsimp -implicitDefEqProofs (disch:=omega) only [VCA,Nat.reduceEqDiff,↓reduceIte,f3,f7,hl1.1,hl1.2]
 refine Br.dec (fun hlt=>?_) (fun hge=>?_)
 ·have hk':k<L.length:=by omega
  have hkk:∀ k,k<L.length->(L.map T0).getD k []=[.str (nth L k)]:=fun k hk=>by
   rw [List.getD_eq_getElem?_getD,List.getElem?_map,J5 hk];rfl
  have hkk:=hkk k hk'
  obtain ⟨r,hrn,hr,ha⟩:=A.pos (by rw [List.length_map];omega)
  rw [List.length_map] at ha
  have f3':=f3.trans ha
  have htk:∀ x,x∈L.take (k+1)↔x∈L.take k\/x=nth L k:=fun x=>by rw [X1 hk',List.mem_append,List.mem_singleton]
  by_cases hd:w=[]\/w∈L.take k
  ·have d1:decide (w=[]\/w∈L.take k)=true:=decide_eq_true hd
   have d2:decide (w=[]\/w∈L.take (k+1))=true:=decide_eq_true (by rw [htk];exact hd.imp id .inl)
   simp -dsimp -implicitDefEqProofs (disch:=omega) only [↓Q1 41,VCA,Nat.reduceEqDiff,↓reduceIte,reduceCtorEq,f0,f3',f4,f5,f6,f7,d1]
   exact ⟨_,by omega,k+1,by omega,rfl,ha.symm,by rw [d2],by omega⟩
  ·have d1:decide (w=[]\/w∈L.take k)=false:=decide_eq_false hd
   have d2:decide (w=[]\/w∈L.take (k+1))=(nth L k==w):=by
    rw [Bool.eq_iff_iff,decide_eq_true_iff,htk,beq_iff_eq]
    exact ⟨fun h=>h.elim (fun h=>absurd (.inl h) hd) fun h=>h.elim (fun h=>absurd (.inr h) hd) fun h=>h.symm,fun h=>.inr (.inr h.symm)⟩
   simp -dsimp -implicitDefEqProofs (disch:=omega) only [↓Q1 41,VCA,Nat.reduceEqDiff,↓reduceIte,reduceCtorEq,exists_eq_left',f0,f3',f4,f5,f6,f7,d1,hr,hkk]
   exact ⟨⟨by omega,by omega⟩,hk',_,by omega,k+1,by omega,rfl,ha.symm,by rw [d2],by omega⟩
 ·obtain rfl:k=L.length:=by omega
  rw [List.take_length] at f6
  by_cases hd:w=[]\/w∈L
  ·have d1:decide (w=[]\/w∈L)=true:=decide_eq_true hd
   have hadd:WK L w=L:=if_pos hd
   simp -dsimp -implicitDefEqProofs (disch:=omega) only [VCA,Nat.reduceEqDiff,↓reduceIte,f6,d1]
   refine hK _ _ f0 f5 rfl ?_ S
   rw [hadd]
   show Acc h0 9 1 _ (e' 3) h'
   rw [f3];exact A
  ·have d1:decide (w=[]\/w∈L)=false:=decide_eq_false hd
   have hadd:WK L w=L++[w]:=if_neg hd
   simp -dsimp -implicitDefEqProofs (disch:=omega) only [VCA,Nat.reduceEqDiff,↓reduceIte,Z7,forall_eq,exists_eq_left,f3,f4,f6,d1]
   refine A.app S (by simp only [List.length_map,List.length_cons,List.length_nil];omega) (by simp only [List.length_map,List.length_cons,List.length_nil];omega) fun a2 h3 A2 S3=>?_
   simp -dsimp -implicitDefEqProofs (disch:=omega) only [VCA,↓reduceIte]
   refine hK _ _ f0 f5 rfl ?_ S3
   rw [hadd,List.map_append]
   exact A2
theorem refIxWords_ok (s:List UInt8) (hs:s.length<=1000000):PCalls (Pg G) 69 [.str s] (sl T0 (XU s)):=PCalls.acc (ty:=9) (sz:=1) fun h=>by
 refine Q0 Tryz.func69 (by kernel_rfl) hc69 (by rw [Tryz.ntmps69];simp) (by rw [Tryz.ntmps69];decide) ?_
 simp -dsimp -implicitDefEqProofs (disch:=omega) only [VCA,c69]
 refine LoopVC.intro (fun m e h'=>∃ p:Nat,p<=s.length+1/\m=s.length+1-p/\e 0=.str s/\e 4=.str (refX s p).2/\e 5=Q3 p/\Acc h 9 1 ((refX s p).1.map T0) (e 3) h'/\Sim.Sub h h') (s.length+1) ⟨0,by omega,by omega,rfl,rfl,rfl,.nil,Sub.refl _⟩ ?_
 rintro m e h' ⟨p,hp,rfl,e0,e4,e5,A,S⟩
 have hX:=refX_len s p
 obtain ⟨L,hL⟩:∃ L,(refX s p).1=L:=⟨_,rfl⟩
 obtain ⟨w,hw⟩:∃ w,(refX s p).2=w:=⟨_,rfl⟩
 rw [hL,hw] at hX
 rw [hL] at A
 rw [hw] at e4
 simp -dsimp -implicitDefEqProofs (disch:=omega) only [VCA,Nat.reduceEqDiff,↓reduceIte,reduceCtorEq,e0,e5]
 refine Br.dec (fun hle=>?_) (fun hgt=>?_)
 ·have hp':p<=s.length:=by omega
  by_cases hlt:p<s.length
  ·have cB:PCalls (Pg G) 89 [.int .u8 (s.getD p 0).toNat] (.bool (U7 (bt s p))):=refBlank_ok (G:=G) (s.getD p 0)
   have hdl:decide ((p:Int)<s.length)=true:=decide_eq_true (by omega)
   cases hb:U7 (bt s p) with
   | false=>
     rw [hb] at cB
     have hn:=refX_no hlt hb
     rw [hL,hw] at hn
     repeat' (first | ((with_reducible refine brC (fun _=>?_) fun _=>?_) <;> try (exfalso;omega)) | (with_reducible apply pcallE.of; · exact cB) | (with_reducible refine And.intro ?_ ?_; · omega) | simp -dsimp -implicitDefEqProofs (disch:=omega) only [↓Q1 18,VCA,Nat.reduceEqDiff,↓reduceIte,reduceCtorEq,e0,e4,e5,hdl])
     have hsg:s.take (p+1)=s.take p++[s.getD p 0]:=by rw [List.take_add_one,List.getD_eq_getElem?_getD,List.getElem?_eq_getElem hlt];rfl
     have hsd:List.drop p (s.take (p+1))=[s.getD p 0]:=by
      rw [hsg,List.drop_append_of_le_length (by rw [List.length_take];omega),List.drop_eq_nil_of_le (by rw [List.length_take];omega)];rfl
     rw [hsd]
     refine ⟨by simp;omega,_,by omega,p+1,by omega,rfl,by rw [hn],by omega,by rw [hn];exact A,S⟩
   | true=>
     rw [hb] at cB
     have hn:=refX_bl (s:=s) hp' (fun _=>hb)
     rw [hL,hw] at hn
     repeat' (first | ((with_reducible refine brC (fun _=>?_) fun _=>?_) <;> try (exfalso;omega)) | (with_reducible apply pcallE.of; · exact cB) | (with_reducible refine And.intro ?_ ?_; · omega) | simp -dsimp -implicitDefEqProofs (disch:=omega) only [↓Q1 18,VCA,Nat.reduceEqDiff,↓reduceIte,reduceCtorEq,e0,e4,e5,hdl])
     refine word_ok (G:=G) (h0:=h) (L:=L) (w:=w) ?_ ?_ ?_ ?_ ?_ ?_ ?_
     ·exact e4
     ·rfl
     ·rfl
     ·omega
     ·exact A
     ·exact S
     intro e' h2 q0 q5 q4 A2 S2
     have q0':e' 0=.str s:=q0.trans e0
     have q5':e' 5=Q3 p:=q5.trans e5
     simp -dsimp -implicitDefEqProofs (disch:=omega) only [VCA,Nat.reduceEqDiff,↓reduceIte,reduceCtorEq,q0',q4,q5']
     exact ⟨_,by omega,p+1,by omega,rfl,by rw [hn],by omega,by rw [hn];exact A2,S2⟩
  ·obtain rfl:p=s.length:=by omega
   have hdl:decide ((s.length:Int)<s.length)=false:=decide_eq_false (by omega)
   have hn:=refX_bl (s:=s) hp' (fun h=>absurd h hlt)
   rw [hL,hw] at hn
   repeat' (first | ((with_reducible refine brC (fun _=>?_) fun _=>?_) <;> try (exfalso;omega)) | (with_reducible refine And.intro ?_ ?_; · omega) | simp -dsimp -implicitDefEqProofs (disch:=omega) only [↓Q1 18,VCA,Nat.reduceEqDiff,↓reduceIte,reduceCtorEq,e0,e4,e5,hdl])
   refine word_ok (G:=G) (h0:=h) (L:=L) (w:=w) ?_ ?_ ?_ ?_ ?_ ?_ ?_
   ·exact e4
   ·rfl
   ·rfl
   ·omega
   ·exact A
   ·exact S
   intro e' h2 q0 q5 q4 A2 S2
   have q0':e' 0=.str s:=q0.trans e0
   have q5':e' 5=Q3 s.length:=q5.trans e5
   simp -dsimp -implicitDefEqProofs (disch:=omega) only [VCA,Nat.reduceEqDiff,↓reduceIte,reduceCtorEq,q0',q4,q5']
   exact ⟨_,by omega,s.length+1,by omega,rfl,by rw [hn],by omega,by rw [hn];exact A2,S2⟩
 ·obtain rfl:p=s.length+1:=by omega
  have hf:refX s (s.length+1)=(XU s,[]):=by unfold refX;rw [if_neg (by omega)]
  rw [hf] at hL
  subst hL
  simp -dsimp -implicitDefEqProofs (disch:=omega) only [VCA,Nat.reduceEqDiff,↓reduceIte]
  exact ⟨_,Sub.refl _,A,S⟩
def cmpI (a b:Int):Int:=if a<b then -1 else if b<a then 1 else 0
def c84:SFun:=⟨.seq (.reg [o 2 (.mv (.c (.bool false)))]) (.seq (.reg [o 3 (.mv (.t 0)),o 4 (.mv (.t 0)),o 5 (.bin .neq (.t 3) (.t 4)),o 2 (.mv (.t 5))]) .ret),[.tmp 2]⟩
theorem hc84:Y3 Tryz.prog {} Tryz.f84=some c84:=by kernel_rfl
theorem isNaN_ok (a:Int):PCalls (Pg G) 84 [Q3 a] (.bool false):=fun h=>by
 refine Q0 Tryz.func84 (by kernel_rfl) hc84 (by rw [Tryz.ntmps84];simp) (by rw [Tryz.ntmps84];decide) ?_
 simp -dsimp -implicitDefEqProofs (disch:=omega) only [VCA,Nat.reduceEqDiff,↓reduceIte,reduceCtorEq,exists_eq_right_right,c84]
 repeat' (first | ((with_reducible refine brC (fun _=>?_) fun _=>?_) <;> try (exfalso;omega)) | (with_reducible refine And.intro ?_ ?_; · omega) | simp -dsimp -implicitDefEqProofs (disch:=omega) only [VCA,pg_gl,↓X6,Nat.reduceEqDiff,Nat.reduceBEq,Nat.reduceAdd,Nat.reduceSub,Nat.reduceMul,Nat.reduceLT,Nat.reduceLeDiff,↓reduceIte,reduceCtorEq,Y8,Z0,SOp.rd,SI.rd,SX.rd,rdL,rdO,rdP,Z7,X4,Y4,K8,X3,Z8,implies_true,forall_const,forall_eq,ne_eq,exists_eq_right_right,exists_eq_right,exists_eq_left,exists_eq_left',J1,Z6,JT])
 all_goals first | exact Sub.refl _ | exact ⟨Sub.refl _,by simp⟩
def c59:SFun:=⟨.seq (.reg [o 4 (.mv (.c (.int .i64 0)))]) (.seq (.reg [o 7 (.mv (.t 0)),o 8 (.pcall 84 [.t 7]),o 5 (.mv (.t 8))]) (.seq (.reg [o 9 (.mv (.t 1)),o 10 (.pcall 84 [.t 9]),o 6 (.mv (.t 10))]) (.seq (.seq (.reg [o 11 (.mv (.t 5))]) (.cond (.t 11) (.seq (.seq (.reg [o 12 (.mv (.t 6))]) (.cond (.t 12) (.seq (.reg [o 4 (.mv (.c (.int .i64 0)))]) .ret) .skip)) (.seq (.reg [o 4 (.mv (.c (.int .i64 (-1))))]) .ret)) .skip)) (.seq (.seq (.reg [o 13 (.mv (.t 6))]) (.cond (.t 13) (.seq (.reg [o 4 (.mv (.c (.int .i64 1)))]) .ret) .skip)) (.seq (.seq (.reg [o 14 (.mv (.t 0)),o 15 (.mv (.t 1)),o 16 (.bin .lss (.t 14) (.t 15))]) (.cond (.t 16) (.seq (.reg [o 4 (.mv (.c (.int .i64 (-1))))]) .ret) .skip)) (.seq (.seq (.reg [o 17 (.mv (.t 0)),o 18 (.mv (.t 1)),o 19 (.bin .gtr (.t 17) (.t 18))]) (.cond (.t 19) (.seq (.reg [o 4 (.mv (.c (.int .i64 1)))]) .ret) .skip)) (.seq (.reg [o 4 (.mv (.c (.int .i64 0)))]) .ret))))))),[.tmp 4]⟩
theorem hc59:Y3 Tryz.prog {pure:=[84]} Tryz.f59=some c59:=by kernel_rfl
theorem cmp_ok (a b:Int):PCalls (Pg G) 59 [Q3 a,Q3 b] (Q3 (cmpI a b)):=fun h=>by
 refine Q0 Tryz.func59 (by kernel_rfl) hc59 (by rw [Tryz.ntmps59];simp) (by rw [Tryz.ntmps59];decide) ?_
 simp -dsimp -implicitDefEqProofs (disch:=omega) only [VCA,↓reduceIte,reduceCtorEq,c59]
 repeat' (first | ((with_reducible refine brC (fun _=>?_) fun _=>?_) <;> try (exfalso;omega)) | (with_reducible apply pcallE.of; · exact isNaN_ok (G:=G) a) | (with_reducible apply pcallE.of; · exact isNaN_ok (G:=G) b) | (with_reducible refine And.intro ?_ ?_; · omega) | simp -dsimp -implicitDefEqProofs (disch:=omega) only [VCA,Nat.reduceEqDiff,↓reduceIte,reduceCtorEq,exists_eq_right_right])
 ·rename_i q;exact ⟨Sub.refl _,by unfold cmpI;rw [if_pos q]⟩
 ·rename_i q1 q;exact ⟨Sub.refl _,by unfold cmpI;rw [if_neg q1,if_pos q]⟩
 ·rename_i q1 q;exact ⟨Sub.refl _,by unfold cmpI;rw [if_neg q1,if_neg q]⟩
abbrev ltS (a b:List UInt8):Bool:=Op.bytesLess a b
theorem YQ:∀ a:List UInt8,ltS a a=false
 | []=>rfl
 | x :: a=>by
   have:=YQ a
   unfold ltS at this ⊢
   unfold Op.bytesLess
   simp [this]
theorem ltS_tri:∀ a b:List UInt8,ltS a b=true\/a=b\/ltS b a=true
 | [],[]=>.inr (.inl rfl)
 | [],_ :: _=>.inl rfl
 | _ :: _,[]=>.inr (.inr rfl)
 | x :: a,y :: b=>by
   unfold ltS
   unfold Op.bytesLess
   simp only [Bool.or_eq_true,Bool.and_eq_true,decide_eq_true_eq,beq_iff_eq,List.cons.injEq]
   rcases Nat.lt_trichotomy x.toNat y.toNat with h | h | h
   ·exact .inl (.inl (UInt8.lt_iff_toNat_lt.2 h))
   ·have e:x=y:=UInt8.toNat_inj.1 h
    rcases ltS_tri a b with h | h | h
    ·exact .inl (.inr ⟨e,h⟩)
    ·exact .inr (.inl ⟨e,h⟩)
    ·exact .inr (.inr (.inr ⟨e.symm,h⟩))
   ·exact .inr (.inr (.inl (UInt8.lt_iff_toNat_lt.2 h)))
theorem ltS_trans:∀ a b c:List UInt8,ltS a b=true->ltS b c=true->ltS a c=true
 | [],[],c,h,_=>by cases h
 | [],_ :: _,[],_,h=>by cases h
 | [],_ :: _,_ :: _,_,_=>rfl
 | _ :: _,[],_,h,_=>by cases h
 | _ :: _,_ :: _,[],_,h=>by cases h
 | x :: a,y :: b,z :: c,h1,h2=>by
   have ih:=ltS_trans a b c
   unfold ltS at h1 h2 ih ⊢
   unfold Op.bytesLess at h1 h2 ⊢
   simp only [Bool.or_eq_true,Bool.and_eq_true,decide_eq_true_eq,beq_iff_eq,UInt8.lt_iff_toNat_lt] at h1 h2 ⊢
   rcases h1 with h1 | ⟨rfl,h1⟩
   ·rcases h2 with h2 | ⟨rfl,h2⟩
    ·left;omega
    ·exact .inl h1
   ·rcases h2 with h2 | ⟨rfl,h2⟩
    ·exact .inl h2
    ·exact .inr ⟨rfl,ih h1 h2⟩
theorem ltS_asym {a b:List UInt8} (h:ltS a b=true):ltS b a=false:=by
 cases h2:ltS b a with
 | false=>rfl
 | true=>have:=ltS_trans a b a h h2;rw [YQ] at this;cases this
def cmpS (a b:List UInt8):Int:=if ltS a b=true then -1 else if a=b then 0 else 1
theorem cmpS_neg {a b:List UInt8}:cmpS a b<0↔ltS a b=true:=by
 unfold cmpS;split
 ·rename_i h;exact ⟨fun _=>h,fun _=>by decide⟩
 ·rename_i h;split <;> exact ⟨fun q=>absurd q (by decide),fun q=>absurd q h⟩
theorem cmpS_zero {a b:List UInt8}:cmpS a b=0↔a=b:=by
 unfold cmpS;split
 ·rename_i h;exact ⟨fun q=>absurd q (by decide),fun q=>by rw [q,YQ] at h;cases h⟩
 ·split
  ·rename_i h;exact ⟨fun _=>h,fun _=>rfl⟩
  ·rename_i h;exact ⟨fun q=>absurd q (by decide),fun q=>absurd q h⟩
theorem cmpZ_neg {a b:Int}:cmpI a b<0↔a<b:=by unfold cmpI; (repeat' split) <;> omega
def c100:SFun:=⟨.seq (.reg [o 2 (.mv (.c (.bool false)))]) (.seq (.reg [o 3 (.mv (.t 0)),o 4 (.mv (.t 0)),o 5 (.bin .neq (.t 3) (.t 4)),o 2 (.mv (.t 5))]) .ret),[.tmp 2]⟩
theorem hc100:Y3 Tryz.prog {} Tryz.f100=some c100:=by kernel_rfl
theorem nanS_ok (a:List UInt8):PCalls (Pg G) 100 [.str a] (.bool false):=fun h=>by
 refine Q0 Tryz.func100 (by kernel_rfl) hc100 (by rw [Tryz.ntmps100];simp) (by rw [Tryz.ntmps100];decide) ?_
 simp -dsimp -implicitDefEqProofs (disch:=omega) only [VCA,Nat.reduceEqDiff,↓reduceIte,reduceCtorEq,exists_eq_right_right,c100]
 exact ⟨Sub.refl _,by simp⟩
def c80:SFun:=⟨.seq (.reg [o 4 (.mv (.c (.int .i64 0)))]) (.seq (.reg [o 7 (.mv (.t 0)),o 8 (.pcall 100 [.t 7]),o 5 (.mv (.t 8))]) (.seq (.reg [o 9 (.mv (.t 1)),o 10 (.pcall 100 [.t 9]),o 6 (.mv (.t 10))]) (.seq (.seq (.reg [o 11 (.mv (.t 5))]) (.cond (.t 11) (.seq (.seq (.reg [o 12 (.mv (.t 6))]) (.cond (.t 12) (.seq (.reg [o 4 (.mv (.c (.int .i64 0)))]) .ret) .skip)) (.seq (.reg [o 4 (.mv (.c (.int .i64 (-1))))]) .ret)) .skip)) (.seq (.seq (.reg [o 13 (.mv (.t 6))]) (.cond (.t 13) (.seq (.reg [o 4 (.mv (.c (.int .i64 1)))]) .ret) .skip)) (.seq (.seq (.reg [o 14 (.mv (.t 0)),o 15 (.mv (.t 1)),o 16 (.bin .lss (.t 14) (.t 15))]) (.cond (.t 16) (.seq (.reg [o 4 (.mv (.c (.int .i64 (-1))))]) .ret) .skip)) (.seq (.seq (.reg [o 17 (.mv (.t 0)),o 18 (.mv (.t 1)),o 19 (.bin .gtr (.t 17) (.t 18))]) (.cond (.t 19) (.seq (.reg [o 4 (.mv (.c (.int .i64 1)))]) .ret) .skip)) (.seq (.reg [o 4 (.mv (.c (.int .i64 0)))]) .ret))))))),[.tmp 4]⟩
theorem hc80:Y3 Tryz.prog {pure:=[100]} Tryz.f80=some c80:=by kernel_rfl
theorem hn80 : (Tryz.f80.name == "runtime.NumGoroutine") = false := by kernel_rfl
theorem cmpS_ok (a b:List UInt8):PCalls (Pg G) 80 [.str a,.str b] (Q3 (cmpS a b)):=fun h=>by
 have n1:=nanS_ok (G:=G) a
 have n2:=nanS_ok (G:=G) b
 rcases ltS_tri a b with h1 | h1 | h1
 ·have d:Op.bytesLess a b=true:=h1
  have e:cmpS a b = -1:=if_pos h1
  rw [e]
  refine Q0 Tryz.func80 hn80 hc80 (by rw [Tryz.ntmps80];simp) (by rw [Tryz.ntmps80];decide) ?_
  simp -dsimp -implicitDefEqProofs (disch:=omega) only [VCA,↓reduceIte,reduceCtorEq,c80]
  repeat' (first | ((with_reducible refine brC (fun _=>?_) fun _=>?_) <;> try (exfalso;omega)) | (with_reducible apply pcallE.of; · exact n1) | (with_reducible apply pcallE.of; · exact n2) | (with_reducible refine And.intro ?_ ?_; · omega) | simp -dsimp -implicitDefEqProofs (disch:=omega) only [VCA,Nat.reduceEqDiff,↓reduceIte,reduceCtorEq,exists_eq_right,d])
  all_goals first | exact Sub.refl _ | trace_state
 ·subst h1
  have d:Op.bytesLess a a=false:=YQ a
  have e:cmpS a a=0:=cmpS_zero.2 rfl
  have e2:(a==a)=true:=by simp
  rw [e]
  refine Q0 Tryz.func80 hn80 hc80 (by rw [Tryz.ntmps80];simp) (by rw [Tryz.ntmps80];decide) ?_
  simp -dsimp -implicitDefEqProofs (disch:=omega) only [VCA,↓reduceIte,reduceCtorEq,c80]
  repeat' (first | ((with_reducible refine brC (fun _=>?_) fun _=>?_) <;> try (exfalso;omega)) | (with_reducible apply pcallE.of; · exact n1) | (with_reducible apply pcallE.of; · exact n2) | (with_reducible refine And.intro ?_ ?_; · omega) | simp -dsimp -implicitDefEqProofs (disch:=omega) only [VCA,Nat.reduceEqDiff,↓reduceIte,reduceCtorEq,exists_eq_right,d,e2])
  all_goals first | exact Sub.refl _ | trace_state
 ·have d:Op.bytesLess a b=false:=ltS_asym h1
  have hne:a≠b:=fun q=>by rw [q,YQ] at h1;cases h1
  have e:cmpS a b=1:=by unfold cmpS;rw [if_neg (by rw [show ltS a b=false from d];decide),if_neg hne]
  have e2:(a==b)=false:=by simpa using hne
  rw [e]
  refine Q0 Tryz.func80 hn80 hc80 (by rw [Tryz.ntmps80];simp) (by rw [Tryz.ntmps80];decide) ?_
  simp -dsimp -implicitDefEqProofs (disch:=omega) only [VCA,↓reduceIte,reduceCtorEq,c80]
  repeat' (first | ((with_reducible refine brC (fun _=>?_) fun _=>?_) <;> try (exfalso;omega)) | (with_reducible apply pcallE.of; · exact n1) | (with_reducible apply pcallE.of; · exact n2) | (with_reducible refine And.intro ?_ ?_; · omega) | simp -dsimp -implicitDefEqProofs (disch:=omega) only [VCA,Nat.reduceEqDiff,↓reduceIte,reduceCtorEq,exists_eq_right,d,e2])
  all_goals first | exact Sub.refl _ | trace_state
theorem cmpI_ok (a b:Int):PCalls (Pg G) 59 [Q3 a,Q3 b] (Q3 (cmpI a b)):=cmp_ok a b
def c78:SFun:=⟨.seq (.reg [o 6 (.mv (.c (.int .i64 0))),o 7 (.mv (.c (.bool false)))]) (.seq (.reg [o 12 (.mv (.t 0)),o 13 (.len (.t 12)),o 8 (.mv (.t 13))]) (.seq (.reg [o 14 (.mv (.t 8)),o 9 (.mv (.c (.int .i64 0))),o 10 (.mv (.t 14))]) (.seq (.block 0 (.loop (.seq (.seq (.reg [o 15 (.mv (.t 9)),o 16 (.mv (.t 10)),o 17 (.bin .lss (.t 15) (.t 16))]) (.cond (.t 17) .skip (.exit 0))) (.block 1 (.seq (.reg [o 18 (.mv (.t 9)),o 19 (.mv (.t 10)),o 20 (.bin .add (.t 18) (.t 19)),o 21 (.cvi .u64 (.t 20)),o 22 (.bin .shr (.t 21) (.c (.int .u64 1))),o 23 (.cvi .i64 (.t 22)),o 11 (.mv (.t 23))]) (.seq (.reg [o 24 (.mv (.t 2)),o 25 (.mv (.t 0)),o 26 (.mv (.t 11)),o 27 (.idxA 2 (.t 25) (.t 26)),o 28 (.ld 2 true (.t 27)),o 29 (.mv (.t 1)),o 30 (.call (.t 24) [.t 28,.t 29]),o 31 (.bin .lss (.t 30) (.c (.int .i64 0)))]) (.cond (.t 31) (.reg [o 32 (.mv (.t 11)),o 33 (.bin .add (.t 32) (.c (.int .i64 1))),o 9 (.mv (.t 33))]) (.reg [o 34 (.mv (.t 11)),o 10 (.mv (.t 34))])))))))) (.seq (.reg [o 35 (.mv (.t 9)),o 36 (.mv (.t 9)),o 37 (.mv (.t 8)),o 38 (.bin .lss (.t 36) (.t 37)),o 39 (.mv (.t 38)),⟨some 40,.mv (.t 2),some (39,true)⟩,⟨some 41,.mv (.t 0),some (39,true)⟩,⟨some 42,.mv (.t 9),some (39,true)⟩,⟨some 43,.idxA 2 (.t 41) (.t 42),some (39,true)⟩,⟨some 44,.ld 2 true (.t 43),some (39,true)⟩,⟨some 45,.mv (.t 1),some (39,true)⟩,⟨some 46,.call (.t 40) [.t 44,.t 45],some (39,true)⟩,⟨some 47,.bin .eql (.t 46) (.c (.int .i64 0)),some (39,true)⟩,o 48 (.pick (.t 39) (.t 47) (.c (.bool false))),o 6 (.mv (.t 35)),o 7 (.mv (.t 48))]) .ret)))),[.tmp 6,.tmp 7]⟩
theorem hc78:Y3 Tryz.prog {} Tryz.f78=some c78:=by kernel_rfl
theorem bsR_ok {h:Q2} {a x:AVal} {n k f:Nat} {A B:List AVal} {row:Nat->List AVal} {c:Nat->Int} (hn:n<=1073741824) (hk:k<=n) (hrl:∀ j,j<n->(row j).length=2)
 (ha:(n=0/\a=.emp) \/ ∃ r ob,a=.osl r 2 0 n/\h r=some ob/\n<=ob.es.length /\ ∀ j,j<n->ob.es.getD j []=row j)
 (hlt:∀ j,j<k->c j<0) (hge:∀ j,k<=j->j<n->0<=c j)
 (hf:∀ j,j<n->DCalls (Pg G) f (A++([.agg (row j),x]++B)) h fun r h'=>r=Q3 (c j)/\h'=h) :
 DCalls (Pg G) 78 [a,x,.fn f A B] h fun r h'=>r=.tup [Q3 k,.bool (decide (k<n)&&c k==0)]/\h'=h:=by
 rcases ha with ⟨rfl,rfl⟩ | ⟨r,ob,rfl,hr,hle,hrow⟩
 ·obtain rfl:k=0:=by omega
  refine Q0 Tryz.func78 (by kernel_rfl) hc78 (by rw [Tryz.ntmps78];simp) (by rw [Tryz.ntmps78];decide) ?_
  simp -dsimp -implicitDefEqProofs (disch:=omega) only [VCA,Nat.reduceEqDiff,Nat.reduceLT,↓reduceIte,reduceCtorEq,c78]
  refine LoopVC.intro (fun m e h'=>m=0/\e 8=Q3 0/\e 9=Q3 0/\e 10=Q3 0/\h'=h) 0 ⟨rfl,rfl,rfl,rfl,rfl⟩ ?_
  rintro m e h' ⟨rfl,e8,e9,e10,rfl⟩
  repeat' (first | ((with_reducible refine brC (fun _=>?_) fun _=>?_) <;> try (exfalso;omega)) | (with_reducible refine And.intro ?_ ?_; · omega) | simp -dsimp -implicitDefEqProofs (disch:=omega) only [↓Q1 39,VCA,Nat.reduceEqDiff,↓reduceIte,exists_eq_right_right,e8,e9,e10])
  exact ⟨Sub.refl _,rfl⟩
 ·refine Q0 Tryz.func78 (by kernel_rfl) hc78 (by rw [Tryz.ntmps78];simp) (by rw [Tryz.ntmps78];decide) ?_
  simp -dsimp -implicitDefEqProofs (disch:=omega) only [VCA,Nat.reduceEqDiff,↓reduceIte,reduceCtorEq,c78]
  refine LoopVC.intro (fun m e h'=>∃ i j:Nat,i<=k/\k<=j/\j<=n/\m=j-i/\e 0=.osl r 2 0 n/\e 1=x/\e 2=.fn f A B/\e 8=Q3 n/\e 9=Q3 i/\e 10=Q3 j/\h'=h) n ⟨0,n,by omega,hk,Nat.le_refl _,by omega,rfl,rfl,rfl,rfl,rfl,rfl,rfl⟩ ?_
  rintro m e h' ⟨i,j,hi,hj,hjn,rfl,e0,e1,e2,e8,e9,e10,rfl⟩
  by_cases hij:i<j
  ·obtain ⟨q,hq⟩:∃ q:Nat,(i+j) / 2=q:=⟨_,rfl⟩
   have hqn:q<n:=by omega
   have hm:IntKind.i64.wrap ((IntKind.u64.wrap ((i:Int)+(j:Int))).fdiv (2 ^ min (Int.toNat 1) IntKind.u64.bits))=(q:Int):=by
    have e1:(2:Int) ^ min (Int.toNat 1) IntKind.u64.bits=2:=rfl
    have e2:IntKind.u64.wrap ((i:Int)+(j:Int))=(i:Int)+(j:Int):=by simp only [IntKind.wrap_u64];omega
    rw [e1,e2,Int.fdiv_eq_ediv_of_nonneg _ (by omega)]
    simp only [IntKind.wrap_i64]
    omega
   have hqt:((q:Nat):Int).toNat=q:=by omega
   have hrq:=hrow q hqn
   have hlq:=hrl q hqn
   have hfq:=hf q hqn
   have d1:decide ((i:Int)<(j:Int))=true:=decide_eq_true (by omega)
   have htk:List.take 2 (row q)=row q:=List.take_of_length_le (by rw [hlq];exact Nat.le_refl _)
   simp -dsimp -implicitDefEqProofs (disch:=omega) only [VCA,Nat.reduceEqDiff,↓reduceIte,reduceCtorEq,exists_eq_left',e0,e1,e2,e9,e10,d1,hm,hqt,hr,hrq,hlq,htk]
   refine ⟨by decide,⟨by omega,by omega⟩,by omega,DCalls.of hfq ?_⟩
   rintro v h2 ⟨rfl,rfl⟩
   by_cases hqk:q<k
   ·have d2:decide (c q<0)=true:=decide_eq_true (hlt q hqk)
    simp -dsimp -implicitDefEqProofs (disch:=omega) only [VCA,Nat.reduceEqDiff,↓reduceIte,reduceCtorEq,e0,e1,e2,e8,e10,d2]
    exact ⟨_,by omega,q+1,j,by omega,hj,hjn,rfl,by omega,by omega⟩
   ·have d2:decide (c q<0)=false:=decide_eq_false (by have:=hge q (by omega) hqn;omega)
    simp -dsimp -implicitDefEqProofs (disch:=omega) only [VCA,Nat.reduceEqDiff,↓reduceIte,reduceCtorEq,e0,e1,e2,e8,e9,d2]
    exact ⟨_,by omega,i,q,hi,by omega,by omega,rfl,by omega,by omega⟩
  ·obtain rfl:i=k:=by omega
   have d1:decide ((i:Int)<(j:Int))=false:=decide_eq_false (by omega)
   by_cases hin:i<n
   ·have d2:decide ((i:Int)<(n:Int))=true:=decide_eq_true (by omega)
    have d3:decide (i<n)=true:=decide_eq_true hin
    have hrq:=hrow i hin
    have hlq:=hrl i hin
    have hfq:=hf i hin
    have htk:List.take 2 (row i)=row i:=List.take_of_length_le (by rw [hlq];exact Nat.le_refl _)
    have hit:((i:Nat):Int).toNat=i:=by omega
    simp -dsimp -implicitDefEqProofs (disch:=omega) only [↓Q1 39,VCA,Nat.reduceEqDiff,↓reduceIte,reduceCtorEq,exists_eq_left',e0,e1,e2,e8,e9,e10,d1,d2,hr,hrq,hlq,htk,hit]
    refine ⟨⟨by omega,by omega⟩,by omega,DCalls.of hfq ?_⟩
    rintro v h2 ⟨rfl,rfl⟩
    repeat' (first | ((with_reducible refine brC (fun _=>?_) fun _=>?_) <;> try (exfalso;omega)) | (with_reducible refine And.intro ?_ ?_; · omega) | simp -dsimp -implicitDefEqProofs (disch:=omega) only [VCA,Nat.reduceEqDiff,↓reduceIte,exists_eq_right_right])
    all_goals first | exact ⟨Sub.refl _,by rw [d3];rfl⟩ | trace_state
   ·have d2:decide ((i:Int)<(n:Int))=false:=decide_eq_false (by omega)
    have d3:decide (i<n)=false:=decide_eq_false hin
    simp -dsimp -implicitDefEqProofs (disch:=omega) only [↓Q1 39,VCA,Nat.reduceEqDiff,↓reduceIte,exists_eq_right_right,e8,e9,e10,d1,d2]
    exact ⟨Sub.refl _,by rw [d3];rfl⟩
def hdD (l:List AVal):AVal:=l.headD .dead
def c57:SFun:=⟨.seq (.reg [o 6 (.mv (.c (.int .i64 0))),o 7 (.mv (.c (.bool false)))]) (.seq (.reg [o 12 (.mv (.t 0)),o 13 (.len (.t 12)),o 8 (.mv (.t 13))]) (.seq (.reg [o 14 (.mv (.t 8)),o 9 (.mv (.c (.int .i64 0))),o 10 (.mv (.t 14))]) (.seq (.block 0 (.loop (.seq (.seq (.reg [o 15 (.mv (.t 9)),o 16 (.mv (.t 10)),o 17 (.bin .lss (.t 15) (.t 16))]) (.cond (.t 17) .skip (.exit 0))) (.block 1 (.seq (.reg [o 18 (.mv (.t 9)),o 19 (.mv (.t 10)),o 20 (.bin .add (.t 18) (.t 19)),o 21 (.cvi .u64 (.t 20)),o 22 (.bin .shr (.t 21) (.c (.int .u64 1))),o 23 (.cvi .i64 (.t 22)),o 11 (.mv (.t 23))]) (.seq (.reg [o 24 (.mv (.t 2)),o 25 (.mv (.t 0)),o 26 (.mv (.t 11)),o 27 (.idxA 1 (.t 25) (.t 26)),o 28 (.ld 1 false (.t 27)),o 29 (.mv (.t 1)),o 30 (.call (.t 24) [.t 28,.t 29]),o 31 (.bin .lss (.t 30) (.c (.int .i64 0)))]) (.cond (.t 31) (.reg [o 32 (.mv (.t 11)),o 33 (.bin .add (.t 32) (.c (.int .i64 1))),o 9 (.mv (.t 33))]) (.reg [o 34 (.mv (.t 11)),o 10 (.mv (.t 34))])))))))) (.seq (.reg [o 35 (.mv (.t 9)),o 36 (.mv (.t 9)),o 37 (.mv (.t 8)),o 38 (.bin .lss (.t 36) (.t 37)),o 39 (.mv (.t 38)),⟨some 40,.mv (.t 2),some (39,true)⟩,⟨some 41,.mv (.t 0),some (39,true)⟩,⟨some 42,.mv (.t 9),some (39,true)⟩,⟨some 43,.idxA 1 (.t 41) (.t 42),some (39,true)⟩,⟨some 44,.ld 1 false (.t 43),some (39,true)⟩,⟨some 45,.mv (.t 1),some (39,true)⟩,⟨some 46,.call (.t 40) [.t 44,.t 45],some (39,true)⟩,⟨some 47,.bin .eql (.t 46) (.c (.int .i64 0)),some (39,true)⟩,o 48 (.pick (.t 39) (.t 47) (.c (.bool false))),o 6 (.mv (.t 35)),o 7 (.mv (.t 48))]) .ret)))),[.tmp 6,.tmp 7]⟩
theorem hc57:Y3 Tryz.prog {} Tryz.f57=some c57:=by kernel_rfl
theorem bsI_ok {h:Q2} {a x:AVal} {n k f:Nat} {A B:List AVal} {row:Nat->List AVal} {c:Nat->Int} (hn:n<=1073741824) (hk:k<=n) (hrl:∀ j,j<n->(row j).length=1)
 (ha:(n=0/\a=.emp) \/ ∃ r ob,a=.osl r 1 0 n/\h r=some ob/\n<=ob.es.length /\ ∀ j,j<n->ob.es.getD j []=row j)
 (hlt:∀ j,j<k->c j<0) (hge:∀ j,k<=j->j<n->0<=c j)
 (hf:∀ j,j<n->DCalls (Pg G) f (A++([hdD (row j),x]++B)) h fun r h'=>r=Q3 (c j)/\h'=h) :
 DCalls (Pg G) 57 [a,x,.fn f A B] h fun r h'=>r=.tup [Q3 k,.bool (decide (k<n)&&c k==0)]/\h'=h:=by
 rcases ha with ⟨rfl,rfl⟩ | ⟨r,ob,rfl,hr,hle,hrow⟩
 ·obtain rfl:k=0:=by omega
  refine Q0 Tryz.func57 (by kernel_rfl) hc57 (by rw [Tryz.ntmps57];simp) (by rw [Tryz.ntmps57];decide) ?_
  simp -dsimp -implicitDefEqProofs (disch:=omega) only [VCA,Nat.reduceEqDiff,Nat.reduceLT,↓reduceIte,reduceCtorEq,c57]
  refine LoopVC.intro (fun m e h'=>m=0/\e 8=Q3 0/\e 9=Q3 0/\e 10=Q3 0/\h'=h) 0 ⟨rfl,rfl,rfl,rfl,rfl⟩ ?_
  rintro m e h' ⟨rfl,e8,e9,e10,rfl⟩
  repeat' (first | ((with_reducible refine brC (fun _=>?_) fun _=>?_) <;> try (exfalso;omega)) | (with_reducible refine And.intro ?_ ?_; · omega) | simp -dsimp -implicitDefEqProofs (disch:=omega) only [↓Q1 39,VCA,Nat.reduceEqDiff,↓reduceIte,exists_eq_right_right,e8,e9,e10])
  exact ⟨Sub.refl _,rfl⟩
 ·refine Q0 Tryz.func57 (by kernel_rfl) hc57 (by rw [Tryz.ntmps57];simp) (by rw [Tryz.ntmps57];decide) ?_
  simp -dsimp -implicitDefEqProofs (disch:=omega) only [VCA,Nat.reduceEqDiff,↓reduceIte,reduceCtorEq,c57]
  refine LoopVC.intro (fun m e h'=>∃ i j:Nat,i<=k/\k<=j/\j<=n/\m=j-i/\e 0=.osl r 1 0 n/\e 1=x/\e 2=.fn f A B/\e 8=Q3 n/\e 9=Q3 i/\e 10=Q3 j/\h'=h) n ⟨0,n,by omega,hk,Nat.le_refl _,by omega,rfl,rfl,rfl,rfl,rfl,rfl,rfl⟩ ?_
  rintro m e h' ⟨i,j,hi,hj,hjn,rfl,e0,e1,e2,e8,e9,e10,rfl⟩
  by_cases hij:i<j
  ·obtain ⟨q,hq⟩:∃ q:Nat,(i+j) / 2=q:=⟨_,rfl⟩
   have hqn:q<n:=by omega
   have hm:IntKind.i64.wrap ((IntKind.u64.wrap ((i:Int)+(j:Int))).fdiv (2 ^ min (Int.toNat 1) IntKind.u64.bits))=(q:Int):=by
    have e1:(2:Int) ^ min (Int.toNat 1) IntKind.u64.bits=2:=rfl
    have e2:IntKind.u64.wrap ((i:Int)+(j:Int))=(i:Int)+(j:Int):=by simp only [IntKind.wrap_u64];omega
    rw [e1,e2,Int.fdiv_eq_ediv_of_nonneg _ (by omega)]
    simp only [IntKind.wrap_i64]
    omega
   have hqt:((q:Nat):Int).toNat=q:=by omega
   have hrq:=hrow q hqn
   have hlq:=hrl q hqn
   have hfq:=hf q hqn
   have d1:decide ((i:Int)<(j:Int))=true:=decide_eq_true (by omega)
   have htk:List.take 1 (row q)=row q:=List.take_of_length_le (by rw [hlq];exact Nat.le_refl _)
   simp -dsimp -implicitDefEqProofs (disch:=omega) only [VCA,Nat.reduceEqDiff,↓reduceIte,reduceCtorEq,exists_eq_left',e0,e1,e2,e9,e10,d1,hm,hqt,hr,hrq,hlq]
   refine ⟨by decide,⟨by omega,by omega⟩,by omega,DCalls.of hfq ?_⟩
   rintro v h2 ⟨rfl,rfl⟩
   by_cases hqk:q<k
   ·have d2:decide (c q<0)=true:=decide_eq_true (hlt q hqk)
    simp -dsimp -implicitDefEqProofs (disch:=omega) only [VCA,Nat.reduceEqDiff,↓reduceIte,reduceCtorEq,e0,e1,e2,e8,e10,d2]
    exact ⟨_,by omega,q+1,j,by omega,hj,hjn,rfl,by omega,by omega⟩
   ·have d2:decide (c q<0)=false:=decide_eq_false (by have:=hge q (by omega) hqn;omega)
    simp -dsimp -implicitDefEqProofs (disch:=omega) only [VCA,Nat.reduceEqDiff,↓reduceIte,reduceCtorEq,e0,e1,e2,e8,e9,d2]
    exact ⟨_,by omega,i,q,hi,by omega,by omega,rfl,by omega,by omega⟩
  ·obtain rfl:i=k:=by omega
   have d1:decide ((i:Int)<(j:Int))=false:=decide_eq_false (by omega)
   by_cases hin:i<n
   ·have d2:decide ((i:Int)<(n:Int))=true:=decide_eq_true (by omega)
    have d3:decide (i<n)=true:=decide_eq_true hin
    have hrq:=hrow i hin
    have hlq:=hrl i hin
    have hfq:=hf i hin
    have htk:List.take 1 (row i)=row i:=List.take_of_length_le (by rw [hlq];exact Nat.le_refl _)
    have hit:((i:Nat):Int).toNat=i:=by omega
    simp -dsimp -implicitDefEqProofs (disch:=omega) only [↓Q1 39,VCA,Nat.reduceEqDiff,↓reduceIte,reduceCtorEq,exists_eq_left',e0,e1,e2,e8,e9,e10,d1,d2,hr,hrq,hlq,hit]
    refine ⟨⟨by omega,by omega⟩,by omega,DCalls.of hfq ?_⟩
    rintro v h2 ⟨rfl,rfl⟩
    repeat' (first | ((with_reducible refine brC (fun _=>?_) fun _=>?_) <;> try (exfalso;omega)) | (with_reducible refine And.intro ?_ ?_; · omega) | simp -dsimp -implicitDefEqProofs (disch:=omega) only [VCA,Nat.reduceEqDiff,↓reduceIte,exists_eq_right_right])
    all_goals first | exact ⟨Sub.refl _,by rw [d3];rfl⟩ | trace_state
   ·have d2:decide ((i:Int)<(n:Int))=false:=decide_eq_false (by omega)
    have d3:decide (i<n)=false:=decide_eq_false hin
    simp -dsimp -implicitDefEqProofs (disch:=omega) only [↓Q1 39,VCA,Nat.reduceEqDiff,↓reduceIte,exists_eq_right_right,e8,e9,e10,d1,d2]
    exact ⟨Sub.refl _,by rw [d3];rfl⟩
def c79:SFun:=⟨.seq (.reg [o 2 (.boxF 87 2 (.t 0)),o 4 (.mv (.c (.int .i64 0)))]) (.seq (.reg [o 5 (.fldA 0 (.t 2)),o 6 (.ld 1 false (.t 5)),o 7 (.mv (.t 1)),o 8 (.pcall 80 [.t 6,.t 7]),o 4 (.mv (.t 8))]) .ret),[.tmp 4]⟩
theorem hc79:Y3 Tryz.prog {pure:=[80]} Tryz.f79=some c79:=by kernel_rfl
theorem ixFind1_ok {h:Q2} (x w:List UInt8) (nv:AVal):DCalls (Pg G) 79 [.agg [.str x,nv],.str w] h fun r h'=>r=Q3 (cmpS x w)/\h'=h:=by
 have cC:=cmpS_ok (G:=G) x w
 refine Q0 Tryz.func79 (by kernel_rfl) hc79 (by rw [Tryz.ntmps79];simp) (by rw [Tryz.ntmps79];decide) ?_
 simp -dsimp -implicitDefEqProofs (disch:=omega) only [VCA,Nat.reduceEqDiff,Nat.reduceAdd,Nat.reduceLeDiff,↓reduceIte,c79]
 repeat' (first | ((with_reducible refine brC (fun _=>?_) fun _=>?_) <;> try (exfalso;omega)) | (with_reducible apply pcallE.of; · exact cC) | (with_reducible refine And.intro ?_ ?_; · omega) | simp -dsimp -implicitDefEqProofs (disch:=omega) only [VCA,↓reduceIte,exists_eq_right])
 all_goals first | exact Sub.refl _ | trace_state
def LstAt (h:Q2) (sz:Nat) (a:AVal) (n:Nat) (row:Nat->List AVal):Prop:=(n=0/\a=.emp) \/ ∃ r ob,a=.osl r sz 0 n/\h r=some ob/\n<=ob.es.length /\ ∀ j,j<n->ob.es.getD j []=row j
def c52:SFun:=⟨.seq (.reg [o 4 (.mv (.c (.int .i64 0))),o 5 (.mv (.c (.bool false)))]) (.seq (.reg [o 6 (.mv (.t 0)),o 7 (.mv (.t 1)),o 8 (.call (.c (.fn 78 [] [])) [.t 6,.t 7,.c (.fn 79 [] [])]),o 9 (.ext (.t 8) 0),o 10 (.ext (.t 8) 1),o 4 (.mv (.t 9)),o 5 (.mv (.t 10))]) .ret),[.tmp 4,.tmp 5]⟩
theorem hc52:Y3 Tryz.prog {} Tryz.f52=some c52:=by kernel_rfl
theorem ixFind_ok {h:Q2} {a:AVal} {n k:Nat} {W:Nat->List UInt8} {nv:Nat->AVal} (w:List UInt8) (hn:n<=1073741824) (hk:k<=n) (ha:LstAt h 2 a n fun j=>[.str (W j),nv j])
 (hlt:∀ j,j<k->ltS (W j) w=true) (hge:∀ j,k<=j->j<n->ltS (W j) w=false) :
 DCalls (Pg G) 52 [a,.str w] h fun r h'=>r=.tup [Q3 k,.bool (decide (k<n/\W k=w))]/\h'=h:=by
 have hB:=bsR_ok (G:=G) (h:=h) (a:=a) (x:=.str w) (n:=n) (k:=k) (f:=79) (A:=[]) (B:=[]) (row:=fun j=>[.str (W j),nv j]) (c:=fun j=>cmpS (W j) w) hn hk (fun _ _=>rfl) ha
  (fun j hj=>cmpS_neg.2 (hlt j hj)) (fun j h1 h2=>by
    have h3:=hge j h1 h2
    refine Int.not_lt.1 fun hc=>?_
    rw [cmpS_neg.1 hc] at h3;cases h3) (fun j _=>ixFind1_ok (W j) w (nv j))
 have e1:(decide (k<n)&&cmpS (W k) w==0)=decide (k<n/\W k=w):=by
  rw [Bool.eq_iff_iff];simp only [Bool.and_eq_true,decide_eq_true_eq,beq_iff_eq,cmpS_zero]
 refine Q0 Tryz.func52 (by kernel_rfl) hc52 (by rw [Tryz.ntmps52];simp) (by rw [Tryz.ntmps52];decide) ?_
 simp -dsimp -implicitDefEqProofs (disch:=omega) only [VCA,Nat.reduceEqDiff,↓reduceIte,reduceCtorEq,c52]
 refine DCalls.of hB ?_
 rintro v h' ⟨rfl,rfl⟩
 simp -dsimp -implicitDefEqProofs (disch:=omega) only [VCA,Nat.reduceEqDiff,Nat.reduceAdd,Nat.reduceLT,↓reduceIte,exists_eq_right,e1]
 exact Sub.refl _
end Go.Proofs.K
end
section
set_option linter.unusedSimpArgs false
set_option linter.unusedVariables false
namespace Go.Proofs.K
open Go Go.Proofs Go.Shelf Go.RowKit Go.Lib
section
variable {P:Program} {ρ:Ren}
noncomputable def bodyI (ρ:Ren) (nm:String):Func:={ Body2.n22 ρ with name:=nm }
theorem bodyI_ntmps (ρ:Ren) (nm:String):(bodyI ρ nm).ntmps=95:=rfl
theorem copyN (w:World) (dT sT ty elem:TypeId) (b o dLen dCap:Nat) (a:Addr) (sLen sCap k sz:Nat) (cs:List Value)
 (hu:P.underlying dT=some (.slice elem)) (hs:(P.info? elem).map (·.size)=some sz) (hk:Nat.min sLen dLen=k) (hn:cs.length=k*sz)
 (hsrc:∀ j v,cs[j]? = some v->w.cell? (a.add j)=some v) (hc:∀ j,j<cs.length->(w.cell? ⟨b,o+j,none⟩).isSome=true) (hf:∀ j,j<cs.length->w.frozen? ⟨b,o+j,none⟩=false) (h1:∀ v∈cs,v.oneCell'=true) :
 (Builtin.copy_ #[dT,sT] ty #[.slice (some ⟨b,o,none⟩) dLen dCap,.slice (some a) sLen sCap]).run P w=.ok (goInt k) (w.setCells b o cs):=by
 have hl:=run_loadCells_list (P:=P) w a cs hsrc
 have hst:=run_storeCells_cells (P:=P) b o cs 0 w (by simpa using hc) (by simpa using hf) h1
 cases hq:P.info? elem with
 | none=>simp [hq] at hs
 | some i=>
   have hi:i.size=sz:=by simpa [hq] using hs
   rw [hn] at hl
   simp [Builtin.copy_,run_underlying hu,Builtin.lenOf,Builtin.firstCells,sizeOf,typeInfo,hq,hi,hk,hl,hst]
structure LayI2 (P:Program) (ρ:Ren) (nm:String) (bytes:Nat) (z:Value):Prop where
 mixed:P.follows .mixedOrders=true
 f22:P.funcs[ρ.f 22]? = some (bodyI ρ nm)
 ov:∀ args w,(callFunc (ρ.f 29) args).run P w=((Extern.SlicesOverlaps.overlaps #[(ρ.t 24),(ρ.t 24)] #[(ρ.t 4)] args).run P w).andThen fun v w'=>.ok (.value v) w'
 t0:P.underlying (ρ.t 0)=some (TypeDesc.tuple #[])
 a0:∀ w,(isAgg (ρ.t 0)).run P w=.ok false w
 z0:∀ w,(Go.sizeOf (ρ.t 0)).run P w=.ok 1 w
 v0:∀ w,(zeroValue (ρ.t 0)).run P w=.ok (Value.tuple #[]) w
 t3:P.underlying (ρ.t 3)=some (TypeDesc.int IntKind.i64)
 a3:∀ w,(isAgg (ρ.t 3)).run P w=.ok false w
 z3:∀ w,(Go.sizeOf (ρ.t 3)).run P w=.ok 1 w
 v3:∀ w,(zeroValue (ρ.t 3)).run P w=.ok (Value.int IntKind.i64 0) w
 t4:P.underlying (ρ.t 4)=some (TypeDesc.bool)
 a4:∀ w,(isAgg (ρ.t 4)).run P w=.ok false w
 z4:∀ w,(Go.sizeOf (ρ.t 4)).run P w=.ok 1 w
 v4:∀ w,(zeroValue (ρ.t 4)).run P w=.ok (Value.bool false) w
 z9:∀ w,(Go.sizeOf (ρ.t 9)).run P w=.ok 2 w
 t24:P.underlying (ρ.t 24)=some (TypeDesc.slice (ρ.t 9))
 a24:∀ w,(isAgg (ρ.t 24)).run P w=.ok false w
 z24:∀ w,(Go.sizeOf (ρ.t 24)).run P w=.ok 1 w
 v24:∀ w,(zeroValue (ρ.t 24)).run P w=.ok (Value.slice none 0 0) w
 i9:(P.info? (ρ.t 9)).map (fun i=>(i.zero,i.size,i.bytes))=some (some z,2,bytes)
theorem insShift2 {nm:String} {bytes:Nat} {z:Value} (L:LayI2 P ρ nm bytes z) (b off n c i vb voff m vc:Nat) (cs vs:List Value) (w:World) (hi:i<n) (hm:0<m) (hroom:n+m<=c) (hc63:c<=9223372036854775807) (hvb:vb≠b)
 (hcl:cs.length=n*2) (hvl:vs.length=m*2)
 (hcs:∀ j v,cs[j]? = some v->w.cell? ⟨b,off+j,none⟩=some v) (hsp:∀ j,j<(n+m)*2->(w.cell? ⟨b,off+j,none⟩).isSome=true) (hfz:∀ j,j<(n+m)*2->w.frozen? ⟨b,off+j,none⟩=false)
 (hvs:∀ j v,vs[j]? = some v->w.cell? ⟨vb,voff+j,none⟩=some v) (h1c:∀ v∈cs,v.oneCell'=true) (h1v:∀ v∈vs,v.oneCell'=true)
 (tA tB:TypeId) (kA kB:Nat) (hsa:w.shape? vb=some (tA,kA)) (hsb:w.shape? b=some (tB,kB)) (hkB:kB≠0) (hfa:w.frozen? ⟨vb,voff,none⟩=false) (hfe:w.frozen? ⟨vb,kA,none⟩=false) :
 Calls P (ρ.f 22) #[.slice (some ⟨b,off,none⟩) n c,.int .i64 i,.slice (some ⟨vb,voff,none⟩) m vc] w fun e w'=>
  e=.returned (.slice (some ⟨b,off,none⟩) (n+m) c)/\w'=(w.drew.setCells b (off+(i+m)*2) (cs.drop (i*2))).setCells b (off+i*2) vs:=by
 have t0:=L.t0;have a0:=L.a0;have z0:=L.z0;have v0:=L.v0;have t3:=L.t3;have a3:=L.a3;have z3:=L.z3;have v3:=L.v3;have t4:=L.t4;have a4:=L.a4;have z4:=L.z4;have v4:=L.v4;have z9:=L.z9;have t24:=L.t24;have a24:=L.a24;have z24:=L.z24;have v24:=L.v24
 have u0:=run_underlying L.t0;have u3:=run_underlying L.t3;have u4:=run_underlying L.t4;have u24:=run_underlying L.t24
 have hz1:¬ ((m:Int)=0):=by omega
 have hz2:¬ ((i:Int)=(n:Int)):=by omega
 have hsz:(P.info? (ρ.t 9)).map (·.size)=some 2:=by
  obtain ⟨i0,hi0,h0,h1,h2⟩:=info_parts L.i9
  rw [hi0];simp [h1]
 have hov:∀ lb cb,(callFunc (ρ.f 29) #[.slice (some ⟨vb,voff,none⟩) m vc,.slice (some ⟨b,off+(i+m)*2,none⟩) lb cb]).run P w=.ok (.value (.bool false)) w:=fun lb cb=>by
  rw [L.ov,
   Lib.run_overlaps_apart w (ρ.t 24) (ρ.t 4) (ρ.t 9) L.t24 2 L.z9 ⟨vb,voff,none⟩ ⟨b,off+(i+m)*2,none⟩ m vc lb cb hvb tA tB kA kB hsa hsb hkB hfa hfe]
  rfl
 have hdl:(cs.drop (i*2)).length=(n-i)*2:=by rw [List.length_drop,hcl];omega
 have mixed:=L.mixed
 have hw1:IntKind.i64.wrap ((i:Int)+(m:Int))=(i:Int)+(m:Int):=by rw [IntKind.wrap_i64];omega
 have hb1:(0:Int)<=(i:Int)+(m:Int):=by omega
 have hin:i<=n:=by omega
 have htn:((i:Int)+(m:Int)).toNat=i+m:=by omega
 have hb2:¬ (c=i+m):=by omega
 have hb3:(i:Int)<=(n:Int)+(m:Int):=by omega
 have hb4:¬ (c=i):=by omega
 have hcp1:∀ ty dc sc,(Builtin.copy_ #[(ρ.t 24),(ρ.t 24)] ty #[.slice (some ⟨b,off+(i+m)*2,none⟩) (n+m-(i+m)) dc,.slice (some ⟨b,off+i*2,none⟩) (n+m-i) sc]).run P w.drew=.ok (goInt ((n-i:Nat):Int)) (w.drew.setCells b (off+(i+m)*2) (cs.drop (i*2))):=fun ty dc sc=>
  copyN w.drew _ _ ty (ρ.t 9) b (off+(i+m)*2) (n+m-(i+m)) dc ⟨b,off+i*2,none⟩ (n+m-i) sc (n-i) 2 (cs.drop (i*2)) L.t24 hsz (by simp only [Nat.min_def];split <;> omega) hdl
   (fun j v hj=>by rw [Addr.add_lit,Nat.add_assoc];exact hcs (i*2+j) v (by rwa [List.getElem?_drop] at hj))
   (fun j hj=>by rw [Nat.add_assoc];exact hsp _ (by omega)) (fun j hj=>by rw [Nat.add_assoc];exact hfz _ (by omega)) (fun v hv=>h1c v (List.mem_of_mem_drop hv))
 obtain ⟨W1,hW1⟩:∃ W1,W1=w.drew.setCells b (off+(i+m)*2) (cs.drop (i*2)):=⟨_,rfl⟩
 have hsp1:∀ k,k<(n+m)*2->(W1.cell? ⟨b,off+k,none⟩).isSome=true:=fun k hk=>by
  rw [hW1]
  exact isSome_setCells b _ _ _ (fun j hj=>by rw [Nat.add_assoc];exact hsp _ (by omega)) _ (hsp k hk)
 have hcp2:∀ (W:World),(∀ x,W.cell? x=W1.cell? x)->(∀ x,W.frozen? x=W1.frozen? x) -> ∀ ty dc,(Builtin.copy_ #[(ρ.t 24),(ρ.t 24)] ty #[.slice (some ⟨b,off+i*2,none⟩) (n+m-i) dc,.slice (some ⟨vb,voff,none⟩) m vc]).run P W=.ok (goInt m) (W.setCells b (off+i*2) vs):=fun W hWc hWf ty dc=>
  copyN W _ _ ty (ρ.t 9) b (off+i*2) (n+m-i) dc ⟨vb,voff,none⟩ m vc m 2 vs L.t24 hsz (by simp only [Nat.min_def];split <;> omega) hvl
   (fun j v hj=>by
     rw [Addr.add_lit,hWc,hW1,World.cell?_setCells_out b _ _ _ _ (fun h _=>absurd h hvb)]
     exact hvs j v hj)
   (fun j hj=>by rw [hWc,Nat.add_assoc];exact hsp1 _ (by omega)) (fun j hj=>by rw [hWf,hW1,World.frozen?_setCells,Nat.add_assoc];exact hfz _ (by omega)) h1v
 rw [<-hW1] at hcp1
 go_enter L.f22,bodyI_ntmps ρ nm
 go_wp2_with (simp only [hov])
 go_region_law_o (refine step_copy_runI rfl _ _ (ρ.t 24) (ρ.t 24) rfl _ _ (by simp [Act.eval,Act.put]) (by simp [Act.eval,Act.put]) (hcp1 _ _ _) ?_)
 go_wp2_with (at_builtin;refine wpList_copy_runI _ rfl _ _ (ρ.t 24) (ρ.t 24) rfl _ _ rfl rfl (hcp2 _ (fun _=>rfl) (fun _=>rfl) _ _) ?_)
 go_ret
 first | exact ⟨rfl,rfl⟩ | exact ⟨rfl,by rw [hW1]⟩
theorem insEndRoom2 {nm:String} {bytes:Nat} {z:Value} (L:LayI2 P ρ nm bytes z) (b off n c vb voff m vc:Nat) (vs:List Value) (w:World) (hm:0<m) (hroom:n+m<=c) (hc63:c<=9223372036854775807)
 (hvl:vs.length=m*2) (hsp:∀ j,j<m*2->(w.cell? ⟨b,off+n*2+j,none⟩).isSome=true) (hfz:∀ j,j<m*2->w.frozen? ⟨b,off+n*2+j,none⟩=false)
 (hvs:∀ j v,vs[j]? = some v->w.cell? ⟨vb,voff+j,none⟩=some v) (h1v:∀ v∈vs,v.oneCell'=true) :
 Calls P (ρ.f 22) #[.slice (some ⟨b,off,none⟩) n c,.int .i64 n,.slice (some ⟨vb,voff,none⟩) m vc] w fun e w'=>
  e=.returned (.slice (some ⟨b,off,none⟩) (n+m) c)/\w'=w.setCells b (off+n*2) vs:=by
 have t0:=L.t0;have a0:=L.a0;have z0:=L.z0;have v0:=L.v0;have t3:=L.t3;have a3:=L.a3;have z3:=L.z3;have v3:=L.v3;have t4:=L.t4;have a4:=L.a4;have z4:=L.z4;have v4:=L.v4;have z9:=L.z9;have t24:=L.t24;have a24:=L.a24;have z24:=L.z24;have v24:=L.v24
 have u0:=run_underlying L.t0;have u3:=run_underlying L.t3;have u4:=run_underlying L.t4;have u24:=run_underlying L.t24
 have mixed:=L.mixed
 obtain ⟨i0,hi0,hzz,hzs,hzb⟩:=info_parts L.i9
 have hz1:¬ ((m:Int)=0):=by omega
 have hsrc:Src P i0.size (ρ.t 24) (.slice (some ⟨vb,voff,none⟩) m vc) m vs w:=by
  rw [hzs];exact Src.ofSlice w L.t24 ⟨vb,voff,none⟩ m vc vs hvl (fun j u hj=>by rw [Addr.add_lit];exact hvs j u hj) h1v
 go_enter L.f22,bodyI_ntmps ρ nm
 go_wp2_with (at_builtin;refine wpList_append_room_src _ rfl _ _ (ρ.t 24) (ρ.t 24) rfl (ρ.t 9) i0 L.t24 hi0 b off n c rfl _ rfl m vs hsrc hroom (by rw [hvl,hzs];exact hsp) (by rw [hvl,hzs];exact hfz) ?_)
 go_ret
 first | exact ⟨rfl,rfl⟩ | exact ⟨rfl,by rw [hzs]⟩
theorem insEndGrow2 {nm:String} {bytes:Nat} {z:Value} (L:LayI2 P ρ nm bytes z) (base:Option Addr) (n c vb voff m vc:Nat) (cs vs:List Value) (w:World) (hm:0<m) (hnc:n<=c) (hroom:c<n+m) (h63:n+m<=9223372036854775807) (hbig:(n+m)*bytes<=140737488355328)
 (hcl:cs.length=n*2) (hvl:vs.length=m*2) (hnil:base=none->n=0)
 (hcs:∀ a,base=some a -> ∀ j v,cs[j]? = some v->w.cell? (a.add j)=some v)
 (hvs:∀ j v,vs[j]? = some v->w.cell? ⟨vb,voff+j,none⟩=some v) (h1v:∀ v∈vs,v.oneCell'=true) :
 Calls P (ρ.f 22) #[.slice base n c,.int .i64 n,.slice (some ⟨vb,voff,none⟩) m vc] w fun e w'=>
  e=.returned (.slice (some ⟨w.heap.size,0,none⟩) (n+m) (grownCap w (n+m) c (ρ.t 9))) /\
  w'=w.drew.alloc (.cells ((cs++vs).toArray++Builtin.zeroCells z.cells (grownCap w (n+m) c (ρ.t 9)-(n+m))) (ρ.t 9)):=by
 have t0:=L.t0;have a0:=L.a0;have z0:=L.z0;have v0:=L.v0;have t3:=L.t3;have a3:=L.a3;have z3:=L.z3;have v3:=L.v3;have t4:=L.t4;have a4:=L.a4;have z4:=L.z4;have v4:=L.v4;have z9:=L.z9;have t24:=L.t24;have a24:=L.a24;have z24:=L.z24;have v24:=L.v24
 have u0:=run_underlying L.t0;have u3:=run_underlying L.t3;have u4:=run_underlying L.t4;have u24:=run_underlying L.t24
 have mixed:=L.mixed
 obtain ⟨i0,hi0,hzz,hzs,hzb⟩:=info_parts L.i9
 have hz1:¬ ((m:Int)=0):=by omega
 have hsrc:Src P i0.size (ρ.t 24) (.slice (some ⟨vb,voff,none⟩) m vc) m vs w:=by
  rw [hzs]
  exact Src.ofSlice w L.t24 ⟨vb,voff,none⟩ m vc vs hvl (fun j u hj=>by rw [Addr.add_lit];exact hvs j u hj) h1v
 have hold:(Builtin.firstCells i0.size n (.slice base n c)).run P w.drew=.ok cs.toArray w.drew:=by
  rw [hzs]
  cases base with
  | none=>
    have h0:=hnil rfl
    subst h0
    rw [List.length_eq_zero_iff.1 (hcl.trans (Nat.zero_mul _))]
    exact run_firstCells_none w.drew 2 0 0 c
  | some a=>exact run_firstCells_some w.drew 2 n a n c cs hcl (fun j v hj=>hcs a rfl j v hj)
 have hrun:∀ ty,(Builtin.append_ #[(ρ.t 24),(ρ.t 24)] ty #[.slice base n c,.slice (some ⟨vb,voff,none⟩) m vc]).run P w=_:=fun ty=>
  run_append_grow_src w (ρ.t 24) (ρ.t 24) ty (ρ.t 9) i0 _ L.t24 hi0 hzz base n c cs hold _ m vs hsrc hroom (by omega) (by rw [hzb];exact growslice_fits hroom hbig)
 generalize z.cells=zc at *
 go_enter L.f22,bodyI_ntmps ρ nm
 cases base with
 | none=>
   have h0:=hnil rfl
   subst h0
   go_wp2_with (at_builtin;refine Lib.wpList_append_run _ rfl _ _ _ _ rfl _ _ rfl rfl _ _ (hrun _) ?_)
   go_ret
   exact ⟨rfl,rfl⟩
 | some a=>
   obtain ⟨ab,ao,asp⟩:=a
   go_wp2_with (at_builtin;refine Lib.wpList_append_run _ rfl _ _ _ _ rfl _ _ rfl rfl _ _ (hrun _) ?_)
   all_goals (go_ret;exact ⟨rfl,rfl⟩)
theorem insGrow2 {nm:String} {bytes:Nat} {z:Value} (L:LayI2 P ρ nm bytes z) (hzc:z.cells.size=2) (b off n c i vb voff m vc:Nat) (cs vs:List Value) (w:World) (hi:i<n) (hm:0<m) (hnc:n<=c) (hroom:c<n+m) (h63:n+m<=4294967296) (hbig:(n+m)*bytes<=140737488355328)
 (hcl:cs.length=n*2) (hvl:vs.length=m*2)
 (hcs:∀ j v,cs[j]? = some v->w.cell? ⟨b,off+j,none⟩=some v)
 (hvs:∀ j v,vs[j]? = some v->w.cell? ⟨vb,voff+j,none⟩=some v) (h1c:∀ v∈cs,v.oneCell'=true) (h1v:∀ v∈vs,v.oneCell'=true) :
 Calls P (ρ.f 22) #[.slice (some ⟨b,off,none⟩) n c,.int .i64 i,.slice (some ⟨vb,voff,none⟩) m vc] w fun e w'=>
  e=.returned (.slice (some ⟨w.heap.size,0,none⟩) (n+m) (grownCap w (n+m) c (ρ.t 9))) /\
  w'=(((w.alloc (.cells ((cs.take (i*2)).toArray++Builtin.zeroCells z.cells (n+m-i)++Builtin.zeroCells z.cells (grownCap w (n+m) c (ρ.t 9)-(n+m))) (ρ.t 9))).drew.setCells w.heap.size (i*2) vs).drew).setCells w.heap.size ((i+m)*2) (cs.drop (i*2)):=by
 have t0:=L.t0;have a0:=L.a0;have z0:=L.z0;have v0:=L.v0;have t3:=L.t3;have a3:=L.a3;have z3:=L.z3;have v3:=L.v3;have t4:=L.t4;have a4:=L.a4;have z4:=L.z4;have v4:=L.v4;have z9:=L.z9;have t24:=L.t24;have a24:=L.a24;have z24:=L.z24;have v24:=L.v24
 have u0:=run_underlying L.t0;have u3:=run_underlying L.t3;have u4:=run_underlying L.t4;have u24:=run_underlying L.t24
 have mixed:=L.mixed
 obtain ⟨i0,hi0,hzz,hzs,hzb⟩:=info_parts L.i9
 have hz1:¬ ((m:Int)=0):=by omega
 have hz2:¬ ((i:Int)=(n:Int)):=by omega
 have hz3:(c:Int)<(n:Int)+(m:Int):=by omega
 have hsz:(P.info? (ρ.t 9)).map (·.size)=some 2:=by rw [hi0];simp [hzs]
 have hbw:b<w.heap.size:=block_lt_of_cell (hcs 0 _ (List.getElem?_eq_getElem (by omega)))
 have hvw:vb<w.heap.size:=block_lt_of_cell (hvs 0 _ (List.getElem?_eq_getElem (by omega)))
 have hkk:(n:Int)+(m:Int)-(i:Int)=((n+m-i:Nat):Int):=by omega
 have hik:i+(n+m-i)=n+m:=by omega
 have hold:(Builtin.firstCells i0.size i (.slice (some ⟨b,off,none⟩) i c)).run P w.drew=.ok (cs.take (i*2)).toArray w.drew:=by
  rw [hzs]
  exact run_firstCells_some w.drew 2 i ⟨b,off,none⟩ i c (cs.take (i*2)) (by rw [List.length_take];omega) (fun j v hj=>by
   rw [Addr.add_lit]
   rw [List.getElem?_take] at hj
   split at hj
   ·exact hcs j v hj
   ·cases hj)
 have hb48:(n+m-i)*bytes<=281474976710656:=Nat.le_trans (Nat.mul_le_mul_right _ (Nat.sub_le _ _)) (by omega)
 have hrz:∀ ty,(Builtin.append_ #[(ρ.t 24),(ρ.t 3)] ty #[.slice (some ⟨b,off,none⟩) i c,.int .i64 ((n:Int)+(m:Int)-(i:Int))]).run P w =
  .ok (.slice (some ⟨w.heap.size,0,none⟩) (n+m) (grownCap w (n+m) c (ρ.t 9))) (w.drew.alloc (.cells ((cs.take (i*2)).toArray++Builtin.zeroCells z.cells (n+m-i)++Builtin.zeroCells z.cells (grownCap w (n+m) c (ρ.t 9)-(n+m))) (ρ.t 9))):=fun ty=>by
  have h:=Lib.run_append_grow_zeros w (ρ.t 24) (ρ.t 3) ty (ρ.t 9) i0 _ .i64 .i64 L.t24 L.t3 hi0 hzz (some ⟨b,off,none⟩) i c (cs.take (i*2)) hold (n+m-i) (by omega) (by omega) (by omega) (by omega) (by rw [hzb];exact hb48) (by rw [hzb,hik];exact growslice_fits hroom hbig)
  rw [hik] at h
  rw [hkk]
  exact h
 obtain ⟨G,hG⟩:∃ G,G=grownCap w (n+m) c (ρ.t 9):=⟨_,rfl⟩
 obtain ⟨ROW,hROW⟩:∃ ROW:Array Value,ROW=(cs.take (i*2)).toArray++Builtin.zeroCells z.cells (n+m-i)++Builtin.zeroCells z.cells (G-(n+m)):=⟨_,rfl⟩
 rw [<-hG] at hrz ⊢
 rw [<-hROW] at hrz ⊢
 have hRl:(n+m)*2<=ROW.size:=by
  rw [hROW,Array.size_append,Array.size_append,size_zeroCells,size_zeroCells,hzc,List.size_toArray,List.length_take,hcl]
  omega
 obtain ⟨W1,hW1⟩:∃ W1,W1=w.drew.alloc (.cells ROW (ρ.t 9)):=⟨_,rfl⟩
 rw [<-hW1] at hrz
 have hN:∀ j,j<(n+m)*2->(W1.cell? ⟨w.heap.size,j,none⟩).isSome=true:=fun j hj=>by
  rw [hW1,World.cell?_alloc_at (w:=w.drew) ROW _ w.heap.size j rfl,Array.getElem?_eq_getElem (by omega)];rfl
 have hNf:∀ j,W1.frozen? ⟨w.heap.size,j,none⟩=false:=fun j=>by rw [hW1];exact World.frozen?_alloc_at (w:=w.drew) ROW _ w.heap.size j rfl
 have hOb:∀ j v,w.cell? ⟨b,j,none⟩=some v->W1.cell? ⟨b,j,none⟩=some v:=fun j v h=>by rw [hW1,World.cell?_alloc_past (w:=w.drew) _ b j hbw];exact h
 have hOv:∀ j v,w.cell? ⟨vb,j,none⟩=some v->W1.cell? ⟨vb,j,none⟩=some v:=fun j v h=>by rw [hW1,World.cell?_alloc_past (w:=w.drew) _ vb j hvw];exact h
 have hcpA:∀ (W:World),(∀ x,W.cell? x=W1.cell? x)->(∀ x,W.frozen? x=W1.frozen? x) -> ∀ ty dc,(Builtin.copy_ #[(ρ.t 24),(ρ.t 24)] ty #[.slice (some ⟨w.heap.size,i*2,none⟩) (n+m-i) dc,.slice (some ⟨vb,voff,none⟩) m vc]).run P W=.ok (goInt m) (W.setCells w.heap.size (i*2) vs):=fun W hWc hWf ty dc=>
  copyN W _ _ ty (ρ.t 9) w.heap.size (i*2) (n+m-i) dc ⟨vb,voff,none⟩ m vc m 2 vs L.t24 hsz (by simp only [Nat.min_def];split <;> omega) hvl
   (fun j v hj=>by rw [Addr.add_lit,hWc];exact hOv _ v (hvs j v hj))
   (fun j hj=>by rw [hWc];exact hN _ (by omega)) (fun j hj=>by rw [hWf];exact hNf _) h1v
 have hGn:n+m<=G:=by rw [hG];exact grownCap_ge w _ _ _
 have hG63:G<=9223372036854775807:=by
  have:=grownCap_le_maxLen w (n+m) c (ρ.t 9) (by unfold maxLen;omega)
  rw [<-hG] at this
  unfold maxLen at this
  omega
 have hGi:¬ (G=i):=by omega
 have hGim:¬ (G=i+m):=by omega
 have hci:¬ (c=i):=by omega
 have hbN:b≠w.heap.size:=by omega
 have hdl:(cs.drop (i*2)).length=(n-i)*2:=by rw [List.length_drop,hcl];omega
 have hcpB:∀ (W:World),(∀ x,W.cell? x=(W1.setCells w.heap.size (i*2) vs).cell? x)->(∀ x,W.frozen? x=(W1.setCells w.heap.size (i*2) vs).frozen? x) -> ∀ ty dc sc,(Builtin.copy_ #[(ρ.t 24),(ρ.t 24)] ty #[.slice (some ⟨w.heap.size,(i+m)*2,none⟩) (n+m-(i+m)) dc,.slice (some ⟨b,off+i*2,none⟩) (n-i) sc]).run P W=.ok (goInt ((n-i:Nat):Int)) (W.setCells w.heap.size ((i+m)*2) (cs.drop (i*2))):=fun W hWc hWf ty dc sc=>
  copyN W _ _ ty (ρ.t 9) w.heap.size ((i+m)*2) (n+m-(i+m)) dc ⟨b,off+i*2,none⟩ (n-i) sc (n-i) 2 (cs.drop (i*2)) L.t24 hsz (by simp only [Nat.min_def];split <;> omega) hdl
   (fun j v hj=>by
     rw [Addr.add_lit,hWc,World.cell?_setCells_out _ _ _ _ _ (fun h _=>absurd h hbN),Nat.add_assoc]
     exact hOb _ v (hcs (i*2+j) v (by rwa [List.getElem?_drop] at hj)))
   (fun j hj=>by rw [hWc];exact isSome_setCells _ _ _ _ (fun t ht=>hN _ (by omega)) _ (hN _ (by omega)))
   (fun j hj=>by rw [hWf,World.frozen?_setCells];exact hNf _) (fun v hv=>h1c v (List.mem_of_mem_drop hv))
 subst hW1
 have hE1:∀ x,((w.alloc (.cells ROW (ρ.t 9))).drew).cell? x=(w.drew.alloc (.cells ROW (ρ.t 9))).cell? x:=fun x=>rfl
 have hE2:∀ x,((w.alloc (.cells ROW (ρ.t 9))).drew).frozen? x=(w.drew.alloc (.cells ROW (ρ.t 9))).frozen? x:=fun x=>rfl
 have hF1:∀ x,(((w.alloc (.cells ROW (ρ.t 9))).drew.setCells w.heap.size (i*2) vs).drew).cell? x=((w.drew.alloc (.cells ROW (ρ.t 9))).setCells w.heap.size (i*2) vs).cell? x:=fun x=>rfl
 have hF2:∀ x,(((w.alloc (.cells ROW (ρ.t 9))).drew.setCells w.heap.size (i*2) vs).drew).frozen? x=((w.drew.alloc (.cells ROW (ρ.t 9))).setCells w.heap.size (i*2) vs).frozen? x:=fun x=>rfl
 have hw1:IntKind.i64.wrap ((i:Int)+(m:Int))=(i:Int)+(m:Int):=by rw [IntKind.wrap_i64];omega
 have hb1:(0:Int)<=(i:Int)+(m:Int):=by omega
 have hin:i<=n:=by omega
 have htn:((i:Int)+(m:Int)).toNat=i+m:=by omega
 have hb3:(i:Int)<=(n:Int):=by omega
 clear hkk hik hold hROW hG hRl hb48
 go_enter L.f22,bodyI_ntmps ρ nm
 go_wp2_with (first
  | (at_builtin;refine Lib.wpList_append_run _ rfl _ _ _ _ rfl _ _ rfl rfl _ _ (hrz _) ?_)
  | (at_builtin;refine wpList_copy_runI _ rfl _ _ (ρ.t 24) (ρ.t 24) rfl _ _ rfl rfl (hcpA _ hE1 hE2 _ _) ?_)
  | (at_builtin;refine wpList_copy_runI _ rfl _ _ (ρ.t 24) (ρ.t 24) rfl _ _ rfl rfl (hcpB _ (fun _=>rfl) (fun _=>rfl) _ _ _) ?_))
 go_region_law_o (refine step_copy_runI rfl _ _ (ρ.t 24) (ρ.t 24) rfl (.slice (some ⟨w.heap.size,(i+m)*2,none⟩) (n+m-(i+m)) (G-(i+m))) (.slice (some ⟨b,off+i*2,none⟩) (n-i) (c-i)) (by simp [Act.eval,Act.put]) (by simp [Act.eval,Act.put]) (hcpB _ hF1 hF2 (ρ.t 3) (G-(i+m)) (c-i)) ?_)
 go_wp2
 go_ret
 exact ⟨rfl,rfl⟩
end
end Go.Proofs.K
end
section
set_option linter.unusedSimpArgs false
set_option linter.unusedVariables false
namespace Go.Proofs.K
open Go Go.Sim Go.Proofs Go.Shelf
variable {G:YZ}
def iren:Ren:=⟨fun | 21=>60 | 27=>85 | 28=>86 | 35=>102 | 39=>120 | n=>n,fun | 0=>0 | 3=>3 | 4=>4 | 22=>29 | n=>n,fun n=>n⟩
theorem lays21:Lays2.n21 Tryz.prog iren:={
 mixed:=by kernel_rfl
 f21:=Tryz.func60.trans (congrArg some (by kernel_rfl))
 f27:=Tryz.func85.trans (congrArg some (by kernel_rfl))
 f28:=Tryz.func86.trans (congrArg some (by kernel_rfl))
 f35:=Tryz.func102.trans (congrArg some (by kernel_rfl))
 f39:=Tryz.func120.trans (congrArg some (by kernel_rfl))
 t0:=Tryz.underlying0
 a0:=Tryz.isAgg0
 z0:=Tryz.sizeOf0
 v0:=Tryz.zeroValue0
 t3:=Tryz.underlying3
 a3:=Tryz.isAgg3
 z3:=Tryz.sizeOf3
 v3:=Tryz.zeroValue3
 t4:=Tryz.underlying4
 a4:=Tryz.isAgg4
 z4:=Tryz.sizeOf4
 v4:=Tryz.zeroValue4
 t22:=Tryz.underlying29
 a22:=Tryz.isAgg29
 z22:=Tryz.sizeOf29
 v22:=Tryz.zeroValue29
 i3:=by kernel_rfl }
theorem U4 (b:Nat):∀ (vs:List Value) (o:Nat) (w:World) (cur:Array Value) (t:TypeId) (f:Nat×Nat),w.heap[b]? = some (.cells cur t f)->o+vs.length<=cur.size ->
 ∃ cur':Array Value,(w.setCells b o vs).heap[b]? = some (.cells cur' t f)/\cur'.size=cur.size/\(∀ k,cur'[k]? = if o<=k/\k<o+vs.length then vs[k-o]? else cur[k]?)/\(∀ k,k≠b->(w.setCells b o vs).heap[k]? = w.heap[k]?) /\
   (w.setCells b o vs).heap.size=w.heap.size/\(w.setCells b o vs).os=w.os/\(w.setCells b o vs).tape=w.tape/\(w.setCells b o vs).output=w.output
 | [],o,w,cur,t,f,hb,_=>⟨cur,hb,rfl,fun k=>by rw [if_neg (by simp)],fun _ _=>rfl,rfl,rfl,rfl,rfl⟩
 | v :: r,o,w,cur,t,f,hb,hl=>by
   have hlt:b<w.heap.size:=(Array.getElem?_eq_some_iff.1 hb).1
   have h1:(w.setCell ⟨b,o,none⟩ v).heap[b]? = some (.cells (cur.setIfInBounds o v) t f):=by
    unfold World.setCell
    rw [Array.getElem?_modify,if_pos rfl,hb];rfl
   simp only [List.length_cons] at hl
   obtain ⟨cur',g1,g2,g3,g4,g5,g6,g7,g8⟩:=U4 b r (o+1) (w.setCell ⟨b,o,none⟩ v) _ t f h1 (by simp;omega)
   refine ⟨cur',g1,by rw [g2];simp,fun k=>?_,fun k hk=>?_,?_,g6,g7,g8⟩
   ·rw [g3]
    by_cases hk:k=o
    ·subst hk
     rw [if_neg (by omega),if_pos (by simp)]
     rw [Array.getElem?_setIfInBounds]
     first | (simp;omega) | simp
     try omega
    ·by_cases hi:o+1<=k/\k<o+1+r.length
     ·rw [if_pos hi,if_pos (by simp;omega),show k-o=(k-(o+1))+1 by omega,List.getElem?_cons_succ]
     ·rw [if_neg hi,if_neg (by simp;omega),Array.getElem?_setIfInBounds,if_neg (by omega)]
   ·rw [World.setCells,g4 k hk]
    unfold World.setCell
    rw [Array.getElem?_modify,if_neg (fun h=>hk h.symm)]
   ·rw [World.setCells,g5];simp [World.setCell]
def IntsAt (cur:Array Value) (bo:Nat) (l:List Int):Prop:=∀ k,k<l.length->cur[bo+k]? = some (.int .i64 (nth l k))
theorem IntsAt.cells {cur:Array Value} {bo:Nat} {l:List Int} (I:IntsAt cur bo l) (g:Ghost) (w:World):∀ (i j:Nat) (e:List AVal) (x:AVal),(l.map Z6)[i]? = some e->e[j]? = some x -> ∃ u:Value,cur[bo+(i*1+j)]? = some u/\u.oneCell'=true/\VRel g w u x:=by
 intro i j e x he hx
 rw [List.getElem?_map] at he
 obtain ⟨n,hn,rfl⟩:=Option.map_eq_some_iff.1 he
 have hi:=(List.getElem?_eq_some_iff.1 hn).1
 have hj:j=0:=by
  have:=(List.getElem?_eq_some_iff.1 hx).1
  simp [Z6] at this;exact this
 subst hj
 cases hx
 have e1:nth l i=n:=by rw [J5 hi] at hn;exact Option.some.inj hn
 refine ⟨.int .i64 n,?_,rfl,.int _ _⟩
 have:=I i hi
 rw [e1] at this
 simpa using this
theorem ints_block {h:Q2} {g:Ghost} {w:World} (H:HRel h g w) {r:Nat} {es:List (List AVal)} {l:List Int} (hr:h r=some ⟨.t 3,1,es⟩) (hl:l.length<=es.length) (ht:es.take l.length=l.map Z6) (hc:g.cap r≠0) :
 ∃ cur:Array Value,w.heap[g.eta r]? = some (.cells cur 3 (0,0))/\g.bo r+g.cap r=cur.size/\IntsAt cur (g.bo r) l:=by
 have O:=H.obj r _ hr
 rcases O.block with h0 | ⟨_,_,cur,hcur,hsz,hcell⟩
 ·exact absurd h0 hc
 ·refine ⟨cur,hcur.un rfl,by simpa using hsz,fun k hk=>?_⟩
  have he:es[k]? = some (Z6 (nth l k)):=by
   have h1:(es.take l.length)[k]? = some (Z6 (nth l k)):=by rw [ht,List.getElem?_map,J5 hk];rfl
   rw [List.getElem?_take,if_pos hk] at h1;exact h1
  obtain ⟨u,hu,_,hv⟩:=hcell k 0 _ _ he rfl
  rw [hv.int_inv] at hu
  simpa using hu
theorem new_fin {h:Q2} {g:Ghost} {w w':World} (H:HRel h g w) {cells:Array Value} {cap:Nat} {l:List Int} (hp:w'.heap=(w.alloc (.cells cells 3)).heap) (h1:w'.os=w.os) (h2:w'.tape=w.tape) (h3:w'.output=w.output)
 (hcs:cells.size=cap) (hle:l.length<=cap) (hm:cap<=maxLen) (I:IntsAt cells 0 l) :
 ∃ g',GS g w g' w'/\HRel (upd h g.nxt (some ⟨.t 3,1,l.map Z6⟩)) g' w'/\VRel g' w' (.slice (some ⟨w.heap.size,0,none⟩) l.length cap) (.osl g.nxt 1 0 l.length):=by
 obtain ⟨S1,H1⟩:=root_new H cells (ty:=3) (sz:=1) (cap:=cap) (es:=l.map Z6) (by decide) (by omega) (by simpa using hle) (fun e he=>by obtain ⟨x,_,rfl⟩:=List.mem_map.1 he;rfl) (fun i j e x he hx=>by
  have:=I.cells g w i j e x he hx
  simpa using this)
 obtain ⟨S2,H2⟩:=H1.ext (w':=w') (fun b _=>by rw [hp]) h1 h2 h3 (by rw [hp];exact Nat.le_refl _)
 refine ⟨_,S1.trans S2,H2,?_⟩
 have:=VRel.osl (g:=g.add w.heap.size 0 cap 1) (w:=w') g.nxt 1 0 l.length cap 0 (Nat.lt_succ_self _) (by simp [Ghost.add]) hle hm (by simp [Ghost.add]) (fun _=>by simp [Ghost.add])
 simpa [Ghost.add] using this
theorem put_fin {h:Q2} {g:Ghost} {w w':World} (H:HRel h g w) {r:Nat} {es:List (List AVal)} (hr:h r=some ⟨.t 3,1,es⟩) (hc:g.cap r≠0) {cur':Array Value} {l:List Int} (hb:w'.heap[g.eta r]? = some (.cells cur' 3 (0,0)))
 (hs:∀ b,b≠g.eta r->w'.heap[b]? = w.heap[b]?) (hz:w'.heap.size=w.heap.size) (h1:w'.os=w.os) (h2:w'.tape=w.tape) (h3:w'.output=w.output) (hsz:g.bo r+g.cap r=cur'.size) (hle:l.length<=g.cap r) (hm:g.cap r<=maxLen) (I:IntsAt cur' (g.bo r) l) :
 ∃ g',GS g w g' w'/\HRel (upd (del h r) g.nxt (some ⟨.t 3,1,l.map Z6⟩)) g' w'/\VRel g' w' (.slice (some ⟨g.eta r,g.bo r,none⟩) l.length (g.cap r)) (.osl g.nxt 1 0 l.length):=by
 have O:=H.obj r _ hr
 rcases O.block with h0 | ⟨hlt,hnf,cur,hcur,_,_⟩
 ·exact absurd h0 hc
 ·obtain ⟨S,H1⟩:=root_touch H hr hc (w':=w') hs hz h1 h2 h3 ⟨_,_,_,hb⟩
  have H2:=H1.add (blk:=g.eta r) (bo:=g.bo r) (cap:=g.cap r) (sz:=1) (ty:=3) (es:=l.map Z6) (by decide) (fun e he=>by obtain ⟨x,_,rfl⟩:=List.mem_map.1 he;rfl) (by simpa using hle) (.inr ⟨by rw [hz];exact hlt,hnf,fun t ob ht h0 he=>by
   unfold Sim.del at ht
   split at ht
   ·cases ht
   ·rename_i hne;exact hne (H.inj t r ob _ ht hr h0 hc he),cur',.mk0 hb,by omega,I.cells g w'⟩)
  refine ⟨_,S.addTo _ _ _ _ (.inr (.inl ⟨r,O.lt,hc,rfl⟩)),H2,?_⟩
  have:=VRel.osl (g:=g.add (g.eta r) (g.bo r) (g.cap r) 1) (w:=w') g.nxt 1 0 l.length (g.cap r) (g.bo r) (Nat.lt_succ_self _) (by simp [Ghost.add]) hle hm (by simp [Ghost.add]) (fun _=>by simp [Ghost.add])
  simpa [Ghost.add] using this
theorem ins_len (l:List Int) (i:Nat) (x:Int) (hi:i<=l.length):(l.take i++x :: l.drop i).length=l.length+1:=by
 rw [List.length_append,List.length_cons,List.length_take,List.length_drop];omega
theorem ins_nth (l:List Int) (i:Nat) (x:Int) (hi:i<=l.length) (k:Nat):nth (l.take i++x :: l.drop i) k=if k<i then nth l k else if k=i then x else nth l (k-1):=by
 unfold nth
 simp only [List.getD_eq_getElem?_getD]
 by_cases h1:k<i
 ·rw [if_pos h1,List.getElem?_append_left (by rw [List.length_take];omega),List.getElem?_take,if_pos h1]
 ·rw [if_neg h1,List.getElem?_append_right (by rw [List.length_take];omega),List.length_take,Nat.min_eq_left hi]
  by_cases h2:k=i
  ·rw [if_pos h2,h2];simp
  ·rw [if_neg h2,show k-i=(k-i-1)+1 by omega,List.getElem?_cons_succ,List.getElem?_drop,show i+(k-i-1)=k-1 by omega]
theorem vrel_three {g:Ghost} {w:World} {vs:Array Value} {a b c:AVal} (V:VRelL g w vs [a,b,c]):∃ u v x,vs = #[u,v,x]/\VRel g w u a/\VRel g w v b/\VRel g w x c:=by
 obtain ⟨hs,hv⟩:=V
 obtain ⟨l⟩:=vs
 match l,hs with
 | [u,v,x],_=>exact ⟨u,v,x,rfl,hv 0 u a rfl rfl,hv 1 v b rfl rfl,hv 2 x c rfl rfl⟩
def TY (l:List Int):List Value:=l.map (Value.int .i64)
theorem intsV_get {l:List Int} {j:Nat} {v:Value} (h:(TY l)[j]? = some v):j<l.length/\v=.int .i64 (nth l j):=by
 unfold TY at h
 rw [List.getElem?_map] at h
 obtain ⟨n,hn,rfl⟩:=Option.map_eq_some_iff.1 h
 have hj:=(List.getElem?_eq_some_iff.1 hn).1
 refine ⟨hj,?_⟩
 rw [J5 hj] at hn
 rw [Option.some.inj hn]
theorem intsV_at {l:List Int} {j:Nat} (h:j<l.length):(TY l)[j]? = some (.int .i64 (nth l j)):=by
 unfold TY;rw [List.getElem?_map,J5 h];rfl
theorem intsV_one {l:List Int}:∀ v∈TY l,v.oneCell'=true:=fun v hv=>by
 obtain ⟨x,_,rfl⟩:=List.mem_map.1 hv;rfl
theorem insertI_ok {h:Q2} {a:AVal} {l:List Int} {x:Int} {i rv:Nat} (O:OwnS h 3 1 (l.map Z6) a) (M:Mut a) (hi:i<=l.length) (hl:l.length<=100000) (hrv:h rv=some ⟨.t 3,1,[Z6 x]⟩) (hne:Q9 a≠some rv) :
 DCalls (Pg G) 60 [a,Q3 i,.osl rv 1 0 1] h fun r h'=>∃ r',r=.osl r' 1 0 (l.length+1)/\h' r'=some ⟨.t 3,1,(l.take i++x :: l.drop i).map Z6⟩/\(Q9 a=some r'\/h r'=none)/\(∀ t o,h t=some o->Q9 a≠some t->h' t=some o):=by
 refine ⟨⟨_,Tryz.func60,by kernel_rfl,by kernel_rfl⟩,fun g w vs H GR V=>?_⟩
 obtain ⟨va,vi,vv,rfl,ha,hvi,hv⟩:=vrel_three V
 rw [hvi.int_inv]
 obtain ⟨hrl,hsz,hc⟩:=hv.osl_inv
 rcases hc with ⟨_,_,h0,_⟩ | ⟨capv,offv,rfl,hncv,hmv,hiv,hoffv⟩
 ·omega
 have hcv:g.cap rv≠0:=by omega
 obtain ⟨curv,hcurv,hszv,Iv⟩:=ints_block H (l:=[x]) hrv (by simp) (by simp) hcv
 have hov:offv=g.bo rv:=by have:=hoffv (by omega);omega
 subst hov
 have cv:∀ j v,[Value.int .i64 x][j]? = some v->w.cell? ⟨g.eta rv,g.bo rv+j,none⟩=some v:=fun j v hj=>by
  have h1:=intsV_get (l:=[x]) (j:=j) (v:=v) hj
  rw [cell_of_row w _ _ curv _ _ hcurv,Iv j h1.1,h1.2]
 have one1:∀ v∈[Value.int .i64 x],v.oneCell'=true:=fun v hv=>by simp at hv;subst hv;rfl
 have nx:=H.none_nxt
 have ins:=ins_len l i x hi
 have insn:=ins_nth l i x hi
 have empty:l=[] -> ∀ (A:Option Addr),va=.slice A 0 0->Calls Tryz.prog 60 #[va,.int .i64 i,.slice (some ⟨g.eta rv,g.bo rv,none⟩) 1 capv] w fun e w'=>∃ v r h' g',e=.returned v/\(∃ r',r=.osl r' 1 0 (l.length+1)/\h' r'=some ⟨.t 3,1,(l.take i++x :: l.drop i).map Z6⟩/\(Q9 a=some r'\/h r'=none)/\(∀ t o,h t=some o->Q9 a≠some t->h' t=some o))/\HRel h' g' w'/\VRel g' w' v r/\GS g w g' w':=by
  intro hl0 A hA
  subst hl0
  obtain rfl:i=0:=by simpa using hi
  rw [hA]
  refine (Any2.slices_Insert_int_end_grow lays21 A 0 0 (g.eta rv) (g.bo rv) 1 capv [] [.int .i64 x] w (by decide) (by decide) (by decide) (by decide) rfl rfl (fun _=>rfl) (fun _ _ j v hj=>by simp at hj) cv one1).mono fun e w' ⟨he,hw⟩=>?_
  have ge:=grownCap_ge w (0+1) 0 (iren.t 3)
  have gm:=grownCap_le_maxLen w (0+1) 0 (iren.t 3) (by decide)
  generalize grownCap w (0+1) 0 (iren.t 3)=gc at *
  obtain ⟨g',S,H',V'⟩:=new_fin (w':=w') (l:=[x]) (cap:=gc) H (by rw [hw];rfl) (by rw [hw];rfl) (by rw [hw];rfl) (by rw [hw];rfl) (by rw [Array.size_append,size_zeroCells];show 1+(gc-(0+1))*1=gc;omega) (by simpa using ge) gm (fun k hk=>by
   have:k=0:=by simpa using hk
   subst this
   rw [Array.getElem?_append_left (by simp)];rfl)
  refine ⟨_,.osl g.nxt 1 0 1,_,g',he,⟨g.nxt,rfl,Q5 _ _ _,.inr nx,fun t o ht _=>by rw [Q4 _ _ (fun e=>by rw [e,nx] at ht;cases ht)];exact ht⟩,H',by simpa using V',S⟩
 rcases O.live M with ⟨hl0,rfl⟩ | ⟨r,es,rfl,hr,hle,hte⟩
 ·obtain ⟨A,hA,_⟩:=ha.emp_inv
  exact empty (by simpa using hl0) A hA
 ·rw [List.length_map] at ha hle hte ⊢
  obtain ⟨_,_,hca⟩:=ha.osl_inv
  rcases hca with ⟨hA,_,h0,_⟩ | ⟨c,off,hA,hnc,hm,hic,hoff⟩
  ·have:l=[]:=List.eq_nil_of_length_eq_zero h0
   exact empty this none (by rw [hA])
  ·have hcap:g.cap r=c:=by omega
   have hle2:=(H.obj r _ hr).le
   by_cases hc0:c=0
   ·have hn0:l.length=0:=by omega
    subst hc0
    exact empty (List.eq_nil_of_length_eq_zero hn0) (some ⟨g.eta r,off,none⟩) (by rw [hA,hn0])
   ·have hof:off=g.bo r:=by have:=hoff (by omega);omega
    subst hof
    have hcr:g.cap r≠0:=by omega
    obtain ⟨cur,hcur,hsz2,I⟩:=ints_block H hr hle hte hcr
    rw [hA]
    have cs:∀ j v,(TY l)[j]? = some v->w.cell? ⟨g.eta r,g.bo r+j,none⟩=some v:=fun j v hj=>by
     obtain ⟨h1,rfl⟩:=intsV_get hj
     rw [cell_of_row w _ _ cur _ _ hcur,I j h1]
    have cln:(TY l).length=l.length:=by simp [TY]
    have hnb:g.eta rv≠g.eta r:=fun e=>hne (by rw [H.inj rv r _ _ hrv hr hcv hcr e];rfl)
    have sp:∀ j,g.bo r+j<cur.size->(w.cell? ⟨g.eta r,g.bo r+j,none⟩).isSome=true:=fun j hj=>by
     rw [cell_of_row w _ _ cur _ _ hcur,Array.getElem?_eq_getElem hj];rfl
    have fzn:∀ b k (cu:Array Value) t,w.heap[b]? = some (.cells cu t (0,0))->w.frozen? ⟨b,k,none⟩=false:=fun b k cu t hb=>by simp [World.frozen?,hb]
    have kp:∀ (ob:AObj) t o,h t=some o->Q9 (.osl r 1 0 l.length)≠some t->upd (del h r) g.nxt (some ob) t=some o:=fun ob t o ht hn=>by
     rw [Q4 _ _ (fun e=>by rw [e,nx] at ht;cases ht)]
     unfold del
     rw [if_neg (fun e=>hn (by rw [e];rfl))];exact ht
    have kp2:∀ (ob:AObj) t o,h t=some o->Q9 (.osl r 1 0 l.length)≠some t->upd h g.nxt (some ob) t=some o:=fun ob t o ht hn=>by
     rw [Q4 _ _ (fun e=>by rw [e,nx] at ht;cases ht)];exact ht
    have dl:((TY l).drop i).length=l.length-i:=by rw [List.length_drop,cln]
    by_cases hroom:l.length+1<=c
    ·by_cases hin:i<l.length
     ·refine (Any2.slices_Insert_int_shift lays21 (g.eta r) (g.bo r) l.length c i (g.eta rv) (g.bo rv) 1 capv (TY l) [.int .i64 x] w hin (by decide) hroom (by simp only [maxLen] at hm;omega) hnb cln rfl cs (fun j hj=>sp j (by omega)) (fun j _=>fzn _ _ _ _ hcur) cv intsV_one one1 3 3 curv.size cur.size (by simp [World.shape?,hcurv]) (by simp [World.shape?,hcur]) (by omega) (fzn _ _ _ _ hcurv) (fzn _ _ _ _ hcurv)).mono fun e w' ⟨he,hw⟩=>?_
      obtain ⟨c1,b1,s1,k1,o1,z1,p1,p2,p3⟩:=U4 (g.eta r) ((TY l).drop i) (g.bo r+(i+1)) w.drew cur _ _ hcur (by rw [dl];omega)
      obtain ⟨c2,b2,s2,k2,o2,z2,q1,q2,q3⟩:=U4 (g.eta r) [.int .i64 x] (g.bo r+i) (w.drew.setCells (g.eta r) (g.bo r+(i+1)) ((TY l).drop i)) c1 _ _ b1 (by simp;omega)
      have I2:IntsAt c2 (g.bo r) (l.take i++x :: l.drop i):=fun k hk=>by
       rw [ins] at hk
       rw [k2,insn k]
       by_cases h1:k=i
       ·rw [if_pos (by simp;omega),if_neg (by omega),if_pos h1,h1,Nat.sub_self];rfl
       ·rw [if_neg (by simp;omega),k1,dl]
        by_cases h2:k<i
        ·rw [if_neg (by omega),if_pos h2];exact I k (by omega)
        ·rw [if_pos (by omega),if_neg h2,if_neg h1,List.getElem?_drop,show i+(g.bo r+k-(g.bo r+(i+1)))=k-1 by omega]
         exact intsV_at (by omega)
      obtain ⟨g',S,H',V'⟩:=put_fin (w':=w') (cur':=c2) H hr hcr (by rw [hw];exact b2) (fun b hb=>by rw [hw,o2 b hb,o1 b hb];rfl) (by rw [hw,z2,z1];rfl) (by rw [hw,q1,p1];rfl) (by rw [hw,q2,p2];rfl) (by rw [hw,q3,p3];rfl) (by omega) (by omega) (by omega) I2
      rw [ins,hcap] at V'
      exact ⟨_,.osl g.nxt 1 0 (l.length+1),_,g',he,⟨g.nxt,rfl,Q5 _ _ _,.inr nx,kp _⟩,H',V',S⟩
     ·obtain rfl:i=l.length:=by omega
      refine (Any2.slices_Insert_int_end_room lays21 (g.eta r) (g.bo r) l.length c (g.eta rv) (g.bo rv) 1 capv [.int .i64 x] w (by decide) hroom (by simp only [maxLen] at hm;omega) rfl (fun j hj=>by rw [Nat.add_assoc];exact sp _ (by omega)) (fun j _=>fzn _ _ _ _ hcur) cv one1).mono fun e w' ⟨he,hw⟩=>?_
      obtain ⟨c2,b2,s2,k2,o2,z2,q1,q2,q3⟩:=U4 (g.eta r) [.int .i64 x] (g.bo r+l.length) w cur _ _ hcur (by simp;omega)
      have I2:IntsAt c2 (g.bo r) (l.take l.length++x :: l.drop l.length):=fun k hk=>by
       rw [ins] at hk
       rw [k2,insn k]
       by_cases h1:k=l.length
       ·rw [if_pos (by simp;omega),if_neg (by omega),if_pos h1,h1,Nat.sub_self];rfl
       ·rw [if_neg (by simp;omega),if_pos (by omega)];exact I k (by omega)
      obtain ⟨g',S,H',V'⟩:=put_fin (w':=w') (cur':=c2) H hr hcr (by rw [hw];exact b2) (fun b hb=>by rw [hw,o2 b hb]) (by rw [hw,z2]) (by rw [hw,q1]) (by rw [hw,q2]) (by rw [hw,q3]) (by omega) (by omega) (by omega) I2
      rw [ins,hcap] at V'
      exact ⟨_,.osl g.nxt 1 0 (l.length+1),_,g',he,⟨g.nxt,rfl,Q5 _ _ _,.inr nx,kp _⟩,H',V',S⟩
    ·have ge:=grownCap_ge w (l.length+1) c (iren.t 3)
     have gm:=grownCap_le_maxLen w (l.length+1) c (iren.t 3) (by simp only [maxLen];omega)
     by_cases hin:i<l.length
     ·refine (Any2.slices_Insert_int_grow lays21 (g.eta r) (g.bo r) l.length c i (g.eta rv) (g.bo rv) 1 capv (TY l) [.int .i64 x] w hin (by decide) hnc (by omega) (by omega) cln rfl cs cv intsV_one one1).mono fun e w' ⟨he,hw⟩=>?_
      generalize grownCap w (l.length+1) c (iren.t 3)=gc at *
      have z0:∀ k,(Builtin.zeroCells (Value.int .i64 0).cells k).size=k:=fun k=>by rw [size_zeroCells];show k*1=k;omega
      rw [show iren.t 3=3 from rfl] at hw
      generalize hC0:(((TY l).take i).toArray++Builtin.zeroCells (Value.int .i64 0).cells (l.length+1-i)++Builtin.zeroCells (Value.int .i64 0).cells (gc-(l.length+1)))=C0 at hw
      have sC:C0.size=gc:=by
       rw [<-hC0,Array.size_append,Array.size_append,z0,z0,List.size_toArray,List.length_take,cln];omega
      have gC:∀ k,k<i->C0[k]? = some (.int .i64 (nth l k)):=fun k hk=>by
       rw [<-hC0,Array.append_assoc,Array.getElem?_append_left (by rw [List.size_toArray,List.length_take,cln];omega),List.getElem?_toArray,List.getElem?_take,if_pos hk]
       exact intsV_at (by omega)
      have hb0:(w.alloc (.cells C0 3)).drew.heap[w.heap.size]? = some (.cells C0 3 (0,0)):=K2 w _
      obtain ⟨c1,b1,s1,k1,o1,z1,p1,p2,p3⟩:=U4 w.heap.size [.int .i64 x] i (w.alloc (.cells C0 3)).drew C0 _ _ hb0 (by simp;omega)
      obtain ⟨c2,b2,s2,k2,o2,z2,q1,q2,q3⟩:=U4 w.heap.size ((TY l).drop i) (i+1) ((w.alloc (.cells C0 3)).drew.setCells w.heap.size i [.int .i64 x]).drew c1 _ _ b1 (by rw [dl];omega)
      have I2:IntsAt c2 0 (l.take i++x :: l.drop i):=fun k hk=>by
       rw [ins] at hk
       rw [k2,insn k,dl]
       by_cases h1:i<k
       ·rw [if_pos (by omega),if_neg (by omega),if_neg (by omega),List.getElem?_drop,show i+(0+k-(i+1))=k-1 by omega]
        exact intsV_at (by omega)
       ·rw [if_neg (by omega),k1]
        by_cases h2:k=i
        ·rw [if_pos (by simp;omega),if_neg (by omega),if_pos h2,h2];simp
        ·rw [if_neg (by simp;omega),if_pos (by omega),Nat.zero_add];exact gC k (by omega)
      have hp:w'.heap=(w.alloc (.cells c2 3)).heap:=by
       rw [hw]
       apply Array.ext_getElem?
       intro b
       by_cases hb:b=w.heap.size
       ·subst hb;rw [b2];exact (K2 w _).symm
       ·rw [o2 b hb]
        refine (o1 b hb).trans ?_
        show (w.heap.push _)[b]? = (w.heap.push _)[b]?
        rw [Array.getElem?_push,Array.getElem?_push,if_neg hb,if_neg hb]
      obtain ⟨g',S,H',V'⟩:=new_fin (w':=w') (cap:=gc) H hp (by rw [hw,q1];exact p1) (by rw [hw,q2];exact p2) (by rw [hw,q3];exact p3) (by omega) (by omega) gm I2
      rw [ins] at V'
      exact ⟨_,.osl g.nxt 1 0 (l.length+1),_,g',he,⟨g.nxt,rfl,Q5 _ _ _,.inr nx,kp2 _⟩,H',V',S⟩
     ·obtain rfl:i=l.length:=by omega
      refine (Any2.slices_Insert_int_end_grow lays21 (some ⟨g.eta r,g.bo r,none⟩) l.length c (g.eta rv) (g.bo rv) 1 capv (TY l) [.int .i64 x] w (by decide) hnc (by omega) (by omega) cln rfl (fun h=>by cases h) (fun a ha j v hj=>by cases ha;rw [Addr.add_lit];exact cs j v hj) cv one1).mono fun e w' ⟨he,hw⟩=>?_
      generalize grownCap w (l.length+1) c (iren.t 3)=gc at *
      have z0:∀ k,(Builtin.zeroCells (Value.int .i64 0).cells k).size=k:=fun k=>by rw [size_zeroCells];show k*1=k;omega
      obtain ⟨g',S,H',V'⟩:=new_fin (w':=w') (l:=l.take l.length++x :: l.drop l.length) (cap:=gc) H (by rw [hw];rfl) (by rw [hw];rfl) (by rw [hw];rfl) (by rw [hw];rfl) (by rw [Array.size_append,z0,List.size_toArray,List.length_append,cln,List.length_singleton];omega) (by omega) gm (fun k hk=>by
       rw [ins] at hk
       rw [Nat.zero_add,insn k,Array.getElem?_append_left (by rw [List.size_toArray,List.length_append,cln,List.length_singleton];omega),List.getElem?_toArray]
       by_cases h1:k<l.length
       ·rw [if_pos h1,List.getElem?_append_left (by omega)];exact intsV_at h1
       ·rw [if_neg h1,if_pos (by omega),List.getElem?_append_right (by omega),cln,show k-l.length=0 by omega];rfl)
      rw [ins] at V'
      exact ⟨_,.osl g.nxt 1 0 (l.length+1),_,g',he,⟨g.nxt,rfl,Q5 _ _ _,.inr nx,kp2 _⟩,H',V',S⟩
def JQ {α:Type} (l:List α) (i:Nat) (x:α):List α:=l.take i++x :: l.drop i
theorem UW {α:Type} (l:List α) (i:Nat) (x:α) (hi:i<=l.length):(JQ l i x).length=l.length+1:=by
 unfold JQ;rw [List.length_append,List.length_cons,List.length_take,List.length_drop];omega
theorem insL_all {es:List (List AVal)} {x:List AVal} {sz:Nat} (hes:∀ e∈es,e.length=sz) (hx:x.length=sz) (i:Nat):∀ e∈JQ es i x,e.length=sz:=by
 intro e he
 unfold JQ at he
 rcases List.mem_append.1 he with h | h
 ·exact hes e (List.mem_of_mem_take h)
 ·rcases List.mem_cons.1 h with h | h
  ·rw [h];exact hx
  ·exact hes e (List.mem_of_mem_drop h)
theorem insL_get {α:Type} (l:List α) (i:Nat) (x:α) (hi:i<=l.length) (k:Nat):(JQ l i x)[k]? = if k<i then l[k]? else if k=i then some x else l[k-1]? := by
 unfold JQ
 by_cases h1:k<i
 ·rw [if_pos h1,List.getElem?_append_left (by rw [List.length_take];omega),List.getElem?_take,if_pos h1]
 ·rw [if_neg h1,List.getElem?_append_right (by rw [List.length_take];omega),List.length_take,Nat.min_eq_left hi]
  by_cases h2:k=i
  ·rw [if_pos h2,h2];simp
  ·rw [if_neg h2,show k-i=(k-i-1)+1 by omega,List.getElem?_cons_succ,List.getElem?_drop,show i+(k-i-1)=k-1 by omega]
def RowsAt (sz:Nat) (g:Ghost) (w:World) (cur:Array Value) (bo:Nat) (es:List (List AVal)):Prop:=∀ (k j:Nat) (e:List AVal) (x:AVal),es[k]? = some e->e[j]? = some x -> ∃ u:Value,cur[bo+(k*sz+j)]? = some u/\u.oneCell'=true/\VRel g w u x
theorem RowsAt.take {sz:Nat} {g:Ghost} {w:World} {cur:Array Value} {bo:Nat} {es:List (List AVal)} (I:RowsAt sz g w cur bo es) (n:Nat):RowsAt sz g w cur bo (es.take n):=fun k j e x hk hx=>by
 rw [List.getElem?_take] at hk
 split at hk
 ·exact I k j e x hk hx
 ·cases hk
def cellsL (cur:Array Value) (bo n:Nat):List Value:=(cur.toList.drop bo).take n
theorem cellsL_len {cur:Array Value} {bo n:Nat} (h:bo+n<=cur.size):(cellsL cur bo n).length=n:=by
 unfold cellsL;rw [List.length_take,List.length_drop,Array.length_toList];omega
theorem cellsL_get {cur:Array Value} {bo n j:Nat}:(cellsL cur bo n)[j]? = if j<n then cur[bo+j]? else none:=by
 unfold cellsL;rw [List.getElem?_take]
 split
 ·rw [List.getElem?_drop,Array.getElem?_toList]
 ·rfl
theorem cellsL_some {cur:Array Value} {bo n j:Nat} {v:Value} (h:(cellsL cur bo n)[j]? = some v):j<n/\cur[bo+j]? = some v:=by
 rw [cellsL_get] at h
 split at h
 ·rename_i hq;exact ⟨hq,h⟩
 ·cases h
theorem RowsAt.one {sz n:Nat} {g:Ghost} {w:World} {cur:Array Value} {bo:Nat} {es:List (List AVal)} (I:RowsAt sz g w cur bo es) (hp:0<sz) (hes:∀ e∈es,e.length=sz) (hn:n<=es.length*sz):∀ v∈cellsL cur bo n,v.oneCell'=true:=by
 intro v hv
 obtain ⟨j,hj⟩:=List.getElem?_of_mem hv
 obtain ⟨h1,h2⟩:=cellsL_some hj
 have hk:j / sz<es.length:=by rw [Nat.div_lt_iff_lt_mul hp];omega
 have hm:j % sz<sz:=Nat.mod_lt _ hp
 have he:=hes _ (List.getElem_mem hk)
 obtain ⟨u,hu,h3,_⟩:=I (j / sz) (j % sz) _ ((es[j / sz])[j % sz]'(by rw [he];exact hm)) (List.getElem?_eq_getElem hk) (List.getElem?_eq_getElem _)
 rw [Nat.mul_comm,Nat.div_add_mod,h2] at hu
 cases hu;exact h3
theorem rows_block {h:Q2} {g:Ghost} {w:World} (H:HRel h g w) {r sz:Nat} {ty:TypeId} {es:List (List AVal)} (hr:h r=some ⟨ty,sz,es⟩) (hc:g.cap r≠0) :
 ∃ cur:Array Value,w.heap[g.eta r]? = some (.cells cur ty (0,0))/\g.bo r+g.cap r*sz=cur.size/\RowsAt sz g w cur (g.bo r) es:=by
 have O:=H.obj r _ hr
 rcases O.block with h0 | ⟨_,_,cur,hcur,hsz,hcell⟩
 ·exact absurd h0 hc
 ·exact ⟨cur,hcur.un rfl,hsz,fun k j e x hk hx=>hcell k j e x hk hx⟩
theorem new_rows {h:Q2} {g:Ghost} {w w':World} (H:HRel h g w) {cells:Array Value} {cap sz:Nat} {ty:TypeId} {es:List (List AVal)} (hpos:0<sz) (hp:w'.heap=(w.alloc (.cells cells ty)).heap) (h1:w'.os=w.os) (h2:w'.tape=w.tape) (h3:w'.output=w.output)
 (hcs:cells.size=cap*sz) (hlen:∀ e∈es,e.length=sz) (hle:es.length<=cap) (hm:cap<=maxLen) (I:RowsAt sz g w cells 0 es) :
 ∃ g',GS g w g' w'/\HRel (upd h g.nxt (some ⟨ty,sz,es⟩)) g' w'/\VRel g' w' (.slice (some ⟨w.heap.size,0,none⟩) es.length cap) (.osl g.nxt sz 0 es.length):=by
 obtain ⟨S1,H1⟩:=root_new H cells (ty:=ty) (sz:=sz) (cap:=cap) (es:=es) hpos hcs hle hlen (fun i j e x he hx=>by
  have:=I i j e x he hx
  simpa using this)
 obtain ⟨S2,H2⟩:=H1.ext (w':=w') (fun b _=>by rw [hp]) h1 h2 h3 (by rw [hp];exact Nat.le_refl _)
 refine ⟨_,S1.trans S2,H2,?_⟩
 have:=VRel.osl (g:=g.add w.heap.size 0 cap sz) (w:=w') g.nxt sz 0 es.length cap 0 (Nat.lt_succ_self _) (by simp [Ghost.add]) hle hm (by simp [Ghost.add]) (fun _=>by simp [Ghost.add])
 simpa [Ghost.add] using this
theorem put_rows {h:Q2} {g:Ghost} {w w':World} (H:HRel h g w) {r sz:Nat} {ty:TypeId} {es es':List (List AVal)} (hpos:0<sz) (hr:h r=some ⟨ty,sz,es⟩) (hc:g.cap r≠0) {cur':Array Value} (hb:w'.heap[g.eta r]? = some (.cells cur' ty (0,0)))
 (hs:∀ b,b≠g.eta r->w'.heap[b]? = w.heap[b]?) (hz:w'.heap.size=w.heap.size) (h1:w'.os=w.os) (h2:w'.tape=w.tape) (h3:w'.output=w.output) (hsz:g.bo r+g.cap r*sz=cur'.size) (hlen:∀ e∈es',e.length=sz) (hle:es'.length<=g.cap r) (hm:g.cap r<=maxLen) (I:RowsAt sz g w cur' (g.bo r) es') :
 ∃ g',GS g w g' w'/\HRel (upd (del h r) g.nxt (some ⟨ty,sz,es'⟩)) g' w'/\VRel g' w' (.slice (some ⟨g.eta r,g.bo r,none⟩) es'.length (g.cap r)) (.osl g.nxt sz 0 es'.length):=by
 have O:=H.obj r _ hr
 rcases O.block with h0 | ⟨hlt,hnf,cur,hcur,_,_⟩
 ·exact absurd h0 hc
 ·obtain ⟨S,H1⟩:=root_touch H hr hc (w':=w') hs hz h1 h2 h3 ⟨_,_,_,hb⟩
  have H2:=H1.add (blk:=g.eta r) (bo:=g.bo r) (cap:=g.cap r) (sz:=sz) (ty:=ty) (es:=es') hpos hlen hle (.inr ⟨by rw [hz];exact hlt,hnf,fun t ob ht h0 he=>by
   unfold Sim.del at ht
   split at ht
   ·cases ht
   ·rename_i hne;exact hne (H.inj t r ob _ ht hr h0 hc he),cur',.mk0 hb,hsz,fun k j e x hk hx=>by
    obtain ⟨u,hu,h1,hV⟩:=I k j e x hk hx
    exact ⟨u,hu,h1,hV.step S.toGStep⟩⟩)
  refine ⟨_,S.addTo _ _ _ _ (.inr (.inl ⟨r,O.lt,hc,rfl⟩)),H2,?_⟩
  have:=VRel.osl (g:=g.add (g.eta r) (g.bo r) (g.cap r) sz) (w:=w') g.nxt sz 0 es'.length (g.cap r) (g.bo r) (Nat.lt_succ_self _) (by simp [Ghost.add]) hle hm (by simp [Ghost.add]) (fun _=>by simp [Ghost.add])
  simpa [Ghost.add] using this
theorem RowsAt.ins2 {g:Ghost} {w:World} {cur curv c2:Array Value} {bo bv b2 i:Nat} {es:List (List AVal)} {x:List AVal} (I:RowsAt 2 g w cur bo es) (Iv:RowsAt 2 g w curv bv [x]) (hes:∀ e∈es,e.length=2) (hx:x.length=2) (hi:i<=es.length)
 (hA:∀ q,q<i*2->c2[b2+q]? = cur[bo+q]?) (hB:∀ q,q<2->c2[b2+(i*2+q)]? = curv[bv+q]?) (hC:∀ q,q<es.length*2-i*2->c2[b2+((i+1)*2+q)]? = cur[bo+i*2+q]?):RowsAt 2 g w c2 b2 (JQ es i x):=by
 intro k j e y hk hy
 rw [insL_get _ _ _ hi] at hk
 by_cases h1:k<i
 ·rw [if_pos h1] at hk
  have hj:=(List.getElem?_eq_some_iff.1 hy).1
  have he:=hes e (List.mem_of_getElem? hk)
  obtain ⟨u,hu,h1,hV⟩:=I k j e y hk hy
  exact ⟨u,by rw [hA _ (by omega)];exact hu,h1,hV⟩
 ·rw [if_neg h1] at hk
  by_cases h2:k=i
  ·rw [if_pos h2] at hk
   cases hk
   have hj:=(List.getElem?_eq_some_iff.1 hy).1
   obtain ⟨u,hu,h1,hV⟩:=Iv 0 j x y rfl hy
   rw [Nat.zero_mul,Nat.zero_add] at hu
   exact ⟨u,by rw [h2,hB _ (by omega)];exact hu,h1,hV⟩
  ·rw [if_neg h2] at hk
   have hj:=(List.getElem?_eq_some_iff.1 hy).1
   have hkl:=(List.getElem?_eq_some_iff.1 hk).1
   have he:=hes e (List.mem_of_getElem? hk)
   obtain ⟨u,hu,h1,hV⟩:=I (k-1) j e y hk hy
   refine ⟨u,?_,h1,hV⟩
   rw [<-hu,show k*2+j=(i+1)*2+((k-1-i)*2+j) by omega,hC _ (by omega)]
   congr 1;omega
def reninsertR:Ren:=⟨fun | 22=>56 | 29=>82 | 30=>83 | 36=>101 | 17=>119 | n=>n,fun | 0=>0 | 3=>3 | 4=>4 | 9=>87 | 24=>25 | n=>n,fun n=>n⟩
theorem layinsertR:LayI2 Tryz.prog reninsertR Tryz.f56.name 40 (.agg #[.string ⟨#[]⟩,.slice none 0 0]):={
 mixed:=by kernel_rfl
 f22:=Tryz.func56.trans (congrArg some (by kernel_rfl))
 ov:=fun args w=>run_callFunc_extern Tryz.func82 (by kernel_rfl) (by kernel_rfl) (by kernel_rfl) (by kernel_rfl) args w
 t0:=Tryz.underlying0
 a0:=Tryz.isAgg0
 z0:=Tryz.sizeOf0
 v0:=Tryz.zeroValue0
 t3:=Tryz.underlying3
 a3:=Tryz.isAgg3
 z3:=Tryz.sizeOf3
 v3:=Tryz.zeroValue3
 t4:=Tryz.underlying4
 a4:=Tryz.isAgg4
 z4:=Tryz.sizeOf4
 v4:=Tryz.zeroValue4
 z9:=Tryz.sizeOf87
 t24:=Tryz.underlying25
 a24:=Tryz.isAgg25
 z24:=Tryz.sizeOf25
 v24:=Tryz.zeroValue25
 i9:=by kernel_rfl }
theorem insertR_rows {h:Q2} {a:AVal} {es:List (List AVal)} {x:List AVal} {i rv:Nat} (O:OwnS h 87 2 es a) (M:Mut a) (hes:∀ e∈es,e.length=2) (hx:x.length=2) (hi:i<=es.length) (hl:es.length<=100000) (hrv:h rv=some ⟨.t 87,2,[x]⟩) (hne:Q9 a≠some rv) :
 DCalls (Pg G) 56 [a,Q3 i,.osl rv 2 0 1] h fun r h'=>∃ r',r=.osl r' 2 0 (es.length+1)/\h' r'=some ⟨.t 87,2,JQ es i x⟩/\(Q9 a=some r'\/h r'=none)/\(∀ t o,h t=some o->Q9 a≠some t->h' t=some o):=by
 refine ⟨⟨_,Tryz.func56,by kernel_rfl,by kernel_rfl⟩,fun g w vs H GR V=>?_⟩
 obtain ⟨va,vi,vv,rfl,ha,hvi,hv⟩:=vrel_three V
 rw [hvi.int_inv]
 obtain ⟨hrl,hszv,hc⟩:=hv.osl_inv
 rcases hc with ⟨_,_,h0,_⟩ | ⟨capv,offv,rfl,hncv,hmv,hiv,hoffv⟩
 ·omega
 have hcv:g.cap rv≠0:=by omega
 obtain ⟨curv,hcurv,hszv,Iv⟩:=rows_block H hrv hcv
 have hov:offv=g.bo rv:=by have:=hoffv (by omega);omega
 subst hov
 obtain ⟨vs,hvs⟩:∃ vs,vs=cellsL curv (g.bo rv) 2:=⟨_,rfl⟩
 have vl:vs.length=2:=by rw [hvs];exact cellsL_len (by omega)
 have cv:∀ j v,vs[j]? = some v->w.cell? ⟨g.eta rv,g.bo rv+j,none⟩=some v:=fun j v hj=>by
  rw [hvs] at hj
  rw [cell_of_row w _ _ curv _ _ hcurv];exact (cellsL_some hj).2
 have one1:∀ v∈vs,v.oneCell'=true:=fun v hv=>by
  rw [hvs] at hv
  exact Iv.one (by decide) (fun e he=>by simp at he;rw [he];exact hx) (by simp) v hv
 have gvs:∀ q,q<2->vs[q]? = curv[g.bo rv+q]? := fun q hq=>by rw [hvs,cellsL_get,if_pos hq]
 have nx:=H.none_nxt
 have insn:=UW es i x hi
 have insl:=insL_all hes hx i
 have one:0<1:=by decide
 have empty:es=[] -> ∀ (A:Option Addr),va=.slice A 0 0->Calls Tryz.prog 56 #[va,.int .i64 i,.slice (some ⟨g.eta rv,g.bo rv,none⟩) 1 capv] w fun e w'=>∃ v r h' g',e=.returned v/\(∃ r',r=.osl r' 2 0 (es.length+1)/\h' r'=some ⟨.t 87,2,JQ es i x⟩/\(Q9 a=some r'\/h r'=none)/\(∀ t o,h t=some o->Q9 a≠some t->h' t=some o))/\HRel h' g' w'/\VRel g' w' v r/\GS g w g' w':=by
  intro hl0 A hA
  subst hl0
  obtain rfl:i=0:=by simpa using hi
  rw [hA]
  refine (insEndGrow2 layinsertR A 0 0 (g.eta rv) (g.bo rv) 1 capv [] vs w (by decide) (by decide) (by decide) (by decide) (by decide) rfl (by rw [vl]) (fun _=>rfl) (fun _ _ j v hj=>by simp at hj) cv one1).mono fun e w' ⟨he,hw⟩=>?_
  have ge:=grownCap_ge w (0+1) 0 (reninsertR.t 9)
  have gm:=grownCap_le_maxLen w (0+1) 0 (reninsertR.t 9) (by decide)
  generalize grownCap w (0+1) 0 (reninsertR.t 9)=gc at *
  obtain ⟨g',S,H',V'⟩:=new_rows (w':=w') (ty:=87) (sz:=2) (es:=[x]) (cap:=gc) H (by decide) (by rw [hw];rfl) (by rw [hw];rfl) (by rw [hw];rfl) (by rw [hw];rfl) (by rw [Array.size_append,size_zeroCells];show vs.length+(gc-(0+1))*2=gc*2;omega) (fun e he=>by simp at he;rw [he];exact hx) (by simpa using ge) gm (fun k j e y hk hy=>by
   have hk0:k=0:=by
    have:=(List.getElem?_eq_some_iff.1 hk).1
    simpa using this
   subst hk0
   have hj:=(List.getElem?_eq_some_iff.1 hy).1
   cases hk
   obtain ⟨u,hu,h1,hV⟩:=Iv 0 j x y rfl hy
   refine ⟨u,?_,h1,hV⟩
   rw [<-hu,Array.getElem?_append_left (by show _<vs.length;omega),List.nil_append,List.getElem?_toArray,Nat.zero_add,gvs _ (by omega)])
  refine ⟨_,.osl g.nxt 2 0 1,_,g',he,⟨g.nxt,rfl,Q5 _ _ _,.inr nx,fun t o ht _=>by rw [Q4 _ _ (fun e=>by rw [e,nx] at ht;cases ht)];exact ht⟩,H',by simpa using V',S⟩
 rcases O.live M with ⟨hl0,rfl⟩ | ⟨r,rs,rfl,hr,hle,hte⟩
 ·obtain ⟨A,hA,_⟩:=ha.emp_inv
  exact empty hl0 A hA
 ·obtain ⟨_,_,hca⟩:=ha.osl_inv
  rcases hca with ⟨hA,_,h0,_⟩ | ⟨c,off,hA,hnc,hm,hic,hoff⟩
  ·exact empty (List.eq_nil_of_length_eq_zero h0) none (by rw [hA])
  ·have hcap:g.cap r=c:=by omega
   have hle2:=(H.obj r _ hr).le
   by_cases hc0:c=0
   ·have hn0:es.length=0:=by omega
    subst hc0
    exact empty (List.eq_nil_of_length_eq_zero hn0) (some ⟨g.eta r,off,none⟩) (by rw [hA,hn0])
   ·have hof:off=g.bo r:=by have:=hoff (by omega);omega
    subst hof
    have hcr:g.cap r≠0:=by omega
    obtain ⟨cur,hcur,hsz2,I0⟩:=rows_block H hr hcr
    have I:RowsAt 2 g w cur (g.bo r) es:=by rw [<-hte];exact I0.take _
    rw [hA]
    obtain ⟨cs,hcs⟩:∃ cs,cs=cellsL cur (g.bo r) (es.length*2):=⟨_,rfl⟩
    have cl:cs.length=es.length*2:=by rw [hcs];exact cellsL_len (by omega)
    have cg:∀ j v,cs[j]? = some v->w.cell? ⟨g.eta r,g.bo r+j,none⟩=some v:=fun j v hj=>by
     rw [hcs] at hj
     rw [cell_of_row w _ _ cur _ _ hcur];exact (cellsL_some hj).2
    have gcs:∀ q,q<es.length*2->cs[q]? = cur[g.bo r+q]? := fun q hq=>by rw [hcs,cellsL_get,if_pos hq]
    have one2:∀ v∈cs,v.oneCell'=true:=fun v hv=>by
     rw [hcs] at hv
     exact I.one (by decide) hes (Nat.le_refl _) v hv
    have hnb:g.eta rv≠g.eta r:=fun e=>hne (by rw [H.inj rv r _ _ hrv hr hcv hcr e];rfl)
    have sp:∀ j,g.bo r+j<cur.size->(w.cell? ⟨g.eta r,g.bo r+j,none⟩).isSome=true:=fun j hj=>by
     rw [cell_of_row w _ _ cur _ _ hcur,Array.getElem?_eq_getElem hj];rfl
    have fzn:∀ b k (cu:Array Value) t,w.heap[b]? = some (.cells cu t (0,0))->w.frozen? ⟨b,k,none⟩=false:=fun b k cu t hb=>by simp [World.frozen?,hb]
    have kp:∀ (ob:AObj) t o,h t=some o->Q9 (.osl r 2 0 es.length)≠some t->upd (del h r) g.nxt (some ob) t=some o:=fun ob t o ht hn=>by
     rw [Q4 _ _ (fun e=>by rw [e,nx] at ht;cases ht)]
     unfold del
     rw [if_neg (fun e=>hn (by rw [e];rfl))];exact ht
    have kp2:∀ (ob:AObj) t o,h t=some o->Q9 (.osl r 2 0 es.length)≠some t->upd h g.nxt (some ob) t=some o:=fun ob t o ht hn=>by
     rw [Q4 _ _ (fun e=>by rw [e,nx] at ht;cases ht)];exact ht
    have dl:(cs.drop (i*2)).length=es.length*2-i*2:=by rw [List.length_drop,cl]
    by_cases hroom:es.length+1<=c
    ·by_cases hin:i<es.length
     ·refine (insShift2 layinsertR (g.eta r) (g.bo r) es.length c i (g.eta rv) (g.bo rv) 1 capv cs vs w hin (by decide) hroom (by simp only [maxLen] at hm;omega) hnb cl (by rw [vl]) cg (fun j hj=>sp j (by omega)) (fun j _=>fzn _ _ _ _ hcur) cv one2 one1 87 87 curv.size cur.size (by simp [World.shape?,hcurv]) (by simp [World.shape?,hcur]) (by omega) (fzn _ _ _ _ hcurv) (fzn _ _ _ _ hcurv)).mono fun e w' ⟨he,hw⟩=>?_
      obtain ⟨c1,b1,s1,k1,o1,z1,p1,p2,p3⟩:=U4 (g.eta r) (cs.drop (i*2)) (g.bo r+(i+1)*2) w.drew cur _ _ hcur (by rw [dl];omega)
      obtain ⟨c2,b2,s2,k2,o2,z2,q1,q2,q3⟩:=U4 (g.eta r) vs (g.bo r+i*2) (w.drew.setCells (g.eta r) (g.bo r+(i+1)*2) (cs.drop (i*2))) c1 _ _ b1 (by rw [vl];omega)
      have I2:RowsAt 2 g w c2 (g.bo r) (JQ es i x):=I.ins2 Iv hes hx hi
       (fun q hq=>by rw [k2,if_neg (by omega),k1,if_neg (by omega)])
       (fun q hq=>by rw [k2,if_pos (by omega),<-gvs q hq];congr 1;omega)
       (fun q hq=>by rw [k2,if_neg (by omega),k1,if_pos (by omega),List.getElem?_drop];refine (gcs _ (by omega)).trans ?_;congr 1;omega)
      obtain ⟨g',S,H',V'⟩:=put_rows (w':=w') (cur':=c2) H (by decide) hr hcr (by rw [hw];exact b2) (fun b hb=>by rw [hw,o2 b hb,o1 b hb];rfl) (by rw [hw,z2,z1];rfl) (by rw [hw,q1,p1];rfl) (by rw [hw,q2,p2];rfl) (by rw [hw,q3,p3];rfl) (by omega) insl (by omega) (by omega) I2
      rw [insn,hcap] at V'
      exact ⟨_,.osl g.nxt 2 0 (es.length+1),_,g',he,⟨g.nxt,rfl,Q5 _ _ _,.inr nx,kp _⟩,H',V',S⟩
     ·obtain rfl:i=es.length:=by omega
      refine (insEndRoom2 layinsertR (g.eta r) (g.bo r) es.length c (g.eta rv) (g.bo rv) 1 capv vs w (by decide) hroom (by simp only [maxLen] at hm;omega) (by rw [vl]) (fun j hj=>by rw [Nat.add_assoc];exact sp _ (by omega)) (fun j _=>fzn _ _ _ _ hcur) cv one1).mono fun e w' ⟨he,hw⟩=>?_
      obtain ⟨c2,b2,s2,k2,o2,z2,q1,q2,q3⟩:=U4 (g.eta r) vs (g.bo r+es.length*2) w cur _ _ hcur (by rw [vl];omega)
      have I2:RowsAt 2 g w c2 (g.bo r) (JQ es es.length x):=I.ins2 Iv hes hx hi
       (fun q hq=>by rw [k2,if_neg (by omega)])
       (fun q hq=>by rw [k2,if_pos (by omega),<-gvs q hq];congr 1;omega)
       (fun q hq=>by omega)
      obtain ⟨g',S,H',V'⟩:=put_rows (w':=w') (cur':=c2) H (by decide) hr hcr (by rw [hw];exact b2) (fun b hb=>by rw [hw,o2 b hb]) (by rw [hw,z2]) (by rw [hw,q1]) (by rw [hw,q2]) (by rw [hw,q3]) (by omega) insl (by omega) (by omega) I2
      rw [insn,hcap] at V'
      exact ⟨_,.osl g.nxt 2 0 (es.length+1),_,g',he,⟨g.nxt,rfl,Q5 _ _ _,.inr nx,kp _⟩,H',V',S⟩
    ·have ge:=grownCap_ge w (es.length+1) c (reninsertR.t 9)
     have gm:=grownCap_le_maxLen w (es.length+1) c (reninsertR.t 9) (by simp only [maxLen];omega)
     by_cases hin:i<es.length
     ·refine (insGrow2 layinsertR (by rfl) (g.eta r) (g.bo r) es.length c i (g.eta rv) (g.bo rv) 1 capv cs vs w hin (by decide) hnc (by omega) (by omega) (by omega) cl (by rw [vl]) cg cv one2 one1).mono fun e w' ⟨he,hw⟩=>?_
      generalize grownCap w (es.length+1) c (reninsertR.t 9)=gc at *
      have z0:∀ k,(Builtin.zeroCells (Value.cells (.agg #[.string ⟨#[]⟩,.slice none 0 0])) k).size=k*2:=fun k=>by rw [size_zeroCells];rfl
      rw [show reninsertR.t 9=87 from rfl] at hw
      generalize hC0:((cs.take (i*2)).toArray++Builtin.zeroCells (Value.cells (.agg #[.string ⟨#[]⟩,.slice none 0 0])) (es.length+1-i)++Builtin.zeroCells (Value.cells (.agg #[.string ⟨#[]⟩,.slice none 0 0])) (gc-(es.length+1)))=C0 at hw
      have sC:C0.size=gc*2:=by
       rw [<-hC0,Array.size_append,Array.size_append,z0,z0,List.size_toArray,List.length_take,cl];omega
      have gC:∀ q,q<i*2->C0[q]? = cur[g.bo r+q]? := fun q hq=>by
       rw [<-hC0,Array.append_assoc,Array.getElem?_append_left (by rw [List.size_toArray,List.length_take,cl];omega),List.getElem?_toArray,List.getElem?_take,if_pos hq]
       exact gcs q (by omega)
      have hb0:(w.alloc (.cells C0 87)).drew.heap[w.heap.size]? = some (.cells C0 87 (0,0)):=K2 w _
      obtain ⟨c1,b1,s1,k1,o1,z1,p1,p2,p3⟩:=U4 w.heap.size vs (i*2) (w.alloc (.cells C0 87)).drew C0 _ _ hb0 (by rw [vl];omega)
      obtain ⟨c2,b2,s2,k2,o2,z2,q1,q2,q3⟩:=U4 w.heap.size (cs.drop (i*2)) ((i+1)*2) ((w.alloc (.cells C0 87)).drew.setCells w.heap.size (i*2) vs).drew c1 _ _ b1 (by rw [dl];omega)
      have I2:RowsAt 2 g w c2 0 (JQ es i x):=I.ins2 Iv hes hx hi
       (fun q hq=>by rw [Nat.zero_add,k2,if_neg (by omega),k1,if_neg (by omega),gC q hq])
       (fun q hq=>by rw [Nat.zero_add,k2,if_neg (by omega),k1,if_pos (by omega),<-gvs q hq];congr 1;omega)
       (fun q hq=>by rw [Nat.zero_add,k2,if_pos (by omega),List.getElem?_drop];refine (gcs _ (by omega)).trans ?_;congr 1;omega)
      have hp:w'.heap=(w.alloc (.cells c2 87)).heap:=by
       rw [hw]
       apply Array.ext_getElem?
       intro b
       by_cases hb:b=w.heap.size
       ·subst hb;rw [b2];exact (K2 w _).symm
       ·rw [o2 b hb]
        refine (o1 b hb).trans ?_
        show (w.heap.push _)[b]? = (w.heap.push _)[b]?
        rw [Array.getElem?_push,Array.getElem?_push,if_neg hb,if_neg hb]
      obtain ⟨g',S,H',V'⟩:=new_rows (w':=w') (cap:=gc) H (by decide) hp (by rw [hw,q1];exact p1) (by rw [hw,q2];exact p2) (by rw [hw,q3];exact p3) (by omega) insl (by omega) gm I2
      rw [insn] at V'
      exact ⟨_,.osl g.nxt 2 0 (es.length+1),_,g',he,⟨g.nxt,rfl,Q5 _ _ _,.inr nx,kp2 _⟩,H',V',S⟩
     ·obtain rfl:i=es.length:=by omega
      refine (insEndGrow2 layinsertR (some ⟨g.eta r,g.bo r,none⟩) es.length c (g.eta rv) (g.bo rv) 1 capv cs vs w (by decide) hnc (by omega) (by omega) (by omega) cl (by rw [vl]) (fun h=>by cases h) (fun a ha j v hj=>by cases ha;rw [Addr.add_lit];exact cg j v hj) cv one1).mono fun e w' ⟨he,hw⟩=>?_
      generalize grownCap w (es.length+1) c (reninsertR.t 9)=gc at *
      have z0:∀ k,(Builtin.zeroCells (Value.cells (.agg #[.string ⟨#[]⟩,.slice none 0 0])) k).size=k*2:=fun k=>by rw [size_zeroCells];rfl
      obtain ⟨g',S,H',V'⟩:=new_rows (w':=w') (ty:=87) (sz:=2) (es:=JQ es es.length x) (cap:=gc) H (by decide) (by rw [hw];rfl) (by rw [hw];rfl) (by rw [hw];rfl) (by rw [hw];rfl) (by rw [Array.size_append,z0,List.size_toArray,List.length_append,cl,vl];omega) insl (by omega) gm
       (I.ins2 Iv hes hx hi
         (fun q hq=>by rw [Nat.zero_add,Array.getElem?_append_left (by rw [List.size_toArray,List.length_append,cl,vl];omega),List.getElem?_toArray,List.getElem?_append_left (by omega)];exact gcs q hq)
         (fun q hq=>by rw [Nat.zero_add,Array.getElem?_append_left (by rw [List.size_toArray,List.length_append,cl,vl];omega),List.getElem?_toArray,List.getElem?_append_right (by omega),cl,<-gvs q hq];congr 1;omega)
         (fun q hq=>by omega))
      rw [insn] at V'
      exact ⟨_,.osl g.nxt 2 0 (es.length+1),_,g',he,⟨g.nxt,rfl,Q5 _ _ _,.inr nx,kp2 _⟩,H',V',S⟩
def c20:SFun:=⟨.seq (.reg [o 2 (.mv (.c (.prim (Value.map none))))]) (.seq (.reg [o 6 (.mkm 58),o 3 (.mv (.t 6))]) (.seq (.seq (.reg [o 7 (.mv (.t 0)),o 8 (.len (.t 7)),o 9 (.mv (.c (.int .i64 0)))]) (.block 0 (.loop (.seq (.reg [o 10 (.bin .lss (.t 9) (.t 8))]) (.seq (.cond (.t 10) .skip (.exit 0)) (.seq (.block 1 (.seq (.reg [o 11 (.mv (.t 9)),o 12 (.idxA 1 (.t 7) (.t 9)),o 13 (.ld 1 false (.t 12)),o 4 (.mv (.t 11)),o 5 (.mv (.t 13))]) (.reg [o 14 (.mv (.t 3)),o 15 (.mv (.t 5)),o 16 (.mv (.t 4)),⟨none,.mup (some .i64) (.t 14) (.t 15) (.t 16),none⟩]))) (.reg [o 17 (.bin .add (.t 9) (.c (.int .i64 1))),o 9 (.mv (.t 17))]))))))) (.seq (.reg [o 18 (.mv (.t 3)),o 2 (.mv (.t 18))]) .ret))),[.tmp 2]⟩
theorem hc20:Y3 Tryz.prog {mp:=[3,6,14]} Tryz.f20=some c20:=by kernel_rfl
theorem ranked_ok {h:Q2} (l:List Int) (hl:l.length<=100000):DCalls (Pg G) 20 [sl Z6 l] h fun r h'=>∃ rM es,r=.mpr rM/\h rM=none/\h'=upd h rM (some ⟨.m 58 (eM es),1,[]⟩)/\(l.Nodup -> ∀ i,i<l.length->UQ es (nth l i)=some (i:Int))/\(∀ x,x∉l->UQ es x=none):=by
 refine Q0 Tryz.func20 (by kernel_rfl) hc20 (by rw [Tryz.ntmps20];simp) (by rw [Tryz.ntmps20];decide) ?_
 simp -dsimp -implicitDefEqProofs (disch:=omega) only [VCA,↓reduceIte,reduceCtorEq,c20]
 intro rM hrM
 refine LoopVC.intro (fun m e h'=>∃ (k:Nat) (es:List (Int×Int)),k<=l.length/\m=l.length-k/\e 3=.mpr rM/\e 7=sl Z6 l/\e 8=Q3 l.length/\e 9=Q3 k/\h'=upd h rM (some ⟨.m 58 (eM es),1,[]⟩)/\(l.Nodup -> ∀ i,i<k->UQ es (nth l i)=some (i:Int))/\(∀ x,x∉l->UQ es x=none)) l.length
  (by exact ⟨0,[],by omega,by omega,rfl,rfl,rfl,rfl,rfl,fun _ i hi=>absurd hi (Nat.not_lt_zero i),fun x _=>rfl⟩) ?_
 rintro m e h' ⟨k,es,hk,rfl,e3,e7,e8,e9,rfl,hf,hno⟩
 have gM:upd h rM (some ⟨.m 58 (eM es),1,[]⟩) rM=some ⟨.m 58 (eM es),1,[]⟩:=Q5 _ _ _
 simp -dsimp -implicitDefEqProofs (disch:=omega) only [VCA,↓reduceIte,e8,e9]
 refine Br.dec (fun hlt=>?_) (fun hge=>?_)
 ·have hk':k<l.length:=by omega
  simp -dsimp -implicitDefEqProofs (disch:=omega) only [VCA,Nat.reduceEqDiff,↓reduceIte,exists_eq_left',Z6,e3,e7,e8,e9]
  refine ⟨⟨by omega,by omega⟩,_,by omega,k+1,putI (nth l k) k es,by omega,rfl,by omega,by rfl,fun hd i hi=>?_,fun x hx=>?_⟩
  ·rw [findI_put]
   by_cases h1:i=k
   ·rw [h1,if_pos rfl]
   ·have hne:nth l i≠nth l k:=fun e=>by
     have h2:=List.nodup_iff_pairwise_ne.1 hd
     have h3:=List.pairwise_iff_getElem.1 h2 i k (by omega) hk' (by omega)
     have q1:=J5 (show i<l.length by omega)
     have q2:=J5 hk'
     rw [List.getElem?_eq_getElem (by omega)] at q1 q2
     exact h3 (by rw [Option.some.inj q1,Option.some.inj q2];exact e)
    rw [if_neg hne];exact hf hd i (by omega)
  ·rw [findI_put,if_neg (fun e=>hx (by rw [e];exact Y7 hk'))];exact hno x hx
 ·obtain rfl:k=l.length:=by omega
  simp -dsimp -implicitDefEqProofs (disch:=omega) only [VCA,Nat.reduceEqDiff,↓reduceIte,e3]
  exact ⟨_,Sub.refl _,rM,es,rfl,hrM,rfl,hf,hno⟩
def kpO (l:List AVal) (rM:Nat):AObj:=⟨61,5,[l++[.mpr rM]]⟩
def rkI (es:List (Int×Int)) (n:Int):Int:=(UQ es n).getD 0
def c58:SFun:=⟨.seq (.reg [o 5 (.mv (.c (.int .i64 0)))]) (.seq (.dreg [(o 6 (.ld 1 false (.t 2)),none),(o 7 (.fldA 0 (.t 6)),none),(o 8 (.fldA 4 (.t 7)),none),(o 9 (.ld 1 false (.t 8)),none),(o 10 (.mv (.t 0)),none),(o 11 (.lkp (some .i64) false (.int .i64 0) (.t 9) (.t 10)),none),(o 12 (.ld 1 false (.t 2)),none),(o 13 (.fldA 0 (.t 12)),none),(o 14 (.fldA 4 (.t 13)),none),(o 15 (.ld 1 false (.t 14)),none),(o 16 (.mv (.t 1)),none),(o 17 (.lkp (some .i64) false (.int .i64 0) (.t 15) (.t 16)),none),(o 18 (.pcall 59 [.t 11,.t 17]),none),(o 5 (.mv (.t 18)),none)]) .ret),[.tmp 5]⟩
theorem hc58:Y3 Tryz.prog {pure:=[59]} Tryz.f58=some c58:=by kernel_rfl
theorem put1_ok {h:Q2} {rk rM:Nat} {a0 a1 a2 a3:AVal} {es:List (Int×Int)} (hk:h rk=some (kpO [a0,a1,a2,a3] rM)) (hM:h rM=some ⟨.m 58 (eM es),1,[]⟩) (a b:Int) :
 DCalls (Pg G) 58 [Q3 a,Q3 b,.pin [.vp rk 0]] h fun r h'=>r=Q3 (cmpI (rkI es a) (rkI es b))/\h'=h:=by
 have cC:=cmpI_ok (G:=G) (rkI es a) (rkI es b)
 unfold rkI at cC
 have hk':h rk=some ⟨.t 61,5,[[a0,a1,a2,a3,.mpr rM]]⟩:=hk
 refine Q0 Tryz.func58 (by kernel_rfl) hc58 (by rw [Tryz.ntmps58];simp) (by rw [Tryz.ntmps58];decide) ?_
 simp -dsimp -implicitDefEqProofs (disch:=omega) only [VCA,Nat.reduceEqDiff,Nat.reduceAdd,Nat.reduceLT,↓reduceIte,reduceCtorEq,Y8,Z0,exists_eq_left',J1,c58,hk',hM]
 repeat' (first | ((with_reducible refine brC (fun _=>?_) fun _=>?_) <;> try (exfalso;omega)) | (with_reducible apply pcallE.of; · exact cC) | (with_reducible refine And.intro ?_ ?_; · omega) | simp -dsimp -implicitDefEqProofs (disch:=omega) only [VCA,↓reduceIte,Y8,Z0,exists_eq_right_right,J1])
 exact ⟨Sub.refl _,rfl⟩
def rowR (l:List HRef) (nv:Nat->AVal) (j:Nat):List AVal:=[.str (nth l j).word,nv j]
def ZY (l:List HRef) (nv:Nat->AVal):List (List AVal):=(List.range l.length).map (rowR l nv)
theorem J8 (l:List HRef) (nv:Nat->AVal):(ZY l nv).length=l.length:=by unfold ZY;rw [List.length_map,List.length_range]
theorem QU {l:List HRef} {nv:Nat->AVal} {j:Nat} (h:j<l.length):(ZY l nv)[j]? = some (rowR l nv j):=by
 unfold ZY;rw [List.getElem?_map,List.getElem?_range h];rfl
theorem rowsR_all (l:List HRef) (nv:Nat->AVal):∀ e∈ZY l nv,e.length=2:=fun e he=>by
 obtain ⟨j,_,rfl⟩:=List.mem_map.1 he;rfl
def insN (nv:Nat->AVal) (i:Nat) (v:AVal) (j:Nat):AVal:=if j<i then nv j else if j=i then v else nv (j-1)
theorem JZ {α:Type} [Inhabited α] (l:List α) (i:Nat) (x:α) (hi:i<=l.length) (k:Nat):nth (JQ l i x) k=if k<i then nth l k else if k=i then x else nth l (k-1):=by
 unfold nth
 rw [List.getD_eq_getElem?_getD,insL_get _ _ _ hi]
 (repeat' split) <;> first | rfl | rw [List.getD_eq_getElem?_getD]
theorem rowsR_ins (l:List HRef) (nv:Nat->AVal) (i:Nat) (hi:i<=l.length) (x:HRef) (v:AVal):JQ (ZY l nv) i [.str x.word,v]=ZY (JQ l i x) (insN nv i v):=by
 apply List.ext_getElem?
 intro k
 rw [insL_get _ _ _ (by rw [J8];exact hi)]
 have hl:=UW l i x hi
 by_cases hk:k<l.length+1
 ·rw [QU (l:=JQ l i x) (show k<(JQ l i x).length by omega)]
  unfold rowR insN
  rw [JZ l i x hi]
  by_cases h1:k<i
  ·rw [if_pos h1,if_pos h1,if_pos h1,QU (show k<l.length by omega)];rfl
  ·rw [if_neg h1,if_neg h1,if_neg h1]
   by_cases h2:k=i
   ·rw [if_pos h2,if_pos h2,if_pos h2]
   ·rw [if_neg h2,if_neg h2,if_neg h2,QU (show k-1<l.length by omega)];rfl
 ·rw [if_neg (by omega),if_neg (by omega),List.getElem?_eq_none (by rw [J8];omega),List.getElem?_eq_none (by rw [J8];omega)]
structure RefAt (h:Q2) (a:AVal) (l:List HRef) (nv:Nat->AVal) (F:Nat->Prop):Prop where
 own:OwnS h 87 2 (ZY l nv) a
 mt:Mut a
 inF:∀ r,Q9 a=some r->F r
 num:∀ j,j<l.length->OwnS h 3 1 ((nth l j).nodes.map Z6) (nv j)/\Mut (nv j) /\ ∀ r,Q9 (nv j)=some r->F r/\Q9 a≠some r
 two:∀ i j,i<l.length->j<l.length->i≠j -> ∀ r,Q9 (nv i)=some r->Q9 (nv j)≠some r
theorem RefAt.nil (h:Q2) (nv:Nat->AVal) (F:Nat->Prop):RefAt h .emp [] nv F:=
 ⟨.inl ⟨rfl,rfl⟩,(fun es e=>by cases e),(fun r e=>by cases e),(fun j hj=>absurd hj (Nat.not_lt_zero j)),(fun i j hi=>absurd hi (Nat.not_lt_zero i))⟩
theorem RefAt.keep {h h':Q2} {a:AVal} {l:List HRef} {nv:Nat->AVal} {F:Nat->Prop} (R:RefAt h a l nv F) (hk:∀ r o,F r->h r=some o->h' r=some o):RefAt h' a l nv F:=
 ⟨R.own.keep fun r o hr ho=>hk r o (R.inF r hr) ho,R.mt,R.inF,
   fun j hj=>⟨(R.num j hj).1.keep fun r o hr ho=>hk r o ((R.num j hj).2.2 r hr).1 ho,(R.num j hj).2.1,(R.num j hj).2.2⟩,R.two⟩
theorem RefAt.lst {h:Q2} {a:AVal} {l:List HRef} {nv:Nat->AVal} {F:Nat->Prop} (R:RefAt h a l nv F):LstAt h 2 a l.length fun j=>[.str (nth l j).word,nv j]:=by
 rcases R.own.live R.mt with ⟨h1,h2⟩ | ⟨r,es,h1,h2,h3,h4⟩
 ·exact .inl ⟨by rw [<-J8 l nv,h1];rfl,h2⟩
 ·rw [J8] at h1 h3 h4
  refine .inr ⟨r,_,h1,h2,h3,fun j hj=>?_⟩
  have h5:(es.take l.length)[j]? = some (rowR l nv j):=by rw [h4];exact QU hj
  rw [List.getElem?_take,if_pos hj] at h5
  rw [List.getD_eq_getElem?_getD,h5];rfl
end Go.Proofs.K
end
