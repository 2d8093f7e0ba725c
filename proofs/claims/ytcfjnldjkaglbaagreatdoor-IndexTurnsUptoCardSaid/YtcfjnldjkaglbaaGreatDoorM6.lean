/- Texts of this claim, one behind the other. -/
import Derived.Test.YtcfjnldjkaglbaaGreatDoorM5
import Derived.Test.YtcfjnldjkaglbaaGreatDoorM4
set_option maxHeartbeats 4000000
set_option maxRecDepth 100000
section
set_option linter.unusedSimpArgs false
set_option linter.unusedVariables false
namespace Go.Proofs.K
open Go Go.Sim Go.Proofs Go.Shelf
variable {G:YZ}
theorem OwnS.there {h:Q2} {ty sz:Nat} {cells:List (List AVal)} {a:AVal} (O:OwnS h ty sz cells a) {r:Nat} (hr:Q9 a=some r):∃ o,h r=some o:=by
 rcases O with ⟨_,rfl⟩ | ⟨rfl,_⟩ | ⟨r',es,rfl,h1,_⟩
 ·cases hr
 ·cases hr
 ·cases hr;exact ⟨_,h1⟩
theorem RefAt.ins {h h':Q2} {a:AVal} {l:List HRef} {nv:Nat->AVal} {F:Nat->Prop} (R:RefAt h a l nv F) {i r':Nat} {w:List UInt8} (hi:i<=l.length) (h1:h' r'=some ⟨.t 87,2,JQ (ZY l nv) i [.str w,.emp]⟩)
 (h2:Q9 a=some r'\/h r'=none) (h3:∀ t o,h t=some o->Q9 a≠some t->h' t=some o):RefAt h' (.osl r' 2 0 (l.length+1)) (JQ l i ⟨w,[]⟩) (insN nv i .emp) fun r=>F r\/r=r':=by
 have hl:=UW l i ⟨w,[]⟩ hi
 have he:=rowsR_ins l nv i hi ⟨w,[]⟩ .emp
 have hn:∀ j,j<l.length -> ∀ r,Q9 (nv j)=some r->r≠r':=fun j hj r hr e=>by
  rcases h2 with h2 | h2
  ·exact ((R.num j hj).2.2 r hr).2 (by rw [e];exact h2)
  ·obtain ⟨o,ho⟩:=(R.num j hj).1.there hr
   rw [e,h2] at ho;cases ho
 have hk:∀ j,j<l.length->OwnS h' 3 1 ((nth l j).nodes.map Z6) (nv j)/\Mut (nv j) /\ ∀ r,Q9 (nv j)=some r->(F r\/r=r')/\Q9 (.osl r' 2 0 (l.length+1))≠some r:=fun j hj=>
  ⟨(R.num j hj).1.keep fun r o hr ho=>h3 r o ho (((R.num j hj).2.2 r hr).2),(R.num j hj).2.1,fun r hr=>⟨.inl ((R.num j hj).2.2 r hr).1,fun e=>hn j hj r hr (by cases e;rfl)⟩⟩
 refine ⟨.inr (.inr ⟨r',_,by rw [J8,hl],by rw [h1,he],Nat.le_refl _,by rw [List.take_length]⟩),(fun es e=>by cases e),(fun r hr=>by cases hr;exact .inr rfl),fun j hj=>?_,fun j1 j2 hj1 hj2 hne r hr=>?_⟩
 ·rw [JZ l i _ hi]
  unfold insN
  by_cases q1:j<i
  ·rw [if_pos q1,if_pos q1];exact hk j (by omega)
  ·rw [if_neg q1,if_neg q1]
   by_cases q2:j=i
   ·rw [if_pos q2,if_pos q2]
    exact ⟨.inl ⟨rfl,rfl⟩,(fun es e=>by cases e),(fun r e=>by cases e)⟩
   ·rw [if_neg q2,if_neg q2];exact hk (j-1) (by omega)
 ·unfold insN at hr ⊢
  by_cases q1:j1<i
  ·rw [if_pos q1] at hr
   by_cases p1:j2<i
   ·rw [if_pos p1];exact R.two j1 j2 (by omega) (by omega) hne r hr
   ·rw [if_neg p1]
    by_cases p2:j2=i
    ·rw [if_pos p2];intro e;cases e
    ·rw [if_neg p2];exact R.two j1 (j2-1) (by omega) (by omega) (by omega) r hr
  ·rw [if_neg q1] at hr
   by_cases q2:j1=i
   ·rw [if_pos q2] at hr;cases hr
   ·rw [if_neg q2] at hr
    by_cases p1:j2<i
    ·rw [if_pos p1];exact R.two (j1-1) j2 (by omega) (by omega) (by omega) r hr
    ·rw [if_neg p1]
     by_cases p2:j2=i
     ·rw [if_pos p2];intro e;cases e
     ·rw [if_neg p2];exact R.two (j1-1) (j2-1) (by omega) (by omega) (by omega) r hr
theorem rowsR_set (l:List HRef) (nv:Nat->AVal) (i:Nat) (hi:i<l.length) (ns:List Int) (v:AVal):(ZY l nv).set i [.str (nth l i).word,v]=ZY (l.set i ⟨(nth l i).word,ns⟩) (fun j=>if j=i then v else nv j):=by
 apply List.ext_getElem?
 intro k
 by_cases hk:k<l.length
 ·rw [QU (l:=l.set i _) (show k<(l.set i _).length by rw [List.length_set];exact hk),List.getElem?_set]
  unfold rowR
  rw [K9 _ _ _ _ hi]
  by_cases h1:i=k
  ·subst h1
   rw [if_pos rfl,if_pos (by rw [J8];exact hi),if_pos rfl]
   simp only [if_true]
  ·have h1':¬ k=i:=fun e=>h1 e.symm
   rw [if_neg h1,if_neg h1',QU hk]
   simp only [if_neg h1']
   rfl
 ·rw [List.getElem?_eq_none (by rw [List.length_set,J8];omega),List.getElem?_eq_none (by rw [J8,List.length_set];omega)]
theorem RefAt.setN {h h2:Q2} {a:AVal} {l:List HRef} {nv:Nat->AVal} {F:Nat->Prop} (R:RefAt h a l nv F) {i rA r':Nat} {es:List (List AVal)} {ns:List Int} (hi:i<l.length) (ha:a=.osl rA 2 0 l.length) (hA:h rA=some ⟨.t 87,2,es⟩)
 (hle:l.length<=es.length) (ht:es.take l.length=ZY l nv) (g1:h2 rA=some ⟨.t 87,2,es.set i [.str (nth l i).word,.osl r' 1 0 ns.length]⟩) (g2:h2 r'=some ⟨.t 3,1,ns.map Z6⟩)
 (g3:Q9 (nv i)=some r'\/h r'=none) (g4:∀ t o,h t=some o->Q9 (nv i)≠some t->t≠rA->h2 t=some o) :
 RefAt h2 a (l.set i ⟨(nth l i).word,ns⟩) (fun j=>if j=i then .osl r' 1 0 ns.length else nv j) fun r=>F r\/r=r':=by
 have hrA:r'≠rA:=fun e=>by
  rcases g3 with g3 | g3
  ·exact ((R.num i hi).2.2 r' g3).2 (by rw [ha,e];rfl)
  ·rw [e,hA] at g3;cases g3
 have hn:∀ j,j<l.length->j≠i -> ∀ r,Q9 (nv j)=some r->r≠r':=fun j hj hne r hr e=>by
  rcases g3 with g3 | g3
  ·exact R.two j i hj hi hne r hr (by rw [e];exact g3)
  ·obtain ⟨o,ho⟩:=(R.num j hj).1.there hr
   rw [e,g3] at ho;cases ho
 have hset:=rowsR_set l nv i hi ns (.osl r' 1 0 ns.length)
 refine ⟨.inr (.inr ⟨rA,_,by rw [J8,List.length_set,ha],g1,by rw [J8,List.length_set,List.length_set];exact hle,?_⟩),R.mt,(fun r hr=>.inl (R.inF r hr)),fun j hj=>?_,fun j1 j2 hj1 hj2 hne r hr=>?_⟩
 ·rw [J8,List.length_set,<-hset,<-ht,List.take_set]
 ·rw [List.length_set] at hj
  rw [K9 _ _ _ _ hi]
  by_cases q:j=i
  ·rw [if_pos q]
   simp only [q,if_true]
   refine ⟨.inr (.inr ⟨r',_,by rw [List.length_map],g2,Nat.le_refl _,by rw [List.take_length]⟩),(fun es e=>by cases e),fun r hr=>?_⟩
   cases hr
   exact ⟨.inr rfl,fun e=>hrA (by rw [ha] at e;cases e;rfl)⟩
  ·rw [if_neg q]
   simp only [if_neg q]
   refine ⟨(R.num j hj).1.keep fun r o hr ho=>g4 r o ho (fun e=>R.two i j hi hj (fun e=>q e.symm) r e hr) (fun e=>((R.num j hj).2.2 r hr).2 (by rw [ha,e];rfl)),(R.num j hj).2.1,fun r hr=>⟨.inl ((R.num j hj).2.2 r hr).1,((R.num j hj).2.2 r hr).2⟩⟩
 ·rw [List.length_set] at hj1 hj2
  have hr:Q9 (if j1=i then .osl r' 1 0 ns.length else nv j1)=some r:=hr
  show Q9 (if j2=i then .osl r' 1 0 ns.length else nv j2)≠some r
  by_cases q1:j1=i
  ·rw [if_pos q1] at hr
   cases hr
   rw [if_neg (fun e=>hne (q1.trans e.symm))]
   exact fun e=>hn j2 hj2 (fun e=>hne (q1.trans e.symm)) _ e rfl
  ·rw [if_neg q1] at hr
   by_cases q2:j2=i
   ·rw [if_pos q2]
    exact fun e=>hn j1 hj1 q1 r hr (by cases e;rfl)
   ·rw [if_neg q2];exact R.two j1 j2 hj1 hj2 hne r hr
def c27_s3:SCode:=(.seq (.reg [o 33 (.mv (.t 1)),o 34 (.fldA 0 (.t 33)),o 35 (.ld 1 false (.t 34)),o 36 (.mv (.t 8)),o 37 (.idxA 2 (.t 35) (.t 36)),o 10 (.mv (.t 37))]) (.seq (.reg [o 39 (.mv (.t 10)),o 40 (.fldA 0 (.t 39)),o 41 (.fldA 1 (.t 40)),o 42 (.ld 1 false (.t 41)),o 43 (.mv (.t 3)),o 44 (.mkf 58 [] [.t 4]),o 45 (.call (.c (.fn 57 [] [])) [.t 42,.t 43,.t 44]),o 38 (.mv (.t 45)),o 46 (.ext (.t 38) 0),o 47 (.ext (.t 38) 1),o 11 (.mv (.t 46)),o 12 (.mv (.t 47))]) (.reg [o 48 (.mv (.t 10)),o 49 (.mv (.t 10)),o 50 (.fldA 0 (.t 49)),o 51 (.fldA 1 (.t 50)),o 52 (.ld 1 false (.t 51)),o 53 (.mv (.t 11)),o 54 (.mv (.t 3)),o 55 (.bldR 3 1 [.t 54]),o 56 (.call (.c (.fn 60 [] [])) [.t 52,.t 53,.t 55]),o 57 (.fldA 0 (.t 48)),o 58 (.fldA 1 (.t 57)),⟨none,.st 1 (.t 58) (.t 56),none⟩])))
def c27:SFun:=⟨.seq (.reg [o 4 (.boxF 57 1 (.t 0))]) (.seq (.reg [o 14 (.mv (.t 1)),o 15 (.fldA 0 (.t 14)),o 16 (.ld 1 false (.t 15)),o 17 (.mv (.t 2)),o 18 (.call (.c (.fn 52 [] [])) [.t 16,.t 17]),o 13 (.mv (.t 18)),o 19 (.ext (.t 13) 0),o 20 (.ext (.t 13) 1),o 8 (.mv (.t 19)),o 9 (.mv (.t 20))]) (.seq (.seq (.reg [o 21 (.mv (.t 9)),o 22 (.un .not (.t 21))]) (.cond (.t 22) (.reg [o 23 (.mv (.t 1)),o 24 (.mv (.t 1)),o 25 (.fldA 0 (.t 24)),o 26 (.ld 1 false (.t 25)),o 27 (.mv (.t 8)),o 28 (.mv (.t 2)),o 29 (.bld [.str [],.emp] [(0,(1,(.t 28)))]),o 30 (.bldR 87 2 [.t 29]),o 31 (.call (.c (.fn 56 [] [])) [.t 26,.t 27,.t 30]),o 32 (.fldA 0 (.t 23)),⟨none,.st 1 (.t 32) (.t 31),none⟩]) .skip)) c27_s3)),[]⟩
theorem hc27:Y3 Tryz.prog {how:=[(30,2),(55,2)]} Tryz.f27=some c27:=by kernel_rfl
theorem OwnS.ints {h:Q2} {l:List Int} {a:AVal} (O:OwnS h 3 1 (l.map Z6) a) (M:Mut a):(l.length=0/\a=.emp) \/ ∃ r ob,a=.osl r 1 0 l.length/\h r=some ob/\l.length<=ob.es.length /\ ∀ j,j<l.length->ob.es.getD j []=Z6 (nth l j):=by
 rcases O.live M with ⟨h1,h2⟩ | ⟨r,es,h1,h2,h3,h4⟩
 ·exact .inl ⟨by rw [<-List.length_map (f:=Z6),h1];rfl,h2⟩
 ·rw [List.length_map] at h1 h3 h4
  refine .inr ⟨r,_,h1,h2,h3,fun j hj=>?_⟩
  have h5:(es.take l.length)[j]? = some (Z6 (nth l j)):=by rw [h4,List.getElem?_map,J5 hj];rfl
  rw [List.getElem?_take,if_pos hj] at h5
  rw [List.getD_eq_getElem?_getD,h5];rfl
theorem put_rest {h:Q2} {rk rM c:Nat} {As:List AVal} {a:AVal} {es:List (Int×Int)} {l:List HRef} {nv:Nat->AVal} {F:Nat->Prop} {n:Int} {k q:Nat} {K:AVal->Q2->Prop} (hk:h rk=some (kpO As rM)) (hAl:As.length=4) (hc:c<4) (ha:As[c]? = some a)
 (hM:h rM=some ⟨.m 58 (eM es),1,[]⟩) (R:RefAt h a l nv F) (hFk:¬ F rk) (hFM:¬ F rM) (hl:l.length<=100000) (hkl:k<l.length) (hnl:(nth l k).nodes.length<=99999)
 (hq:q<=(nth l k).nodes.length) (hlt:∀ j,j<q->rkI es (nth (nth l k).nodes j)<rkI es n) (hge:∀ j,q<=j->j<(nth l k).nodes.length->rkI es n<=rkI es (nth (nth l k).nodes j))
 (e:Env) (e1:e 1=.vp rk c) (e3:e 3=Q3 n) (e4:e 4=.pin [.vp rk 0]) (e8:e 8=Q3 k)
 (hK:∀ v h' nv' r',h' rk=some (kpO As rM)->RefAt h' a (l.set k ⟨(nth l k).word,JQ (nth l k).nodes q n⟩) nv' (fun r=>F r\/r=r')->(F r'\/h r'=none)->(∀ t o,h t=some o->¬ F t->h' t=some o)->K v h') :
 vc (Pg G) c27_s3 (KU [] K) e h:=by
 have hk':h rk=some ⟨.t 61,5,[As++[.mpr rM]]⟩:=hk
 have hdrop:List.drop c (As++[.mpr rM])=a :: List.drop (c+1) (As++[.mpr rM]):=by
  have h1:(As++[AVal.mpr rM])[c]? = some a:=by rw [List.getElem?_append_left (by omega)];exact ha
  have h2:=(List.getElem?_eq_some_iff.1 h1)
  rw [List.drop_eq_getElem_cons h2.1,h2.2]
 have hlen:c+1<=(As++[AVal.mpr rM]).length:=by rw [List.length_append,List.length_singleton];omega
 rcases R.own.live R.mt with ⟨h1,_⟩ | ⟨rA,er,hA1,hA2,hA3,hA4⟩
 ·rw [<-J8 l nv,h1] at hkl;cases hkl
 rw [J8] at hA1 hA3 hA4
 have hrow:er.getD k []=[.str (nth l k).word,nv k]:=by
  have h5:(er.take l.length)[k]? = some (rowR l nv k):=by rw [hA4];exact QU hkl
  rw [List.getElem?_take,if_pos hkl] at h5
  rw [List.getD_eq_getElem?_getD,h5];rfl
 obtain ⟨N1,N2,N3⟩:=R.num k hkl
 unfold c27_s3
 skip
 obtain ⟨a0,a1,a2,a3,hAs⟩:∃ a0 a1 a2 a3,As=[a0,a1,a2,a3]:=by
  match As,hAl with
  | [a0,a1,a2,a3],_=>exact ⟨a0,a1,a2,a3,rfl⟩
 have hB:=bsI_ok (G:=G) (h:=h) (a:=nv k) (x:=Q3 n) (n:=(nth l k).nodes.length) (k:=q) (f:=58) (A:=[]) (B:=[.pin [.vp rk 0]]) (row:=fun j=>Z6 (nth (nth l k).nodes j)) (c:=fun j=>cmpI (rkI es (nth (nth l k).nodes j)) (rkI es n)) (by omega) hq (fun _ _=>rfl) (N1.ints N2)
  (fun j hj=>cmpZ_neg.2 (hlt j hj)) (fun j h1 h2=>by
    have h3:=hge j h1 h2
    refine Int.not_lt.1 fun hc=>?_
    have:=cmpZ_neg.1 hc;omega) (fun j _=>put1_ok (rk:=rk) (rM:=rM) (by rw [<-hAs];exact hk) hM (nth (nth l k).nodes j) n)
 simp -dsimp -implicitDefEqProofs (disch:=omega) only [VCA,Nat.reduceEqDiff,Nat.reduceAdd,Nat.reduceLT,↓reduceIte,exists_eq_left',e1,e3,e4,e8,hk',hdrop,hA1,hA2,hrow]
 refine ⟨hlen,⟨by omega,by omega⟩,by omega,DCalls.of hB ?_⟩
 rintro v h1 ⟨rfl,rfl⟩
 simp -dsimp -implicitDefEqProofs (disch:=omega) only [VCA,Nat.reduceEqDiff,Nat.reduceAdd,Nat.reduceLT,↓reduceIte,Z7,exists_eq_left',JT,hA2,hrow,e3]
 refine ⟨by omega,fun rv hrv=>?_⟩
 have hfr:∀ r o,h1 r=some o->upd h1 rv (some ⟨.t 3,1,[Z6 n]⟩) r=some o:=fun r o ho=>by
  rw [Q4 _ _ (fun e=>by rw [e,hrv] at ho;cases ho)];exact ho
 have hIns:=insertI_ok (G:=G) (x:=n) (i:=q) (rv:=rv) (N1.keep fun r o _ ho=>hfr r o ho) N2 hq (by omega) (Q5 _ _ _) (fun e=>by
  obtain ⟨o,ho⟩:=N1.there e
  rw [hrv] at ho;cases ho)
 refine DCalls.of hIns ?_
 rintro v h2 ⟨r',rfl,z1,z2,z3⟩
 have ne1:Q9 (nv k)≠some rA:=fun e=>(N3 rA e).2 (by rw [hA1];rfl)
 have zA:=z3 rA _ (hfr rA _ hA2) ne1
 simp -dsimp -implicitDefEqProofs (disch:=omega) only [VCA,Nat.reduceEqDiff,Nat.reduceAdd,↓reduceIte,Z8,exists_eq_left',zA,hrow]
 have FA:F rA:=R.inF rA (by rw [hA1];rfl)
 have z2':Q9 (nv k)=some r'\/h1 r'=none:=z2.imp id fun e=>by
  unfold upd at e
  split at e
  ·cases e
  ·exact e
 have kp:∀ t o,h1 t=some o->Q9 (nv k)≠some t->t≠rA->upd h2 rA (some ⟨.t 87,2,er.set k [.str (nth l k).word,.osl r' 1 0 ((nth l k).nodes.length+1)]⟩) t=some o:=fun t o ht h1 h2=>by
  rw [Q4 _ _ h2];exact z3 t o (hfr t o ht) h1
 have il:=UW (nth l k).nodes q n hq
 have r'A:r'≠rA:=fun e=>by rw [e,zA] at z1;cases z1
 refine ⟨by omega,_,Sub.refl _,hK _ _ _ r' ?_ (R.setN (ns:=JQ (nth l k).nodes q n) hkl hA1 hA2 hA3 hA4 (by rw [il];exact Q5 _ _ _) (by rw [Q4 _ _ r'A];exact z1) z2' kp) ?_ ?_⟩
 ·exact kp _ _ hk (fun e=>hFk (N3 rk e).1) (fun e=>hFk (by rw [e];exact FA))
 ·exact z2'.imp (fun e=>(N3 r' e).1) id
 ·exact fun t o ht hF=>kp t o ht (fun e=>hF (N3 t e).1) (fun e=>hF (by rw [e];exact FA))
def putL (l:List HRef) (k q:Nat) (w:List UInt8) (n:Int):List HRef:=if k<l.length/\(nth l k).word=w then l.set k ⟨w,JQ (nth l k).nodes q n⟩ else JQ l k ⟨w,[n]⟩
theorem insL_set {α:Type} [Inhabited α] (l:List α) (i:Nat) (x y:α) (hi:i<=l.length):(JQ l i x).set i y=JQ l i y:=by
 unfold JQ
 rw [List.set_append_right _ _ (by rw [List.length_take];omega),List.length_take,Nat.min_eq_left hi,Nat.sub_self];rfl
theorem put_ok {h:Q2} {rk rM c:Nat} {As:List AVal} {a:AVal} {es:List (Int×Int)} {l:List HRef} {nv:Nat->AVal} {F:Nat->Prop} {w:List UInt8} {n:Int} {k q:Nat} (hk:h rk=some (kpO As rM)) (hAl:As.length=4) (hc:c<4) (ha:As[c]? = some a)
 (hM:h rM=some ⟨.m 58 (eM es),1,[]⟩) (R:RefAt h a l nv F) (hFk:¬ F rk) (hFM:¬ F rM) (hl:l.length<=99999)
 (hkl:k<=l.length) (hlt:∀ j,j<k->ltS (nth l j).word w=true) (hge:∀ j,k<=j->j<l.length->ltS (nth l j).word w=false)
 (hf:k<l.length->(nth l k).word=w->(nth l k).nodes.length<=99999/\q<=(nth l k).nodes.length/\(∀ j,j<q->rkI es (nth (nth l k).nodes j)<rkI es n) /\ ∀ j,q<=j->j<(nth l k).nodes.length->rkI es n<=rkI es (nth (nth l k).nodes j)) :
 DCalls (Pg G) 27 [.vp rk 0,.vp rk c,.str w,Q3 n] h fun _ h'=>∃ a' nv' F',h' rk=some (kpO (As.set c a') rM)/\RefAt h' a' (putL l k q w n) nv' F'/\(∀ r,F' r->F r\/h r=none) /\ ∀ t o,h t=some o->¬ F t->t≠rk->h' t=some o:=by
 have hk':h rk=some ⟨.t 61,5,[As++[.mpr rM]]⟩:=hk
 have hFd:=ixFind_ok (G:=G) (n:=l.length) (W:=fun j=>(nth l j).word) (nv:=nv) w (by omega) hkl R.lst hlt hge
 have hdrop:List.drop c (As++[.mpr rM])=a :: List.drop (c+1) (As++[.mpr rM]):=by
  have h1:(As++[AVal.mpr rM])[c]? = some a:=by rw [List.getElem?_append_left (by omega)];exact ha
  have h2:=(List.getElem?_eq_some_iff.1 h1)
  rw [List.drop_eq_getElem_cons h2.1,h2.2]
 have hlen:c+1<=(As++[AVal.mpr rM]).length:=by rw [List.length_append,List.length_singleton];omega
 have hset:As.set c a=As:=by
  apply List.ext_getElem?
  intro j
  rw [List.getElem?_set]
  split
  ·rename_i e;subst e;rw [if_pos (by omega),ha]
  ·rfl
 by_cases hfd:k<l.length/\(nth l k).word=w
 ·have d1:decide (k<l.length/\(nth l k).word=w)=true:=decide_eq_true hfd
  obtain ⟨f1,f2,f3,f4⟩:=hf hfd.1 hfd.2
  have hp:putL l k q w n=l.set k ⟨(nth l k).word,JQ (nth l k).nodes q n⟩:=by unfold putL;rw [if_pos hfd,hfd.2]
  rw [hp]
  rw [d1] at hFd
  refine Q0 Tryz.func27 (by kernel_rfl) hc27 (by rw [Tryz.ntmps27];simp) (by rw [Tryz.ntmps27];decide) ?_
  simp -dsimp -implicitDefEqProofs (disch:=omega) only [VCA,Nat.reduceEqDiff,Nat.reduceLT,↓reduceIte,ne_eq,exists_eq_left',c27,hk',hdrop]
  refine ⟨hlen,DCalls.of hFd ?_⟩
  rintro v h1 ⟨rfl,rfl⟩
  simp -dsimp -implicitDefEqProofs (disch:=omega) only [VCA,Nat.reduceEqDiff,Nat.reduceAdd,Nat.reduceLT,↓reduceIte]
  refine put_rest (G:=G) (q:=q) (n:=n) hk hAl hc ha hM R hFk hFM (by omega) hfd.1 f1 f2 f3 f4 _ rfl rfl rfl rfl fun v h' nv' r' p1 p2 p3 p4=>?_
  exact ⟨a,nv',_,by rw [hset];exact p1,p2,fun r hr=>hr.elim .inl fun e=>by rw [e];exact p3,fun t o ht hF _=>p4 t o ht hF⟩
 ·have d1:decide (k<l.length/\(nth l k).word=w)=false:=decide_eq_false hfd
  have hp:putL l k q w n=JQ l k ⟨w,[n]⟩:=by unfold putL;rw [if_neg hfd]
  rw [hp]
  rw [d1] at hFd
  refine Q0 Tryz.func27 (by kernel_rfl) hc27 (by rw [Tryz.ntmps27];simp) (by rw [Tryz.ntmps27];decide) ?_
  simp -dsimp -implicitDefEqProofs (disch:=omega) only [VCA,Nat.reduceEqDiff,Nat.reduceLT,↓reduceIte,ne_eq,exists_eq_left',c27,hk',hdrop]
  refine ⟨hlen,DCalls.of hFd ?_⟩
  rintro v h1 ⟨rfl,rfl⟩
  simp -dsimp -implicitDefEqProofs (disch:=omega) only [VCA,Nat.reduceEqDiff,Nat.reduceAdd,Nat.reduceLT,Nat.reduceLeDiff,↓reduceIte,Z7,K8,X3,exists_eq_left',JT,hk',hdrop]
  refine ⟨hlen,fun rv hrv=>?_⟩
  have hfr:∀ r o,h1 r=some o->upd h1 rv (some ⟨.t 87,2,[[.str w,.emp]]⟩) r=some o:=fun r o ho=>by
   rw [Q4 _ _ (fun e=>by rw [e,hrv] at ho;cases ho)];exact ho
  have R1:=R.keep (fun r o _ ho=>hfr r o ho)
  have hIns:=insertR_rows (G:=G) (x:=[.str w,.emp]) (i:=k) (rv:=rv) R1.own R1.mt (rowsR_all l nv) rfl (by rw [J8];exact hkl) (by rw [J8];omega) (Q5 _ _ _) (fun e=>by
   obtain ⟨o,ho⟩:=R.own.there e
   rw [hrv] at ho;cases ho)
  rw [J8] at hIns
  refine DCalls.of hIns ?_
  rintro v h2 ⟨r',rfl,z1,z2,z3⟩
  have z2':Q9 a=some r'\/h1 r'=none:=z2.imp id fun e=>by
   unfold upd at e
   split at e
   ·cases e
   ·exact e
  have R2:=R1.ins hkl z1 z2 z3
  have na:Q9 a≠some rk:=fun e=>hFk (R.inF rk e)
  have zk:=z3 rk _ (hfr rk _ hk') na
  have r'k:r'≠rk:=fun e=>by
   rcases z2' with q1 | q1
   ·exact na (by rw [<-e];exact q1)
   ·rw [e,hk'] at q1;cases q1
  simp -dsimp -implicitDefEqProofs (disch:=omega) only [VCA,Nat.reduceEqDiff,Nat.reduceLT,↓reduceIte,Z8,exists_eq_left',zk]
  refine ⟨hlen,?_⟩
  have hrow:∀ v:AVal,List.take c (As++[.mpr rM])++[v]++List.drop (c+1) (As++[.mpr rM])=As.set c v++[.mpr rM]:=fun v=>by
   rw [List.take_append_of_le_length (by omega),List.drop_append_of_le_length (by omega),List.set_eq_take_append_cons_drop,if_pos (by omega)]
   simp
  rw [hrow]
  have kM:rM≠rk:=fun e=>by rw [e,hk'] at hM;cases hM
  have kp:∀ t o,h1 t=some o->Q9 a≠some t->t≠rk->upd h2 rk (some ⟨.t 61,5,[As.set c (.osl r' 2 0 (l.length+1))++[.mpr rM]]⟩) t=some o:=fun t o ht q1 q2=>by
   rw [Q4 _ _ q2];exact z3 t o (hfr t o ht) q1
  have il:=UW l k (⟨w,[]⟩:HRef) hkl
  have ik:nth (JQ l k (⟨w,[]⟩:HRef)) k=⟨w,[]⟩:=by rw [JZ _ _ _ hkl,if_neg (Nat.lt_irrefl k),if_pos rfl]
  have R3:=R2.keep (h':=upd h2 rk (some ⟨.t 61,5,[As.set c (.osl r' 2 0 (l.length+1))++[.mpr rM]]⟩)) (fun r o hr ho=>by
   rw [Q4 _ _ (fun e=>by rcases hr with hr | hr;exact hFk (by rw [<-e];exact hr);exact r'k (by rw [<-hr,e]))];exact ho)
  have r'M:r'≠rM:=fun e=>by
   rcases z2' with q1 | q1
   ·exact hFM (R.inF rM (by rw [<-e];exact q1))
   ·rw [e,hM] at q1;cases q1
  refine put_rest (G:=G) (q:=0) (n:=n) (As:=As.set c (.osl r' 2 0 (l.length+1))) (rM:=rM) (es:=es) (Q5 _ _ _) (by rw [List.length_set];exact hAl) hc (by rw [List.getElem?_set,if_pos rfl,if_pos (by omega)]) (kp _ _ hM (fun e=>hFM (R.inF rM e)) kM) R3
   (fun e=>e.elim hFk fun e=>r'k e.symm) (fun e=>e.elim hFM fun e=>r'M e.symm) (by omega) (by omega) (by rw [ik];exact Nat.zero_le _) (Nat.zero_le _) (fun j hj=>absurd hj (Nat.not_lt_zero j)) (fun j _ hj=>by rw [ik] at hj;exact absurd hj (Nat.not_lt_zero j)) _ rfl rfl rfl rfl fun v h' nv' r2 p1 p2 p3 p4=>?_
  rw [ik,insL_set _ _ _ _ hkl] at p2
  refine ⟨_,nv',_,p1,p2,fun r hr=>?_,fun t o ht hF hne=>?_⟩
  ·have q':(F r\/r=r')->F r\/h1 r=none:=fun e=>e.elim .inl fun e=>by
    rcases z2' with q1 | q1
    ·exact .inl (R.inF r (by rw [e];exact q1))
    ·exact .inr (by rw [e];exact q1)
   rcases hr with hr | rfl
   ·exact q' hr
   ·rcases p3 with p3 | p3
    ·exact q' p3
    ·by_cases hF:F r
     ·exact .inl hF
     ·cases ho:h1 r with
      | none=>exact .inr rfl
      | some o=>
        by_cases hrk:r=rk
        ·rw [hrk,Q5] at p3;cases p3
        ·have:=kp r o ho (fun e=>hF (R.inF r e)) hrk
         exact absurd (this.symm.trans p3) (by simp)
  ·have hnr:t≠r':=fun e=>by
    rcases z2' with q1 | q1
    ·exact hF (R.inF t (by rw [e];exact q1))
    ·rw [e,q1] at ht;cases ht
   exact p4 t o (kp t o ht (fun e=>hF (R.inF t e)) hne) fun e=>e.elim hF hnr
end Go.Proofs.K
end
section
set_option linter.unusedSimpArgs false
set_option linter.unusedVariables false
namespace Go.Proofs.K
open Go Go.Sim Go.Proofs
variable {G:YZ}
def YW (l:List HAttr) (nm:List UInt8):List UInt8:=if 0<=J9 l nm then (nth l (J9 l nm).toNat).value else []
def c77:SFun:=⟨.seq (.reg [o 4 (.mv (.c (.str [])))]) (.seq (.seq (.reg [o 6 (.mv (.t 0)),o 7 (.mv (.t 1)),o 8 (.pcall 99 [.t 6,.t 7]),o 5 (.mv (.t 8))]) (.seq (.reg [o 9 (.mv (.t 5)),o 10 (.bin .geq (.t 9) (.c (.int .i64 0)))]) (.cond (.t 10) (.seq (.reg [o 11 (.mv (.t 0)),o 12 (.mv (.t 5)),o 13 (.idxA 2 (.t 11) (.t 12)),o 14 (.fldA 1 (.t 13)),o 15 (.ld 1 false (.t 14)),o 4 (.mv (.t 15))]) .ret) .skip))) (.seq (.reg [o 4 (.mv (.c (.str [])))]) .ret)),[.tmp 4]⟩
theorem hc77:Y3 Tryz.prog {pure:=[99]} Tryz.f77=some c77:=by kernel_rfl
theorem domOf_ok (l:List HAttr) (nm:List UInt8) (hl:l.length<=1073741824):PCalls (Pg G) 77 [sl Y0 l,.str nm] (.str (YW l nm)):=fun h=>by
 have cF:=find_ok (G:=G) l nm hl
 unfold YW
 obtain ⟨i,hi⟩:∃ i,J9 l nm=i:=⟨_,rfl⟩
 have hb:i<l.length:=by
  rw [<-hi]
  unfold J9
  cases hm:l.findIdx? (fun a=>a.name==nm) with
  | none=>unfold U8;rw [hm];simp only;omega
  | some j=>
    have:=(List.findIdx?_eq_some_iff_getElem.1 hm).1
    unfold U8;rw [hm];simp only;omega
 rw [hi] at cF ⊢
 by_cases h0:0<=i
 ·rw [if_pos h0]
  have d1:decide (0<=i)=true:=decide_eq_true h0
  refine Q0 Tryz.func77 (by kernel_rfl) hc77 (by rw [Tryz.ntmps77];simp) (by rw [Tryz.ntmps77];decide) ?_
  simp -dsimp -implicitDefEqProofs (disch:=omega) only [VCA,Nat.reduceEqDiff,↓reduceIte,reduceCtorEq,c77]
  repeat' (first | ((with_reducible refine brC (fun _=>?_) fun _=>?_) <;> try (exfalso;omega)) | (with_reducible apply pcallE.of; · exact cF) | (with_reducible refine And.intro ?_ ?_; · omega) | simp -dsimp -implicitDefEqProofs (disch:=omega) only [VCA,Nat.reduceEqDiff,↓reduceIte,reduceCtorEq,exists_eq_right,Y0,d1,Y0])
  all_goals exact Sub.refl _
 ·rw [if_neg h0]
  have d1:decide (0<=i)=false:=decide_eq_false h0
  refine Q0 Tryz.func77 (by kernel_rfl) hc77 (by rw [Tryz.ntmps77];simp) (by rw [Tryz.ntmps77];decide) ?_
  simp -dsimp -implicitDefEqProofs (disch:=omega) only [VCA,Nat.reduceEqDiff,↓reduceIte,reduceCtorEq,c77]
  repeat' (first | ((with_reducible refine brC (fun _=>?_) fun _=>?_) <;> try (exfalso;omega)) | (with_reducible apply pcallE.of; · exact cF) | (with_reducible refine And.intro ?_ ?_; · omega) | simp -dsimp -implicitDefEqProofs (disch:=omega) only [VCA,↓reduceIte,exists_eq_right,d1])
  all_goals exact Sub.refl _
end Go.Proofs.K
end
section
set_option linter.unusedSimpArgs false
set_option linter.unusedVariables false
namespace Go.Proofs.K
open Go Go.Sim Go.Proofs Go.Shelf
variable {G:YZ}
def c76:SFun:=⟨.seq (.reg [o 2 (.mv (.c .emp))]) (.seq (.seq (.reg [o 3 (.mv (.t 0)),o 4 (.bin .eql (.t 3) (.c (.str [])))]) (.cond (.t 4) (.seq (.reg [o 2 (.mv (.c .emp))]) .ret) .skip)) (.seq (.reg [o 5 (.mv (.t 0)),o 6 (.bldF 9 1 [.t 5]),o 2 (.mv (.t 6))]) .ret)),[.tmp 2]⟩
theorem hc76:Y3 Tryz.prog {} Tryz.f76=some c76:=by kernel_rfl
theorem oneOf_ok (s:List UInt8):PCalls (Pg G) 76 [.str s] (sl T0 (if s=[] then [] else [s])):=PCalls.outV fun h=>by
 by_cases hs:s=[]
 ·subst hs
  rw [if_pos rfl]
  refine Q0 Tryz.func76 (by kernel_rfl) hc76 (by rw [Tryz.ntmps76];simp) (by rw [Tryz.ntmps76];decide) ?_
  simp -dsimp -implicitDefEqProofs (disch:=omega) only [VCA,↓reduceIte,reduceCtorEq,c76]
  repeat' (first | ((with_reducible refine brC (fun _=>?_) fun _=>?_) <;> try (exfalso;omega)) | (with_reducible refine And.intro ?_ ?_; · omega) | simp -dsimp -implicitDefEqProofs (disch:=omega) only [VCA,↓reduceIte,reduceCtorEq,Z7])
  all_goals first | exact ⟨_,Sub.refl _,Sub.refl _,.one _ _ .emp⟩ | (rename_i q;exact absurd rfl q)
 ·rw [if_neg hs]
  have d1:(s==[])=false:=by simpa using hs
  refine Q0 Tryz.func76 (by kernel_rfl) hc76 (by rw [Tryz.ntmps76];simp) (by rw [Tryz.ntmps76];decide) ?_
  simp -dsimp -implicitDefEqProofs (disch:=omega) only [VCA,↓reduceIte,reduceCtorEq,Z7,c76,d1]
  repeat' (first | ((with_reducible refine brC (fun _=>?_) fun _=>?_) <;> try (exfalso;omega)) | (with_reducible refine And.intro ?_ ?_; · omega) | simp -dsimp -implicitDefEqProofs (disch:=omega) only [VCA,pg_gl,↓X6,Nat.reduceEqDiff,Nat.reduceBEq,Nat.reduceAdd,Nat.reduceSub,Nat.reduceMul,Nat.reduceLT,Nat.reduceLeDiff,↓reduceIte,reduceCtorEq,Y8,Z0,SOp.rd,SI.rd,SX.rd,rdL,rdO,rdP,Z7,X4,Y4,K8,X3,Z8,implies_true,forall_const,forall_eq,ne_eq,exists_eq_right_right,exists_eq_right,exists_eq_left,exists_eq_left',J1,Z6,T0,Y0,Q7,JT])
  exact ⟨_,Sub.refl _,Sub.refl _,.one _ _ (.refl _)⟩
def c19:SFun:=⟨.seq (.reg [o 2 (.mv (.c .emp))]) (.seq (.dreg [(o 3 (.mv (.t 0)),none),(o 4 (.fldA 0 (.t 3)),none),(o 5 (.fldA 0 (.t 4)),none),(o 6 (.mv (.t 0)),none),(o 7 (.fldA 0 (.t 6)),none),(o 8 (.fldA 1 (.t 7)),none),(o 9 (.mv (.t 0)),none),(o 10 (.fldA 0 (.t 9)),none),(o 11 (.fldA 2 (.t 10)),none),(o 12 (.mv (.t 0)),none),(o 13 (.fldA 0 (.t 12)),none),(o 14 (.fldA 3 (.t 13)),none),(o 15 (.bldF 62 1 [.t 5,.t 8,.t 11,.t 14]),none),(o 2 (.mv (.t 15)),none)]) .ret),[.tmp 2]⟩
theorem hc19:Y3 Tryz.prog {} Tryz.f19=some c19:=by kernel_rfl
theorem hn19 : (Tryz.f19.name == "runtime.NumGoroutine") = false := by kernel_rfl
theorem lists_ok {h:Q2} {rk:Nat}:DCalls (Pg G) 19 [.vp rk 0] h fun r h'=>r=.slc [[.vp rk 0],[.vp rk 1],[.vp rk 2],[.vp rk 3]]/\h'=h:=by
 refine Q0 Tryz.func19 hn19 hc19 (by rw [Tryz.ntmps19];simp) (by rw [Tryz.ntmps19];decide) ?_
 simp -dsimp -implicitDefEqProofs (disch:=omega) only [VCA,Nat.reduceEqDiff,↓reduceIte,reduceCtorEq,Y8,Z0,Z7,exists_eq_right,J1,c19]
 exact Sub.refl _
theorem attV_eq (l:List HAttr) (nm:List UInt8):(VW l nm).1=YW l nm:=by unfold VW YW;split <;> rfl
def one1 (s:List UInt8):List (List UInt8):=if s=[] then [] else [s]
def idS:List UInt8:=[105,100]
def ZJ:List UInt8:=[99,108,97,115,115]
def nameS:List UInt8:=[110,97,109,101]
def J7 (x:HNode):List (List (List UInt8)):=if x.kind≠2 then [[],[],[],[]] else [one1 (YW x.attrs idS),XU (YW x.attrs ZJ),[x.name],one1 (YW x.attrs nameS)]
def eWs (l:List (List UInt8)):List AVal:=[sl T0 l]
def c51:SFun:=⟨.seq (.reg [o 1 (.boxF 31 6 (.t 0)),o 2 (.mv (.c .emp))]) (.seq (.seq (.reg [o 4 (.fldA 0 (.t 1)),o 5 (.ld 1 false (.t 4)),o 6 (.bin .neq (.t 5) (.c (.int .i64 2)))]) (.cond (.t 6) (.seq (.reg [o 7 (.mks 78 1 24 [.emp] (.c (.int .i64 4)) (.c (.int .i64 4))),o 2 (.mv (.t 7))]) .ret) .skip)) (.seq (.reg [o 3 (.mv (.c (.fn 76 [] [])))]) (.seq (.dreg [(o 8 (.mv (.t 3)),none),(o 9 (.fldA 2 (.t 1)),none),(o 10 (.ld 1 false (.t 9)),none),(o 11 (.pcall 77 [.t 10,.c (.str [105,100])]),none),(o 13 (.fldA 2 (.t 1)),none),(o 14 (.ld 1 false (.t 13)),none),(o 17 (.fldA 1 (.t 1)),none),(o 18 (.ld 1 false (.t 17)),none),(o 19 (.bldF 9 1 [.t 18]),none),(o 20 (.mv (.t 3)),none),(o 21 (.fldA 2 (.t 1)),none),(o 22 (.ld 1 false (.t 21)),none),(o 12 (.call (.t 8) [.t 11]),(some [10])),(o 15 (.pcall 77 [.t 14,.c (.str [99,108,97,115,115])]),none),(o 16 (.pcall 35 [.t 15]),none),(o 23 (.pcall 77 [.t 22,.c (.str [110,97,109,101])]),none),(o 24 (.call (.t 20) [.t 23]),(some [22,14,10])),(o 25 (.bldF 78 1 [.t 12,.t 16,.t 19,.t 24]),none),(o 2 (.mv (.t 25)),none)]) .ret))),[.tmp 2]⟩
theorem hc51:Y3 Tryz.prog {pure:=[77,35,76]} Tryz.f51=some c51:=by kernel_rfl
theorem words4_ok (x:HNode) (hx:NodeSm x) (hs:(YW x.attrs ZJ).length<=1000000):PCalls (Pg G) 51 [.agg (Q7 x)] (sl eWs (J7 x)):=PCalls.outV fun h=>by
 have c1:=domOf_ok (G:=G) x.attrs idS hx.attrs
 have c2:=domOf_ok (G:=G) x.attrs ZJ hx.attrs
 have c3:=domOf_ok (G:=G) x.attrs nameS hx.attrs
 have c4:=words_ok (G:=G) _ hs
 have c5:=oneOf_ok (G:=G) (YW x.attrs idS)
 have c6:=oneOf_ok (G:=G) (YW x.attrs nameS)
 unfold idS at c1 c5
 unfold ZJ at c2 c4
 unfold nameS at c3 c6
 by_cases hk:x.kind=2
 ·have hw:J7 x=[one1 (YW x.attrs idS),XU (YW x.attrs ZJ),[x.name],one1 (YW x.attrs nameS)]:=if_neg (by simpa using hk)
  rw [hw]
  have d1:(x.kind != 2)=false:=by simpa using hk
  unfold one1 idS ZJ nameS
  obtain ⟨A1,hA1⟩:∃ A,(if YW x.attrs [105,100]=[] then [] else [YW x.attrs [105,100]])=A:=⟨_,rfl⟩
  obtain ⟨A4,hA4⟩:∃ A,(if YW x.attrs [110,97,109,101]=[] then [] else [YW x.attrs [110,97,109,101]])=A:=⟨_,rfl⟩
  obtain ⟨A2,hA2⟩:∃ A,XU (YW x.attrs [99,108,97,115,115])=A:=⟨_,rfl⟩
  rw [hA1] at c5
  rw [hA4] at c6
  rw [hA2] at c4
  rw [hA1,hA2,hA4]
  refine Q0 Tryz.func51 (by kernel_rfl) hc51 (by rw [Tryz.ntmps51];simp) (by rw [Tryz.ntmps51];decide) ?_
  simp -dsimp -implicitDefEqProofs (disch:=omega) only [VCA,Nat.reduceEqDiff,Nat.reduceAdd,Nat.reduceLeDiff,↓reduceIte,Y8,Z0,J1,Q7,c51,d1,Q7]
  repeat' (first | ((with_reducible refine brC (fun _=>?_) fun _=>?_) <;> try (exfalso;omega)) | (with_reducible apply pcallE.of; · exact c1) | (with_reducible apply pcallE.of; · exact c2) | (with_reducible apply pcallE.of; · exact c3) | (with_reducible apply pcallE.of; · exact c4) | (with_reducible apply pcallE.of; · exact c5) | (with_reducible apply pcallE.of; · exact c6) | ((refine DCalls.of (c5 _) ?_;rintro _ _ ⟨rfl,rfl⟩)) | ((refine DCalls.of (c6 _) ?_;rintro _ _ ⟨rfl,rfl⟩)) | ((refine DCalls.of (c4 _) ?_;rintro _ _ ⟨rfl,rfl⟩)) | (with_reducible refine And.intro ?_ ?_; · omega) | simp -dsimp -implicitDefEqProofs (disch:=omega) only [VCA,Nat.reduceEqDiff,Nat.reduceAdd,Nat.reduceLeDiff,↓reduceIte,Y8,Z0,SOp.rd,SI.rd,SX.rd,rdL,Z7,J1])
  refine (show Hd (vcD _ _ _ _ _) _ Wit.mk from ?_)
  simp -dsimp -implicitDefEqProofs (disch:=omega) only [VCA,Nat.reduceEqDiff,↓reduceIte,Y8,Z0,Z7,J1]
  exact ⟨_,Sub.refl _,Sub.refl _,.one _ _ (.refl _)⟩
 ·have hw:J7 x=[[],[],[],[]]:=if_pos hk
  rw [hw]
  have d1:(x.kind != 2)=true:=by simpa using hk
  refine Q0 Tryz.func51 (by kernel_rfl) hc51 (by rw [Tryz.ntmps51];simp) (by rw [Tryz.ntmps51];decide) ?_
  simp -dsimp -implicitDefEqProofs (disch:=omega) only [VCA,Nat.reduceEqDiff,Nat.reduceAdd,Nat.reduceLeDiff,↓reduceIte,Q7,c51,d1,Q7]
  refine ⟨by decide,by decide,by decide,by decide,fun r hr=>⟨_,Sub.refl _,(Sub.refl _).upd hr,.one _ _ (Vw.osl0 (by rw [UJ hr];exact Q5 _ _ _) rfl (by decide) (fun f hf=>?_) ?_)⟩⟩
  ·obtain ⟨w,_,rfl⟩:=List.mem_map.1 hf;rfl
  ·exact .cons (.cons .emp .nil) (.cons (.cons .emp .nil) (.cons (.cons .emp .nil) (.cons (.cons .emp .nil) .nil)))
theorem RefAt.there {h:Q2} {a:AVal} {l:List HRef} {nv:Nat->AVal} {F:Nat->Prop} (R:RefAt h a l nv F):RefAt h a l nv fun r=>F r/\h r≠none:=
 ⟨R.own,R.mt,fun r hr=>⟨R.inF r hr,fun e=>by obtain ⟨o,ho⟩:=R.own.there hr;rw [e] at ho;cases ho⟩,
   fun j hj=>⟨(R.num j hj).1,(R.num j hj).2.1,fun r hr=>⟨⟨((R.num j hj).2.2 r hr).1,fun e=>by obtain ⟨o,ho⟩:=(R.num j hj).1.there hr;rw [e] at ho;cases ho⟩,((R.num j hj).2.2 r hr).2⟩⟩,R.two⟩
structure KS (h0 h:Q2) (rk rM:Nat) (es:List (Int×Int)) (As:List AVal) (Ls:List (List HRef)) (nvs:Nat->Nat->AVal) (Fs:Nat->Nat->Prop):Prop where
 len:As.length=4
 llen:Ls.length=4
 kp:h rk=some (kpO As rM)
 mp:h rM=some ⟨.m 58 (eM es),1,[]⟩
 k0:h0 rk=none
 m0:h0 rM=none
 ref:∀ c,c<4 -> ∃ a,As[c]? = some a/\RefAt h a (nth Ls c) (nvs c) (Fs c)
 dom:∀ c r,c<4->Fs c r->h r≠none/\h0 r=none/\r≠rk/\r≠rM
 apart:∀ c d r,c<4->d<4->c≠d->Fs c r->¬ Fs d r
 sub:Sim.Sub h0 h
theorem KS.put {h0 h h':Q2} {rk rM:Nat} {es:List (Int×Int)} {As:List AVal} {Ls:List (List HRef)} {nvs:Nat->Nat->AVal} {Fs:Nat->Nat->Prop} (S:KS h0 h rk rM es As Ls nvs Fs) {c:Nat} (hc:c<4) {a':AVal} {l':List HRef} {nv':Nat->AVal} {F':Nat->Prop}
 (p1:h' rk=some (kpO (As.set c a') rM)) (p2:RefAt h' a' l' nv' F') (p3:∀ r,F' r->Fs c r\/h r=none) (p4:∀ t o,h t=some o->¬ Fs c t->t≠rk->h' t=some o) :
 KS h0 h' rk rM es (As.set c a') (Ls.set c l') (fun d=>if d=c then nv' else nvs d) (fun d r=>if d=c then F' r/\h' r≠none else Fs d r):=by
 have kM:rM≠rk:=fun e=>by have h1:=S.mp;rw [e,S.kp] at h1;cases h1
 have nM:¬ Fs c rM:=fun e=>(S.dom c rM hc e).2.2.2 rfl
 have hF':∀ r,F' r->h0 r=none/\r≠rk/\r≠rM:=fun r hr=>by
  rcases p3 r hr with q | q
  ·exact (S.dom c r hc q).2
  ·exact ⟨S.sub.none q,(fun e=>by rw [e,S.kp] at q;cases q),(fun e=>by rw [e,S.mp] at q;cases q)⟩
 refine ⟨by rw [List.length_set];exact S.len,by rw [List.length_set];exact S.llen,p1,p4 _ _ S.mp nM kM,S.k0,S.m0,fun d hd=>?_,fun d r hd hr=>?_,fun d1 d2 r h1 h2 hne hr=>?_,fun t o ht=>?_⟩
 ·by_cases q:d=c
  ·subst q
   refine ⟨a',by rw [List.getElem?_set,if_pos rfl,if_pos (by rw [S.len];exact hd)],?_⟩
   rw [K9 _ _ _ _ (by rw [S.llen];exact hd)]
   simp only [if_true]
   exact p2.there
  ·obtain ⟨a,g1,g2⟩:=S.ref d hd
   refine ⟨a,by rw [List.getElem?_set,if_neg (fun e=>q e.symm)];exact g1,?_⟩
   rw [K9 _ _ _ _ (by rw [S.llen];exact hc)]
   simp only [if_neg q]
   exact g2.keep fun r o hr ho=>p4 r o ho (S.apart d c r hd hc q hr) (S.dom d r hd hr).2.2.1
 ·by_cases q:d=c
  ·have hr:F' r/\h' r≠none:=by simpa only [if_pos q] using hr
   exact ⟨hr.2,hF' r hr.1⟩
  ·have hr:Fs d r:=by simpa only [if_neg q] using hr
   obtain ⟨g1,g2⟩:=S.dom d r hd hr
   refine ⟨fun e=>?_,g2⟩
   cases ho:h r with
   | none=>exact g1 ho
   | some o=>
     have:=p4 r o ho (S.apart d c r hd hc q hr) g2.2.1
     rw [e] at this;cases this
 ·have key:∀ d,d<4->d≠c->Fs d r->¬ F' r:=fun d hd q g e=>by
   rcases p3 r e with e | e
   ·exact S.apart d c r hd hc q g e
   ·exact (S.dom d r hd g).1 e
  by_cases q1:d1=c
  ·have hr:F' r/\h' r≠none:=by simpa only [if_pos q1] using hr
   have q2:d2≠c:=fun e=>hne (q1.trans e.symm)
   simp only [if_neg q2]
   exact fun g=>key d2 h2 q2 g hr.1
  ·have hr:Fs d1 r:=by simpa only [if_neg q1] using hr
   by_cases q2:d2=c
   ·simp only [if_pos q2]
    exact fun g=>key d1 h1 q1 hr g.1
   ·simp only [if_neg q2];exact S.apart d1 d2 r h1 h2 hne hr
 ·exact p4 t o (S.sub t o ht) (fun e=>by have:=(S.dom c t hc e).2.1;rw [ht] at this;cases this) (fun e=>by have:=S.k0;rw [<-e,ht] at this;cases this)
end Go.Proofs.K
end
section
set_option linter.unusedSimpArgs false
set_option linter.unusedVariables false
namespace Go.Proofs.K
open Go Go.Sim Go.Proofs
def Rise (l:List HRef):Prop:=l.Pairwise fun x y=>ltS x.word y.word=true
def kOf (l:List HRef) (w:List UInt8):Nat:=(l.takeWhile fun x=>ltS x.word w).length
theorem kOf_le (l:List HRef) (w:List UInt8):kOf l w<=l.length:=by
 unfold kOf;exact (List.takeWhile_sublist _).length_le
theorem kOf_lt {l:List HRef} {w:List UInt8}:∀ {j:Nat},j<kOf l w->ltS (nth l j).word w=true:=by
 unfold kOf
 induction l with
 | nil=>intro j hj;exact absurd hj (Nat.not_lt_zero j)
 | cons x r ih=>
   intro j hj
   rw [List.takeWhile_cons] at hj
   split at hj
   ·rename_i hx
    cases j with
    | zero=>exact hx
    | succ j=>exact ih (by simpa using hj)
   ·exact absurd hj (Nat.not_lt_zero j)
theorem kOf_ge {l:List HRef} {w:List UInt8} (hR:Rise l):∀ {j:Nat},kOf l w<=j->j<l.length->ltS (nth l j).word w=false:=by
 unfold kOf
 induction l with
 | nil=>intro j _ hj;exact absurd hj (Nat.not_lt_zero j)
 | cons x r ih=>
   intro j hk hj
   have hR':=List.pairwise_cons.1 hR
   rw [List.takeWhile_cons] at hk
   split at hk
   ·cases j with
    | zero=>simp at hk
    | succ j=>exact ih hR'.2 (by simpa using hk) (by simpa using hj)
   ·rename_i hx
    have hx:ltS x.word w=false:=by simpa using hx
    cases j with
    | zero=>exact hx
    | succ j=>
      have hj':j<r.length:=by simpa using hj
      have h1:=hR'.1 _ (Y7 hj')
      show ltS (nth r j).word w=false
      cases h2:ltS (nth r j).word w with
      | false=>rfl
      | true=>have:=ltS_trans _ _ _ h1 h2;rw [hx] at this;cases this
theorem Rise.lt {l:List HRef} (hR:Rise l) {i j:Nat} (h:i<j) (hj:j<l.length):ltS (nth l i).word (nth l j).word=true:=by
 have h3:=List.pairwise_iff_getElem.1 hR i j (by omega) hj h
 have q1:=J5 (show i<l.length by omega)
 have q2:=J5 hj
 rw [List.getElem?_eq_getElem (by omega)] at q1 q2
 rw [<-Option.some.inj q1,<-Option.some.inj q2];exact h3
theorem Rise.of {l:List HRef} (h:∀ i j,i<j->j<l.length->ltS (nth l i).word (nth l j).word=true):Rise l:=by
 refine List.pairwise_iff_getElem.2 fun i j hi hj hij=>?_
 have q1:=J5 hi
 have q2:=J5 hj
 rw [List.getElem?_eq_getElem (by omega)] at q1 q2
 rw [Option.some.inj q1,Option.some.inj q2];exact h i j hij hj
theorem Rise.ins {l:List HRef} (hR:Rise l) {w:List UInt8} (ns:List Int) (hne:¬ (kOf l w<l.length/\(nth l (kOf l w)).word=w)):Rise (JQ l (kOf l w) ⟨w,ns⟩):=by
 have hk:=kOf_le l w
 obtain ⟨k,hkk⟩:∃ k,kOf l w=k:=⟨_,rfl⟩
 have a1:∀ j,j<k->ltS (nth l j).word w=true:=fun j hj=>kOf_lt (by omega)
 have a2:∀ j,k<=j->j<l.length->ltS w (nth l j).word=true:=fun j h1 h2=>by
  have h3:=kOf_ge hR (w:=w) (j:=j) (by omega) h2
  rcases ltS_tri (nth l j).word w with q | q | q
  ·rw [h3] at q;cases q
  ·exfalso
   by_cases e:j=k
   ·exact hne (by rw [hkk,<-e];exact ⟨h2,q⟩)
   ·have h4:=hR.lt (show k<j by omega) h2
    rw [q,kOf_ge hR (by omega) (by omega)] at h4;cases h4
  ·exact q
 rw [hkk] at hk ⊢
 have il:=UW l k (⟨w,ns⟩:HRef) hk
 refine Rise.of fun i j hij hj=>?_
 rw [JZ _ _ _ hk,JZ _ _ _ hk]
 (repeat' split) <;> first
   | (exfalso;omega)
   | exact hR.lt (by omega) (by omega)
   | exact a1 _ (by omega)
   | exact a2 _ (by omega) (by omega)
theorem Rise.set {l:List HRef} (hR:Rise l) {k:Nat} (hk:k<l.length) (ns:List Int):Rise (l.set k ⟨(nth l k).word,ns⟩):=by
 refine Rise.of fun i j hij hj=>?_
 rw [List.length_set] at hj
 rw [K9 _ _ _ _ hk,K9 _ _ _ _ hk]
 (repeat' split) <;> first
   | (exfalso;omega)
   | (rename_i h1 h2;subst h1;exact hR.lt (by omega) (by omega))
   | (rename_i h1 h2;subst h2;exact hR.lt (by omega) (by omega))
   | exact hR.lt (by omega) (by omega)
def putE (l:List HRef) (w:List UInt8) (n:Int):List HRef:=putL l (kOf l w) (nth l (kOf l w)).nodes.length w n
theorem Rise.putE {l:List HRef} (hR:Rise l) (w:List UInt8) (n:Int):Rise (putE l w n):=by
 unfold Go.Proofs.K.putE putL
 split
 ·rename_i h
  have:=hR.set h.1 (JQ (nth l (kOf l w)).nodes (nth l (kOf l w)).nodes.length n)
  rw [h.2] at this;exact this
 ·rename_i h;exact hR.ins [n] h
abbrev YV:=List (List UInt8×Int)
def K5 (P:YV) (w:List UInt8):List Int:=(P.filter fun x=>x.1==w).map (·.2)
theorem QT (P Q:YV) (w:List UInt8):K5 (P++Q) w=K5 P w++K5 Q w:=by
 unfold K5;rw [List.filter_append,List.map_append]
theorem JV (v w:List UInt8) (n:Int):K5 [(v,n)] w=if v=w then [n] else []:=by
 unfold K5
 by_cases h:v=w
 ·have:((v,n).1==w)=true:=by simpa using h
  rw [List.filter_cons,if_pos this,if_pos h];rfl
 ·have:((v,n).1==w)=false:=by simpa using h
  rw [List.filter_cons,this,if_neg h];rfl
theorem mem_nodesOf {P:YV} {w:List UInt8} {n:Int}:n∈K5 P w↔(w,n)∈P:=by
 unfold K5
 rw [List.mem_map]
 constructor
 ·rintro ⟨⟨v,m⟩,h1,rfl⟩
  obtain ⟨h2,h3⟩:=List.mem_filter.1 h1
  have h3:v=w:=by simpa using h3
  rw [<-h3];exact h2
 ·exact fun h=>⟨(w,n),List.mem_filter.2 ⟨h,by simp⟩,rfl⟩
structure Spec (L:List HRef) (P:YV):Prop where
 rise:Rise L
 row:∀ j,j<L.length->(nth L j).nodes=K5 P (nth L j).word/\K5 P (nth L j).word≠[]
 all:∀ w,K5 P w≠[] -> ∃ j,j<L.length/\(nth L j).word=w
theorem Spec.nil:Spec [] []:=⟨List.Pairwise.nil,fun j hj=>absurd hj (Nat.not_lt_zero j),fun w h=>absurd rfl h⟩
theorem insL_end {α:Type} (l:List α) (x:α):JQ l l.length x=l++[x]:=by
 unfold JQ;rw [List.take_length,List.drop_length]
theorem Rise.one {l:List HRef} (hR:Rise l) {i j:Nat} (hi:i<l.length) (hj:j<l.length) (h:(nth l i).word=(nth l j).word):i=j:=by
 rcases Nat.lt_trichotomy i j with q | q | q
 ·have:=hR.lt q hj;rw [h,YQ] at this;cases this
 ·exact q
 ·have:=hR.lt q hi;rw [h,YQ] at this;cases this
theorem Rise.none {l:List HRef} (hR:Rise l) {w:List UInt8} (hne:¬ (kOf l w<l.length/\(nth l (kOf l w)).word=w)):∀ j,j<l.length->(nth l j).word≠w:=by
 intro j hj e
 by_cases h1:j<kOf l w
 ·have:=kOf_lt h1;rw [e,YQ] at this;cases this
 ·by_cases h2:j=kOf l w
  ·exact hne ⟨by omega,by rw [<-h2];exact e⟩
  ·have h3:=hR.lt (show kOf l w<j by omega) hj
   rw [e,kOf_ge hR (Nat.le_refl _) (by omega)] at h3;cases h3
theorem Spec.put {L:List HRef} {P:YV} (S:Spec L P) (w:List UInt8) (n:Int):Spec (putE L w n) (P++[(w,n)]):=by
 have hR:=S.rise.putE w n
 have hk:=kOf_le L w
 unfold putE putL at hR ⊢
 by_cases hf:kOf L w<L.length/\(nth L (kOf L w)).word=w
 ·rw [if_pos hf] at hR ⊢
  obtain ⟨k,hkk⟩:∃ k,kOf L w=k:=⟨_,rfl⟩
  rw [hkk] at hf hR ⊢
  rw [insL_end] at hR ⊢
  refine ⟨hR,fun j hj=>?_,fun v hv=>?_⟩
  ·rw [List.length_set] at hj
   rw [K9 _ _ _ _ hf.1,QT,JV]
   split
   ·rename_i e
    have h1:=(S.row k hf.1).1
    rw [hf.2] at h1
    simp only [if_true]
    rw [h1]
    exact ⟨rfl,by simp⟩
   ·rename_i e
    have h2:w≠(nth L j).word:=fun h=>e (S.rise.one hj hf.1 (by rw [hf.2,h]))
    rw [if_neg h2,List.append_nil]
    exact S.row j hj
  ·by_cases e:v=w
   ·exact ⟨k,by rw [List.length_set];exact hf.1,by rw [K9 _ _ _ _ hf.1,if_pos rfl];exact e.symm⟩
   ·rw [QT,JV,if_neg (fun h=>e h.symm),List.append_nil] at hv
    obtain ⟨j,hj,hw⟩:=S.all v hv
    refine ⟨j,by rw [List.length_set];exact hj,?_⟩
    rw [K9 _ _ _ _ hf.1,if_neg (fun h=>e (by rw [<-hw,h,hf.2]))];exact hw
 ·rw [if_neg hf] at hR ⊢
  have hno:=S.rise.none hf
  have h0:K5 P w=[]:=Classical.byContradiction fun h=>by
   obtain ⟨j,hj,hw⟩:=S.all w h
   exact hno j hj hw
  obtain ⟨k,hkk⟩:∃ k,kOf L w=k:=⟨_,rfl⟩
  rw [hkk] at hk hR ⊢
  have il:=UW L k ⟨w,[n]⟩ hk
  refine ⟨hR,fun j hj=>?_,fun v hv=>?_⟩
  ·rw [il] at hj
   have old:∀ i,i<L.length->(nth L i).nodes=K5 (P++[(w,n)]) (nth L i).word/\K5 (P++[(w,n)]) (nth L i).word≠[]:=fun i hi=>by
    rw [QT,JV,if_neg (fun h=>hno i hi h.symm),List.append_nil];exact S.row i hi
   rw [JZ _ _ _ hk]
   split
   ·exact old j (by omega)
   ·split
    ·rw [QT,JV,if_pos rfl]
     exact ⟨by rw [h0];rfl,by simp⟩
    ·exact old (j-1) (by omega)
  ·by_cases e:v=w
   ·exact ⟨k,by omega,by rw [JZ _ _ _ hk,if_neg (by omega),if_pos rfl];exact e.symm⟩
   ·rw [QT,JV,if_neg (fun h=>e h.symm),List.append_nil] at hv
    obtain ⟨j,hj,hw⟩:=S.all v hv
    by_cases h1:j<k
    ·exact ⟨j,by omega,by rw [JZ _ _ _ hk,if_pos h1];exact hw⟩
    ·exact ⟨j+1,by omega,by rw [JZ _ _ _ hk,if_neg (by omega),if_neg (by omega),Nat.add_sub_cancel];exact hw⟩
def idxL (P:YV):List HRef:=P.foldl (fun L x=>putE L x.1 x.2) []
theorem idxL_snoc (P:YV) (w:List UInt8) (n:Int):idxL (P++[(w,n)])=putE (idxL P) w n:=by
 unfold idxL;rw [List.foldl_append];rfl
theorem idxL_is:∀ P:YV,Spec (idxL P) P:=fun P=>by
 suffices h:∀ (Q P:YV) (L:List HRef),Spec L P->Spec (Q.foldl (fun L x=>putE L x.1 x.2) L) (P++Q) by
  have:=h P [] [] .nil;exact this
 intro Q
 induction Q with
 | nil=>intro P L S;rw [List.append_nil];exact S
 | cons x r ih=>
   intro P L S
   have:=ih (P++[x]) _ (S.put x.1 x.2)
   rw [List.append_assoc] at this;exact this
theorem putE_len (L:List HRef) (w:List UInt8) (n:Int):(putE L w n).length<=L.length+1:=by
 unfold putE putL
 split
 ·rw [List.length_set];omega
 ·rw [UW _ _ _ (kOf_le L w)];omega
theorem idxL_len (P:YV):(idxL P).length<=P.length:=by
 suffices h:∀ (Q:YV) (L:List HRef),(Q.foldl (fun L x=>putE L x.1 x.2) L).length<=L.length+Q.length by
  have:=h P [];simpa [idxL] using this
 intro Q
 induction Q with
 | nil=>intro L;exact Nat.le_refl _
 | cons x r ih=>
   intro L
   have h1:=ih (putE L x.1 x.2)
   have h2:=putE_len L x.1 x.2
   simp only [List.foldl_cons,List.length_cons] at h1 ⊢; omega
theorem nodesOf_len (P:YV) (w:List UInt8):(K5 P w).length<=P.length:=by
 unfold K5;rw [List.length_map];exact List.length_filter_le _ _
theorem Spec.rank {L:List HRef} {P:YV} (S:Spec L P) {w:List UInt8} {n:Int} {rk:Int->Int} (hP:P.length<=99999) (hr:∀ m,(w,m)∈P->rk m<rk n) (hk:kOf L w<L.length) (hw:(nth L (kOf L w)).word=w) :
 (nth L (kOf L w)).nodes.length<=99999/\(nth L (kOf L w)).nodes.length<=(nth L (kOf L w)).nodes.length/\(∀ j,j<(nth L (kOf L w)).nodes.length->rk (nth (nth L (kOf L w)).nodes j)<rk n) /\
   ∀ j,(nth L (kOf L w)).nodes.length<=j->j<(nth L (kOf L w)).nodes.length->rk n<=rk (nth (nth L (kOf L w)).nodes j):=by
 have h1:=(S.row _ hk).1
 refine ⟨by rw [h1];exact Nat.le_trans (nodesOf_len _ _) hP,Nat.le_refl _,fun j hj=>hr _ ?_,fun j h2 h3=>absurd h3 (by omega)⟩
 have h2:=Y7 hj
 rw [h1,hw] at h2
 rw [h1,hw];exact mem_nodesOf.1 h2
end Go.Proofs.K
end
section
set_option linter.unusedSimpArgs false
set_option linter.unusedVariables false
namespace Go.Proofs.K
open Go Go.Sim Go.Proofs Go.Shelf
variable {G:YZ}
def KX (h0 h:Q2) (rk rM:Nat) (es:List (Int×Int)) (Q:Nat->YV):Prop:=∃ As Ls nvs Fs,KS h0 h rk rM es As Ls nvs Fs /\ ∀ c,c<4->nth Ls c=idxL (Q c)
theorem KX.congr {h0 h:Q2} {rk rM:Nat} {es:List (Int×Int)} {Q Q':Nat->YV} (X:KX h0 h rk rM es Q) (hq:∀ c,c<4->Q c=Q' c):KX h0 h rk rM es Q':=by
 obtain ⟨As,Ls,nvs,Fs,S,hQ⟩:=X
 exact ⟨As,Ls,nvs,Fs,S,fun c hc=>by rw [hQ c hc,hq c hc]⟩
theorem putK_ok {h0 h:Q2} {rk rM:Nat} {es:List (Int×Int)} {Q:Nat->YV} (X:KX h0 h rk rM es Q) {c:Nat} (hc:c<4) (hl:(Q c).length<=99999) {w:List UInt8} {n:Int} (hr:∀ m,(w,m)∈Q c->rkI es m<rkI es n) :
 DCalls (Pg G) 27 [.vp rk 0,.vp rk c,.str w,Q3 n] h fun _ h'=>KX h0 h' rk rM es fun d=>if d=c then Q c++[(w,n)] else Q d:=by
 obtain ⟨As,Ls,nvs,Fs,S,hQ⟩:=X
 obtain ⟨a,ha,R⟩:=S.ref c hc
 have I:=idxL_is (Q c)
 have hL:=hQ c hc
 rw [hL] at R
 have hll:=idxL_len (Q c)
 refine (put_ok (G:=G) (w:=w) (n:=n) S.kp S.len hc ha S.mp R (fun h=>(S.dom c rk hc h).2.2.1 rfl) (fun h=>(S.dom c rM hc h).2.2.2 rfl) (by omega) (kOf_le _ w) (fun j hj=>kOf_lt hj) (fun j h1 h2=>kOf_ge I.rise h1 h2) (I.rank hl hr)).mono fun r h' hp=>?_
 obtain ⟨a',nv',F',p1,p2,p3,p4⟩:=hp
 refine ⟨_,_,_,_,S.put hc p1 p2 p3 p4,fun d hd=>?_⟩
 rw [K9 _ _ _ _ (by rw [S.llen];exact hc)]
 by_cases e:d=c
 ·rw [if_pos e];simp only [if_pos e];rw [idxL_snoc];rfl
 ·rw [if_neg e];simp only [if_neg e];exact hQ d hd
def prs (W:List (List UInt8)) (n:Int):YV:=W.map fun w=>(w,n)
def addQ (Q:Nat->YV) (W:List (List (List UInt8))) (n:Int) (c k d:Nat):YV:=Q d++if d<c then prs (nth W d) n else if d=c then prs ((nth W d).take k) n else []
def newQ (Q:Nat->YV) (W:List (List (List UInt8))) (n:Int) (d:Nat):YV:=Q d++prs (nth W d) n
theorem prs_len (W:List (List UInt8)) (n:Int):(prs W n).length=W.length:=by unfold prs;rw [List.length_map]
theorem mem_prs {W:List (List UInt8)} {n m:Int} {w:List UInt8} (h:(w,m)∈prs W n):w∈W/\m=n:=by
 obtain ⟨v,hv,e⟩:=List.mem_map.1 h
 cases e;exact ⟨hv,rfl⟩
structure WOK (W:List (List (List UInt8))):Prop where
 len:W.length=4
 nd:∀ c,c<4->(nth W c).Nodup
 le:∀ c,c<4->(nth W c).length<=420
instance:LenE eWs 1:=⟨fun _=>rfl⟩
def c25:SFun:=⟨.seq (.reg [o 5 (.boxF 31 6 (.t 1))]) (.seq (.reg [o 13 (.ld 6 true (.t 5)),o 14 (.pcall 51 [.t 13]),o 8 (.mv (.t 14))]) (.seq (.reg [o 15 (.mv (.t 0)),o 16 (.fldA 0 (.t 15)),o 17 (.fldA 0 (.t 16)),o 18 (.call (.c (.fn 19 [] [])) [.t 17]),o 19 (.len (.t 18)),o 20 (.mv (.c (.int .i64 0)))]) (.block 0 (.loop (.seq (.reg [o 21 (.bin .lss (.t 20) (.t 19))]) (.seq (.cond (.t 21) .skip (.exit 0)) (.seq (.block 1 (.seq (.reg [o 22 (.mv (.t 20)),o 23 (.idxA 1 (.t 18) (.t 20)),o 24 (.ld 1 false (.t 23)),o 9 (.mv (.t 22)),o 10 (.mv (.t 24))]) (.seq (.reg [o 25 (.mv (.t 8)),o 26 (.mv (.t 9)),o 27 (.idxA 1 (.t 25) (.t 26)),o 28 (.ld 1 false (.t 27)),o 29 (.len (.t 28)),o 30 (.mv (.c (.int .i64 0)))]) (.block 2 (.loop (.seq (.reg [o 31 (.bin .lss (.t 30) (.t 29))]) (.seq (.cond (.t 31) .skip (.exit 2)) (.seq (.block 3 (.seq (.reg [o 32 (.idxA 1 (.t 28) (.t 30)),o 33 (.ld 1 false (.t 32)),o 12 (.mv (.t 33))]) (.reg [o 34 (.mv (.t 3)),o 35 (.mv (.t 10)),o 36 (.mv (.t 12)),o 37 (.mv (.t 2)),o 38 (.call (.t 34) [.t 35,.t 36,.t 37])]))) (.reg [o 39 (.bin .add (.t 30) (.c (.int .i64 1))),o 30 (.mv (.t 39))]))))))))) (.reg [o 40 (.bin .add (.t 20) (.c (.int .i64 1))),o 20 (.mv (.t 40))])))))))),[]⟩
theorem hc25:Y3 Tryz.prog {pure:=[51]} Tryz.f25=some c25:=by kernel_rfl
theorem turnG_ok {h:Q2} {rk f:Nat} (x:HNode) (hx:NodeSm x) (hs:(YW x.attrs ZJ).length<=1000000) (hW:WOK (J7 x)) (n:Int) (St:Nat->Nat->Q2->Prop) (h0:St 0 0 h)
 (hstep:∀ c k h',c<4->k<(nth (J7 x) c).length->St c k h'->DCalls (Pg G) f [.vp rk 0,.vp rk c,.str (nth (nth (J7 x) c) k),Q3 n] h' fun _ h2=>St c (k+1) h2)
 (hnext:∀ c h',c<4->St c (nth (J7 x) c).length h'->St (c+1) 0 h') :
 DCalls (Pg G) 25 [.vp rk 0,.agg (Q7 x),Q3 n,.fn f [.vp rk 0] []] h fun _ h'=>St 4 0 h':=by
 have cW:=words4_ok (G:=G) x hx hs
 obtain ⟨W,hWe⟩:∃ W,J7 x=W:=⟨_,rfl⟩
 rw [hWe] at cW hW hstep hnext
 refine Q0 Tryz.func25 (by kernel_rfl) hc25 (by rw [Tryz.ntmps25];simp) (by rw [Tryz.ntmps25];decide) ?_
 have l6:(Q7 x).length=6:=rfl
 have t6:List.take 6 (Q7 x)=Q7 x:=rfl
 have hd6:(6:Nat)<=6:=Nat.le_refl 6
 simp -dsimp -implicitDefEqProofs (disch:=omega) only [VCA,Nat.reduceEqDiff,↓reduceIte,c25,l6,t6]
 repeat' (first | ((with_reducible refine brC (fun _=>?_) fun _=>?_) <;> try (exfalso;omega)) | (with_reducible apply pcallE.of; · exact cW) | (with_reducible refine And.intro ?_ ?_; · omega) | simp -dsimp -implicitDefEqProofs (disch:=omega) only [VCA,↓reduceIte,reduceCtorEq])
 refine DCalls.of lists_ok ?_
 rintro v h1 ⟨rfl,rfl⟩
 simp -dsimp -implicitDefEqProofs (disch:=omega) only [VCA,Nat.reduceAdd,↓reduceIte]
 refine LoopVC.intro (fun m e h'=>∃ c:Nat,c<=4/\m=4-c/\e 2=Q3 n/\e 3=.fn f [.vp rk 0] []/\e 8=sl eWs W/\e 18=.slc [[.vp rk 0],[.vp rk 1],[.vp rk 2],[.vp rk 3]]/\e 19=Q3 4/\e 20=Q3 c/\St c 0 h') 4 ⟨0,by omega,by omega,rfl,rfl,rfl,rfl,rfl,rfl,h0⟩ ?_
 rintro m e h' ⟨c,hc,rfl,e2,e3,e8,e18,e19,e20,Y⟩
 simp -dsimp -implicitDefEqProofs (disch:=omega) only [VCA,↓reduceIte,e19,e20]
 refine Br.dec (fun hlt=>?_) (fun hge=>?_)
 ·have hc4:c<4:=by omega
  have hcell:([[.vp rk 0],[.vp rk 1],[.vp rk 2],[.vp rk 3]]:List (List AVal)).getD c []=[.vp rk c]:=by
   rcases (show c=0\/c=1\/c=2\/c=3 by omega) with rfl | rfl | rfl | rfl <;> rfl
  have hWl:=hW.len
  have hwl:=hW.le c hc4
  have hst:=fun k h'=>hstep c k h' hc4
  have hnx:=fun h'=>hnext c h' hc4
  obtain ⟨V,hV⟩:∃ V,nth W c=V:=⟨_,rfl⟩
  rw [hV] at hwl hst hnx
  simp -dsimp -implicitDefEqProofs (disch:=omega) only [VCA,Nat.reduceEqDiff,Nat.reduceAdd,↓reduceIte,eWs,e8,e18,e20,hcell,eWs,hV]
  refine ⟨⟨by omega,by omega⟩,by omega,?_⟩
  refine LoopVC.intro (fun m e1 h2=>∃ k:Nat,k<=V.length/\m=V.length-k/\e1 2=Q3 n/\e1 3=.fn f [.vp rk 0] []/\e1 8=sl eWs W/\e1 18=.slc [[.vp rk 0],[.vp rk 1],[.vp rk 2],[.vp rk 3]]/\e1 19=Q3 4/\e1 20=Q3 c/\e1 10=.vp rk c/\e1 28=sl T0 V/\e1 29=Q3 V.length/\e1 30=Q3 k/\St c k h2) V.length
   (by exact ⟨0,by omega,by omega,e2,e3,e8,e18,e19,e20,rfl,rfl,rfl,rfl,Y⟩) ?_
  rintro m e1 h2 ⟨k,hk,rfl,f2,f3,f8,f18,f19,f20,f10,f28,f29,f30,Z⟩
  simp -dsimp -implicitDefEqProofs (disch:=omega) only [VCA,↓reduceIte,f29,f30]
  refine Br.dec (fun hlt2=>?_) (fun hge2=>?_)
  ·have hk':k<V.length:=by omega
   have hP:=hst k h2 hk' Z
   simp -dsimp -implicitDefEqProofs (disch:=omega) only [VCA,Nat.reduceEqDiff,↓reduceIte,T0,f2,f3,f10,f28,f30]
   refine ⟨⟨by omega,by omega⟩,DCalls.of hP ?_⟩
   intro v h3 Z3
   simp -dsimp -implicitDefEqProofs (disch:=omega) only [VCA,Nat.reduceEqDiff,↓reduceIte,f2,f3,f10,f28,f29,f30]
   exact ⟨_,by omega,k+1,by omega,rfl,f8,f18,f19,f20,by first | rfl | (congr 1) | omega,Z3⟩
  ·obtain rfl:k=V.length:=by omega
   simp -dsimp -implicitDefEqProofs (disch:=omega) only [VCA,Nat.reduceEqDiff,↓reduceIte,f20]
   exact ⟨_,by omega,c+1,by omega,rfl,f2,f3,f8,f18,f19,by first | rfl | (congr 1) | omega,hnx h2 Z⟩
 ·obtain rfl:c=4:=by omega
  simp -dsimp -implicitDefEqProofs (disch:=omega) only [VCA,Nat.reduceSub,↓reduceIte]
  exact ⟨_,Sub.refl _,Y⟩
theorem turn_ok {h0 h:Q2} {rk rM:Nat} {es:List (Int×Int)} {Q:Nat->YV} (X:KX h0 h rk rM es Q) (x:HNode) (hx:NodeSm x) (hs:(YW x.attrs ZJ).length<=1000000) (hW:WOK (J7 x)) (n:Int)
 (hl:∀ c,c<4->(Q c).length<=90000) (hr:∀ c,c<4 -> ∀ v m,(v,m)∈Q c->rkI es m<rkI es n) :
 DCalls (Pg G) 25 [.vp rk 0,.agg (Q7 x),Q3 n,.fn 27 [.vp rk 0] []] h fun _ h'=>KX h0 h' rk rM es (newQ Q (J7 x) n):=by
 refine (turnG_ok (G:=G) (f:=27) x hx hs hW n (fun c k h'=>KX h0 h' rk rM es (addQ Q (J7 x) n c k)) (X.congr fun d hd=>by unfold addQ;by_cases e:d=0 <;> simp [e,prs]) ?_ ?_).mono fun _ h' Y=>Y.congr fun d hd=>by unfold addQ newQ;rw [if_pos hd]
 ·obtain ⟨W,hWe⟩:∃ W,J7 x=W:=⟨_,rfl⟩
  rw [hWe] at hW ⊢
  intro c k h2 hc4 hk' Z
  have hwl:=hW.le c hc4
  have hnd:=hW.nd c hc4
  obtain ⟨V,hV⟩:∃ V,nth W c=V:=⟨_,rfl⟩
  rw [hV] at hwl hnd hk' ⊢
  have hq0:=hl c hc4
  have hqc:addQ Q W n c k c=Q c++prs (V.take k) n:=by unfold addQ;rw [if_neg (Nat.lt_irrefl c),if_pos rfl,hV]
  have hlq:(addQ Q W n c k c).length<=99999:=by
   rw [hqc,List.length_append,prs_len,List.length_take];omega
  have hrq:∀ m,(nth V k,m)∈addQ Q W n c k c->rkI es m<rkI es n:=fun m hm=>by
   rw [hqc] at hm
   rcases List.mem_append.1 hm with hm | hm
   ·exact hr c hc4 _ m hm
   ·exfalso
    obtain ⟨j,hj,he⟩:=QY (mem_prs hm).1
    rw [List.length_take] at hj
    have e1:nth (V.take k) j=nth V j:=by
     unfold nth
     rw [List.getD_eq_getElem?_getD,List.getD_eq_getElem?_getD,List.getElem?_take,if_pos (by omega)]
    rw [e1] at he
    have h3:=List.pairwise_iff_getElem.1 (List.nodup_iff_pairwise_ne.1 hnd) j k (by omega) hk' (by omega)
    have q1:=J5 (show j<V.length by omega)
    have q2:=J5 hk'
    rw [List.getElem?_eq_getElem (by omega)] at q1 q2
    exact h3 (by rw [Option.some.inj q1,Option.some.inj q2];exact he)
  refine (putK_ok (G:=G) Z hc4 hlq hrq).mono fun _ h3 Z3=>Z3.congr fun d hd=>?_
  by_cases e:d=c
  ·subst e
   rw [if_pos rfl,hqc]
   unfold addQ
   rw [if_neg (Nat.lt_irrefl d),if_pos rfl,hV,X1 hk']
   unfold prs
   rw [List.map_append,List.append_assoc];rfl
  ·rw [if_neg e]
   unfold addQ
   by_cases e2:d<c
   ·rw [if_pos e2,if_pos e2]
   ·rw [if_neg e2,if_neg e2,if_neg e,if_neg e]
 ·intro c h2 hc4 Z
  refine Z.congr fun d hd=>?_
  unfold addQ
  by_cases e:d<c
  ·rw [if_pos e,if_pos (by omega)]
  ·by_cases e2:d=c
   ·subst e2
    rw [if_neg e,if_pos rfl,if_pos (by omega),List.take_length]
   ·rw [if_neg e,if_neg e2,if_neg (by omega)]
    by_cases e3:d=c+1
    ·rw [if_pos e3,List.take_zero];rfl
    ·rw [if_neg e3]
end Go.Proofs.K
end
section
set_option linter.unusedSimpArgs false
set_option linter.unusedVariables false
namespace Go.Proofs.K
open Go Go.Sim Go.Proofs
theorem addW_nodup {L:List (List UInt8)} (h:L.Nodup) (w:List UInt8):(WK L w).Nodup:=by
 unfold WK
 split
 ·exact h
 ·rename_i q
  rw [List.nodup_append]
  refine ⟨h,by simp,fun a ha b hb=>?_⟩
  rw [List.mem_singleton] at hb
  subst hb
  exact fun e=>q (.inr (by rw [<-e];exact ha))
theorem wordsM_nodup (s:List UInt8):(XU s).Nodup:=by
 unfold XU
 suffices h:∀ (F L:List (List UInt8)),L.Nodup->(F.foldl WK L).Nodup from h _ _ List.nodup_nil
 intro F
 induction F with
 | nil=>exact fun L h=>h
 | cons x r ih=>exact fun L h=>ih _ (addW_nodup h x)
theorem one1_nodup (s:List UInt8):(one1 s).Nodup/\(one1 s).length<=1:=by
 unfold one1;split <;> simp
theorem words4_wok (x:HNode) (hs:(YW x.attrs ZJ).length<=400):WOK (J7 x):=by
 have h1:=one1_nodup (YW x.attrs idS)
 have h2:=wordsM_nodup (YW x.attrs ZJ)
 have h3:=wordsM_len (YW x.attrs ZJ)
 have h4:=one1_nodup (YW x.attrs nameS)
 have c0:∀ (a b c d:List (List UInt8)),nth [a,b,c,d] 0=a:=fun _ _ _ _=>rfl
 have c1:∀ (a b c d:List (List UInt8)),nth [a,b,c,d] 1=b:=fun _ _ _ _=>rfl
 have c2:∀ (a b c d:List (List UInt8)),nth [a,b,c,d] 2=c:=fun _ _ _ _=>rfl
 have c3:∀ (a b c d:List (List UInt8)),nth [a,b,c,d] 3=d:=fun _ _ _ _=>rfl
 unfold J7
 split
 ·refine ⟨rfl,fun c hc=>?_,fun c hc=>?_⟩
  ·rcases (show c=0\/c=1\/c=2\/c=3 by omega) with rfl | rfl | rfl | rfl <;> simp only [c0,c1,c2,c3,List.nodup_nil]
  ·rcases (show c=0\/c=1\/c=2\/c=3 by omega) with rfl | rfl | rfl | rfl <;> simp only [c0,c1,c2,c3,List.length_nil] <;> omega
 ·refine ⟨rfl,fun c hc=>?_,fun c hc=>?_⟩
  ·rcases (show c=0\/c=1\/c=2\/c=3 by omega) with rfl | rfl | rfl | rfl <;> simp only [c0,c1,c2,c3]
   ·exact h1.1
   ·exact h2
   ·simp
   ·exact h4.1
  ·rcases (show c=0\/c=1\/c=2\/c=3 by omega) with rfl | rfl | rfl | rfl <;> simp only [c0,c1,c2,c3]
   ·omega
   ·omega
   ·simp
   ·omega
theorem TU {x:HNode} (h:V8 x=0) (nm:List UInt8):(YW x.attrs nm).length<=400:=by
 have h1:=((ZZ _).1 ((W5 _).1 h).2.2.2.1).2.1
 unfold YW
 split
 ·by_cases hk:(J9 x.attrs nm).toNat<x.attrs.length
  ·exact (h1 _ (Y7 hk)).2
  ·rw [nth_def hk];decide
 ·simp
theorem KZ {d:HDoc} (V:DV d) {n:Int} (hn:inD d n):WOK (J7 (nd d n)):=words4_wok _ (TU (V.node n hn) _)
def ZK (d:HDoc) (l:List Int) (c:Nat):YV:=l.flatMap fun n=>prs (nth (J7 (nd d n)) c) n
theorem prsD_snoc (d:HDoc) (l:List Int) (n:Int) (c:Nat):ZK d (l++[n]) c=ZK d l c++prs (nth (J7 (nd d n)) c) n:=by
 unfold ZK;rw [List.flatMap_append];simp
theorem mem_prsD {d:HDoc} {l:List Int} {c:Nat} {w:List UInt8} {m:Int} (h:(w,m)∈ZK d l c):m∈l:=by
 obtain ⟨n,hn,h2⟩:=List.mem_flatMap.1 h
 rw [(mem_prs h2).2];exact hn
theorem prsD_len {d:HDoc} (V:DV d):∀ {l:List Int},(∀ n∈l,inD d n) -> ∀ {c:Nat},c<4->(ZK d l c).length<=l.length*420:=fun {l}=>by
 induction l with
 | nil=>intro _ c _;exact Nat.le_refl _
 | cons n r ih=>
   intro hl c hc
   have h1:=ih (fun m hm=>hl m (List.mem_cons_of_mem _ hm)) hc
   have h2:=(KZ V (hl n List.mem_cons_self)).le c hc
   unfold ZK at h1 ⊢
   rw [List.flatMap_cons,List.length_append,prs_len,List.length_cons]
   omega
structure HIdx where
 ids:List HRef
 classes:List HRef
 tags:List HRef
 names:List HRef
deriving DecidableEq,Inhabited
def QQ (x:HIdx):List AVal:=[sl X8 x.ids,sl X8 x.classes,sl X8 x.tags,sl X8 x.names]
def V5 (d:HDoc) (c:Nat):List HRef:=idxL (ZK d (Z5 d 0) c)
def YT (d:HDoc):HIdx:=⟨V5 d 0,V5 d 1,V5 d 2,V5 d 3⟩
theorem idxC_is (d:HDoc) (c:Nat):Spec (V5 d c) (ZK d (Z5 d 0) c):=idxL_is _
theorem rows_map {α:Type} [Inhabited α] (l:List α) (f:α->List AVal):l.map f=(List.range l.length).map fun i=>f (nth l i):=by
 apply List.ext_getElem?
 intro j
 by_cases hj:j<l.length
 ·rw [List.getElem?_map,List.getElem?_map,List.getElem?_range hj,J5 hj];rfl
 ·rw [List.getElem?_eq_none (by simp;omega),List.getElem?_eq_none (by simp;omega)]
theorem rowsR_vw {h:Q2} {l:List HRef} {nv:Nat->AVal} (hn:∀ j,j<l.length->Vw h (nv j) (sl Z6 (nth l j).nodes)):F2 (F2 (Vw h)) (ZY l nv) (l.map X8):=by
 rw [rows_map]
 unfold ZY
 have gen:∀ m:List Nat,(∀ i∈m,i<l.length)->F2 (F2 (Vw h)) (m.map (rowR l nv)) (m.map fun i=>X8 (nth l i)):=fun m=>by
  induction m with
  | nil=>intro _;exact .nil
  | cons i m ih=>intro hl;exact .cons (.cons (.refl _) (.cons (hn i (hl i List.mem_cons_self)) .nil)) (ih fun j hj=>hl j (List.mem_cons_of_mem _ hj))
 exact gen _ fun i hi=>List.mem_range.1 hi
theorem OwnS.vwN {α:Type} [Inhabited α] {enc:α->List AVal} {h0 h:Q2} {ty sz:Nat} [LenE enc sz] {l:List α} {a:AVal} (O:OwnS h ty sz (l.map enc) a) (hf:∀ r,Q9 a=some r->h0 r=none):Vw (newH h0 h) a (sl enc l):=
 OwnS.vw (O.keep fun r o hr ho=>by rw [UJ (hf r hr)];exact ho)
theorem spine_vwN {h0 h:Q2} {a:AVal} {l:List HRef} {nv:Nat->AVal} (O:OwnS h 87 2 (ZY l nv) a) (M:Mut a) (hf:∀ r,Q9 a=some r->h0 r=none)
 (hn:∀ j,j<l.length->OwnS h 3 1 ((nth l j).nodes.map Z6) (nv j) /\ ∀ r,Q9 (nv j)=some r->h0 r=none):Vw (newH h0 h) a (sl X8 l):=by
 rcases O.live M with ⟨h1,h2⟩ | ⟨r,es,h1,h2,h3,h4⟩
 ·have:l=[]:=List.eq_nil_of_length_eq_zero (by rw [<-J8 l nv,h1];rfl)
  subst this;rw [h2];exact .emp
 ·subst h1
  rw [J8] at h3 h4 ⊢
  refine Vw.osl0 (o:=⟨87,2,es⟩) (by rw [UJ (hf r rfl)];exact h2) (by rw [List.length_map]) h3 (fun f hf'=>by obtain ⟨x,_,rfl⟩:=List.mem_map.1 hf';rfl) ?_
  have key:=rowsR_vw (h:=newH h0 h) fun j hj=>(hn j hj).1.vwN (hn j hj).2
  show F2 (F2 (Vw (newH h0 h))) (es.take l.length) (l.map X8)
  rw [h4];exact key
theorem RefAt.vwN {h0 h:Q2} {a:AVal} {l:List HRef} {nv:Nat->AVal} {F:Nat->Prop} (R:RefAt h a l nv F) (hF:∀ r,F r->h0 r=none):Vw (newH h0 h) a (sl X8 l):=
 spine_vwN R.own R.mt (fun r hr=>hF r (R.inF r hr)) fun j hj=>⟨(R.num j hj).1,fun r hr=>hF r ((R.num j hj).2.2 r hr).1⟩
theorem rise_eq {α:Type} {r:α->α->Prop} (has:∀ x y,r x y->r y x->False):∀ {a b:List α},a.Pairwise r->b.Pairwise r->(∀ x,x∈a↔x∈b)->a=b
 | [],[],_,_,_=>rfl
 | [],y :: b,_,_,h=>by have:=(h y).2 List.mem_cons_self;cases this
 | x :: a,[],_,_,h=>by have:=(h x).1 List.mem_cons_self;cases this
 | x :: a,y :: b,ha,hb,h=>by
   have ha':=List.pairwise_cons.1 ha
   have hb':=List.pairwise_cons.1 hb
   have hxy:x=y:=by
    rcases List.mem_cons.1 ((h x).1 List.mem_cons_self) with e | e
    ·exact e
    ·rcases List.mem_cons.1 ((h y).2 List.mem_cons_self) with e2 | e2
     ·exact e2.symm
     ·exact (has _ _ (ha'.1 y e2) (hb'.1 x e)).elim
   subst hxy
   rw [rise_eq has ha'.2 hb'.2 fun z=>?_]
   constructor
   ·intro hz
    rcases List.mem_cons.1 ((h z).1 (List.mem_cons_of_mem _ hz)) with e | e
    ·subst e;exact (has _ _ (ha'.1 z hz) (ha'.1 z hz)).elim
    ·exact e
   ·intro hz
    rcases List.mem_cons.1 ((h z).2 (List.mem_cons_of_mem _ hz)) with e | e
    ·subst e;exact (has _ _ (hb'.1 z hz) (hb'.1 z hz)).elim
    ·exact e
structure SpecM (L:List HRef) (P:List UInt8->Int->Prop) (rk:Int->Int):Prop where
 rise:Rise L
 row:∀ j,j<L.length->(nth L j).nodes≠[]/\(nth L j).nodes.Pairwise (fun a b=>rk a<rk b) /\ ∀ n,n∈(nth L j).nodes↔P (nth L j).word n
 all:∀ w n,P w n -> ∃ j,j<L.length/\(nth L j).word=w
section
variable {L L':List HRef} {P P':List UInt8->Int->Prop} {rk rk':Int->Int}
theorem SpecM.sub (S:SpecM L P rk) (S':SpecM L' P rk):∀ x∈L,x∈L':=fun x hx=>by
 obtain ⟨j,hj,rfl⟩:=QY hx
 obtain ⟨h1,h2,h3⟩:=S.row j hj
 obtain ⟨n,hn⟩:=List.exists_mem_of_ne_nil _ h1
 obtain ⟨j',hj',hw⟩:=S'.all _ n ((h3 n).1 hn)
 obtain ⟨g1,g2,g3⟩:=S'.row j' hj'
 have hns:(nth L j).nodes=(nth L' j').nodes:=rise_eq (fun x y a b=>by omega) h2 g2 fun m=>by rw [h3,g3,hw]
 have:nth L j=nth L' j':=by
  cases ha:nth L j with
  | mk w ns=>cases hb:nth L' j' with
    | mk w' ns'=>
      rw [ha,hb] at hns hw
      simp only at hns hw
      rw [hns,hw]
 rw [this];exact Y7 hj'
theorem SpecM.eq (S:SpecM L P rk) (S':SpecM L' P rk):L=L':=
 rise_eq (r:=fun (x y:HRef)=>ltS x.word y.word=true) (fun x y a b=>by have:=ltS_trans _ _ _ a b;rw [YQ] at this;cases this) S.rise S'.rise fun x=>⟨S.sub S' x,S'.sub S x⟩
theorem SpecM.congr (S:SpecM L P rk) (h:∀ w n,P w n↔P' w n):SpecM L P' rk:=
 ⟨S.rise,fun j hj=>⟨(S.row j hj).1,(S.row j hj).2.1,fun n=>by rw [(S.row j hj).2.2,h]⟩,fun w n hp=>S.all w n ((h w n).2 hp)⟩
theorem SpecM.rank (S:SpecM L P rk) (h:∀ w a b,P w a->P w b->rk a<rk b->rk' a<rk' b):SpecM L P rk':=
 ⟨S.rise,fun j hj=>by
   obtain ⟨h1,h2,h3⟩:=S.row j hj
   exact ⟨h1,h2.imp_of_mem fun ha hb hab=>h _ _ _ ((h3 _).1 ha) ((h3 _).1 hb) hab,h3⟩,S.all⟩
def delR (L:List HRef) (k:Nat):List HRef:=L.take k++L.drop (k+1)
theorem delR_len {k:Nat} (hk:k<L.length):(delR L k).length+1=L.length:=by
 unfold delR;rw [List.length_append,List.length_take,List.length_drop];omega
theorem nth_delR {k:Nat} (hk:k<L.length) (j:Nat):nth (delR L k) j=if j<k then nth L j else nth L (j+1):=by
 unfold delR nth
 rw [List.getD_eq_getElem?_getD]
 by_cases hj:j<k
 ·rw [if_pos hj,List.getElem?_append_left (by rw [List.length_take];omega),List.getElem?_take,if_pos hj,<-List.getD_eq_getElem?_getD]
 ·rw [if_neg hj,List.getElem?_append_right (by rw [List.length_take];omega),List.length_take,List.getElem?_drop,List.getD_eq_getElem?_getD]
  congr 2;omega
def dropL (L:List HRef) (w:List UInt8) (n:Int):List HRef:=
 if kOf L w<L.length/\(nth L (kOf L w)).word=w then
  (if (nth L (kOf L w)).nodes.filter (fun m=>!(m==n))=[] then delR L (kOf L w) else L.set (kOf L w) ⟨w,(nth L (kOf L w)).nodes.filter fun m=>!(m==n)⟩)
 else L
theorem SpecM.drop (S:SpecM L P rk) (w:List UInt8) (n:Int):SpecM (dropL L w n) (fun v m=>P v m/\¬ (v=w/\m=n)) rk:=by
 unfold dropL
 by_cases hf:kOf L w<L.length/\(nth L (kOf L w)).word=w
 ·rw [if_pos hf]
  obtain ⟨k,hk⟩:∃ k,kOf L w=k:=⟨_,rfl⟩
  rw [hk] at hf ⊢
  obtain ⟨hkl,hkw⟩:=hf
  obtain ⟨r1,r2,r3⟩:=S.row k hkl
  rw [hkw] at r3
  obtain ⟨ns,hns⟩:∃ ns,(nth L k).nodes.filter (fun m=>!(m==n))=ns:=⟨_,rfl⟩
  have hmem:∀ m,m∈ns↔P w m/\m≠n:=fun m=>by
   rw [<-hns,List.mem_filter,r3];simp
  rw [hns]
  have other:∀ j,j<L.length->j≠k->(nth L j).word≠w:=fun j hj hjk e=>hjk (S.rise.one hj hkl (by rw [e,hkw]))
  by_cases hn:ns=[]
  ·rw [if_pos hn]
   have hl:=delR_len hkl
   refine ⟨Rise.of fun i j hij hj=>?_,fun j hj=>?_,fun v m ⟨hp,hne⟩=>?_⟩
   ·rw [nth_delR hkl,nth_delR hkl]
    (repeat' split) <;> first
      | (exfalso;omega)
      | exact S.rise.lt (by omega) (by omega)
   ·rw [nth_delR hkl]
    have old:∀ i,i<L.length->i≠k->(nth L i).nodes≠[]/\(nth L i).nodes.Pairwise (fun a b=>rk a<rk b) /\ ∀ m,m∈(nth L i).nodes↔P (nth L i).word m/\¬ ((nth L i).word=w/\m=n):=fun i hi hik=>by
     obtain ⟨a,b,c⟩:=S.row i hi
     exact ⟨a,b,fun m=>by rw [c];exact ⟨fun q=>⟨q,fun q2=>other i hi hik q2.1⟩,fun q=>q.1⟩⟩
    split
    ·exact old j (by omega) (by omega)
    ·exact old (j+1) (by omega) (by omega)
   ·obtain ⟨j,hj,hw⟩:=S.all v m hp
    by_cases e:j=k
    ·exfalso
     have hv:v=w:=by rw [<-hw,e,hkw]
     subst hv
     have:=(hmem m).2 ⟨hp,fun e2=>hne ⟨rfl,e2⟩⟩
     rw [hn] at this;cases this
    ·by_cases hlt:j<k
     ·exact ⟨j,by omega,by rw [nth_delR hkl,if_pos hlt];exact hw⟩
     ·exact ⟨j-1,by omega,by rw [nth_delR hkl,if_neg (by omega),show j-1+1=j by omega];exact hw⟩
  ·rw [if_neg hn]
   refine ⟨by have:=S.rise.set hkl ns;rw [hkw] at this;exact this,fun j hj=>?_,fun v m ⟨hp,hne⟩=>?_⟩
   ·rw [List.length_set] at hj
    rw [K9 _ _ _ _ hkl]
    by_cases e:j=k
    ·rw [if_pos e]
     exact ⟨hn,by rw [<-hns];exact r2.filter _,fun m=>by rw [hmem];exact ⟨fun q=>⟨q.1,fun q2=>q.2 q2.2⟩,fun q=>⟨q.1,fun q2=>q.2 ⟨rfl,q2⟩⟩⟩⟩
    ·rw [if_neg e]
     obtain ⟨a,b,c⟩:=S.row j hj
     exact ⟨a,b,fun m=>by rw [c];exact ⟨fun q=>⟨q,fun q2=>other j hj e q2.1⟩,fun q=>q.1⟩⟩
   ·obtain ⟨j,hj,hw⟩:=S.all v m hp
    refine ⟨j,by rw [List.length_set];exact hj,?_⟩
    rw [K9 _ _ _ _ hkl]
    split
    ·rename_i e;rw [<-hw,e,hkw]
    ·exact hw
 ·rw [if_neg hf]
  refine S.congr fun v m=>⟨fun hp=>⟨hp,fun ⟨hv,_⟩=>?_⟩,fun q=>q.1⟩
  obtain ⟨j,hj,hw⟩:=S.all v m hp
  exact S.rise.none hf j hj (by rw [hw,hv])
def qOf (rk:Int->Int) (l:List Int) (n:Int):Nat:=(l.takeWhile fun m=>decide (rk m<rk n)).length
theorem qOf_le (rk:Int->Int) (l:List Int) (n:Int):qOf rk l n<=l.length:=(List.takeWhile_sublist _).length_le
theorem qOf_lt {rk:Int->Int} {l:List Int} {n:Int}:∀ {j:Nat},j<qOf rk l n->rk (nth l j)<rk n:=by
 unfold qOf
 induction l with
 | nil=>intro j hj;exact absurd hj (Nat.not_lt_zero j)
 | cons x r ih=>
   intro j hj
   rw [List.takeWhile_cons] at hj
   split at hj
   ·rename_i hx
    cases j with
    | zero=>exact of_decide_eq_true hx
    | succ j=>exact ih (by simpa using hj)
   ·exact absurd hj (Nat.not_lt_zero j)
theorem qOf_ge {rk:Int->Int} {l:List Int} {n:Int} (hR:l.Pairwise fun a b=>rk a<rk b):∀ {j:Nat},qOf rk l n<=j->j<l.length->rk n<=rk (nth l j):=by
 unfold qOf
 induction l with
 | nil=>intro j _ hj;exact absurd hj (Nat.not_lt_zero j)
 | cons x r ih=>
   intro j hk hj
   have hR':=List.pairwise_cons.1 hR
   rw [List.takeWhile_cons] at hk
   split at hk
   ·cases j with
    | zero=>simp at hk
    | succ j=>exact ih hR'.2 (by simpa using hk) (by simpa using hj)
   ·rename_i hx
    have hx:¬ rk x<rk n:=by simpa using hx
    cases j with
    | zero=>show rk n<=rk x;omega
    | succ j=>
      have hj':j<r.length:=by simpa using hj
      have h1:=hR'.1 _ (Y7 hj')
      show rk n<=rk (nth r j)
      omega
def putG (rk:Int->Int) (L:List HRef) (w:List UInt8) (n:Int):List HRef:=putL L (kOf L w) (qOf rk (nth L (kOf L w)).nodes n) w n
theorem SpecM.put (S:SpecM L P rk) (w:List UInt8) (n:Int) (hr:∀ m,P w m->rk m≠rk n):SpecM (putG rk L w n) (fun v m=>P v m\/(v=w/\m=n)) rk:=by
 unfold putG putL
 by_cases hf:kOf L w<L.length/\(nth L (kOf L w)).word=w
 ·rw [if_pos hf]
  obtain ⟨k,hk⟩:∃ k,kOf L w=k:=⟨_,rfl⟩
  rw [hk] at hf ⊢
  obtain ⟨hkl,hkw⟩:=hf
  obtain ⟨r1,r2,r3⟩:=S.row k hkl
  rw [hkw] at r3
  obtain ⟨l,hl⟩:∃ l,(nth L k).nodes=l:=⟨_,rfl⟩
  rw [hl] at r1 r2 r3 ⊢
  have q0:=qOf_le rk l n
  have q1:=fun j hj=>qOf_lt (rk:=rk) (l:=l) (n:=n) (j:=j) hj
  have q2:=fun j hj hj2=>qOf_ge (n:=n) r2 (j:=j) hj hj2
  obtain ⟨q,hq⟩:∃ q,qOf rk l n=q:=⟨_,rfl⟩
  rw [hq] at q0 q1 q2 ⊢
  have other:∀ j,j<L.length->j≠k->(nth L j).word≠w:=fun j hj hjk e=>hjk (S.rise.one hj hkl (by rw [e,hkw]))
  have hmem:∀ m,m∈JQ l q n↔m∈l\/m=n:=fun m=>by
   unfold JQ
   rw [List.mem_append,List.mem_cons]
   have:m∈l↔m∈l.take q\/m∈l.drop q:=by rw [<-List.mem_append,List.take_append_drop]
   rw [this]
   constructor
   ·rintro (h | h | h)
    ·exact .inl (.inl h)
    ·exact .inr h
    ·exact .inl (.inr h)
   ·rintro ((h | h) | h)
    ·exact .inl h
    ·exact .inr (.inr h)
    ·exact .inr (.inl h)
  have hpw:(JQ l q n).Pairwise fun a b=>rk a<rk b:=by
   have t1:∀ a∈l.take q,rk a<rk n:=fun a ha=>by
    obtain ⟨j,hj,rfl⟩:=QY ha
    rw [List.length_take] at hj
    have e1:nth (l.take q) j=nth l j:=by
     unfold nth
     rw [List.getD_eq_getElem?_getD,List.getD_eq_getElem?_getD,List.getElem?_take,if_pos (by omega)]
    rw [e1];exact q1 j (by omega)
   have t2:∀ a∈l.drop q,rk n<rk a:=fun a ha=>by
    have hal:a∈l:=List.mem_of_mem_drop ha
    have hne:=hr a ((r3 a).1 hal)
    obtain ⟨j,hj,rfl⟩:=QY ha
    rw [List.length_drop] at hj
    have e1:nth (l.drop q) j=nth l (q+j):=by
     unfold nth
     rw [List.getD_eq_getElem?_getD,List.getD_eq_getElem?_getD,List.getElem?_drop]
    have:=q2 (q+j) (by omega) (by omega)
    rw [e1] at hne ⊢; omega
   have sp:l.Pairwise (fun a b=>rk a<rk b):=r2
   rw [<-List.take_append_drop q l,List.pairwise_append] at sp
   unfold JQ
   rw [List.pairwise_append,List.pairwise_cons]
   exact ⟨sp.1,⟨t2,sp.2.1⟩,fun a ha b hb=>by
    rcases List.mem_cons.1 hb with rfl | hb
    ·exact t1 a ha
    ·exact sp.2.2 a ha b hb⟩
  refine ⟨by have:=S.rise.set hkl (JQ l q n);rw [hkw] at this;exact this,fun j hj=>?_,fun v m hp=>?_⟩
  ·rw [List.length_set] at hj
   rw [K9 _ _ _ _ hkl]
   by_cases e:j=k
   ·rw [if_pos e]
    refine ⟨(fun (h0:JQ l q n=[])=>by have:=(hmem n).2 (.inr rfl);rw [h0] at this;cases this),hpw,fun m=>?_⟩
    show m∈JQ l q n↔_
    rw [hmem,r3]
    exact ⟨fun q=>q.imp id fun e=>⟨rfl,e⟩,fun q=>q.imp id And.right⟩
   ·rw [if_neg e]
    obtain ⟨a,b,c⟩:=S.row j hj
    exact ⟨a,b,fun m=>by rw [c];exact ⟨.inl,fun q=>q.elim id fun q2=>absurd q2.1 (other j hj e)⟩⟩
  ·rcases hp with hp | ⟨rfl,rfl⟩
   ·obtain ⟨j,hj,hw⟩:=S.all v m hp
    refine ⟨j,by rw [List.length_set];exact hj,?_⟩
    rw [K9 _ _ _ _ hkl]
    split
    ·rename_i e;rw [<-hw,e,hkw]
    ·exact hw
   ·exact ⟨k,by rw [List.length_set];exact hkl,by rw [K9 _ _ _ _ hkl,if_pos rfl]⟩
 ·rw [if_neg hf]
  have hno:=S.rise.none hf
  have h0:∀ m,¬ P w m:=fun m hp=>by
   obtain ⟨j,hj,hw⟩:=S.all w m hp
   exact hno j hj hw
  have hR:=S.rise.ins [n] hf
  have hk:=kOf_le L w
  obtain ⟨k,hkk⟩:∃ k,kOf L w=k:=⟨_,rfl⟩
  rw [hkk] at hk hR ⊢
  have il:=UW L k ⟨w,[n]⟩ hk
  have old:∀ i,i<L.length->(nth L i).nodes≠[]/\(nth L i).nodes.Pairwise (fun a b=>rk a<rk b) /\ ∀ m,m∈(nth L i).nodes↔P (nth L i).word m\/((nth L i).word=w/\m=n):=fun i hi=>by
   obtain ⟨a,b,c⟩:=S.row i hi
   exact ⟨a,b,fun m=>by rw [c];exact ⟨.inl,fun q=>q.elim id fun q2=>absurd q2.1 (hno i hi)⟩⟩
  refine ⟨hR,fun j hj=>?_,fun v m hp=>?_⟩
  ·rw [il] at hj
   rw [JZ _ _ _ hk]
   split
   ·exact old j (by omega)
   ·split
    ·refine ⟨by simp,by simp,fun m=>?_⟩
     rw [List.mem_singleton]
     exact ⟨fun e=>.inr ⟨rfl,e⟩,fun q=>q.elim (fun q=>absurd q (h0 m)) And.right⟩
    ·exact old (j-1) (by omega)
  ·rcases hp with hp | ⟨rfl,rfl⟩
   ·obtain ⟨j,hj,hw⟩:=S.all v m hp
    by_cases h1:j<k
    ·exact ⟨j,by omega,by rw [JZ _ _ _ hk,if_pos h1];exact hw⟩
    ·exact ⟨j+1,by omega,by rw [JZ _ _ _ hk,if_neg (by omega),if_neg (by omega),Nat.add_sub_cancel];exact hw⟩
   ·exact ⟨k,by omega,by rw [JZ _ _ _ hk,if_neg (by omega),if_pos rfl]⟩
end
theorem nodesOf_prs {W:List (List UInt8)} (hW:W.Nodup) (n:Int) (w:List UInt8):K5 (prs W n) w=if w∈W then [n] else []:=by
 induction W with
 | nil=>rfl
 | cons v r ih=>
   have h:=List.nodup_cons.1 hW
   have e:prs (v :: r) n=[(v,n)]++prs r n:=rfl
   rw [e,QT,JV,ih h.2]
   by_cases hv:v=w
   ·subst hv
    rw [if_pos rfl,if_neg h.1,if_pos List.mem_cons_self];rfl
   ·rw [if_neg hv,List.nil_append]
    by_cases hr:w∈r
    ·rw [if_pos hr,if_pos (List.mem_cons_of_mem _ hr)]
    ·rw [if_neg hr,if_neg (fun q=>by rcases List.mem_cons.1 q with q | q;exact hv q.symm;exact hr q)]
theorem nodesOf_prsD {d:HDoc} (V:DV d) {c:Nat} (hc:c<4) (w:List UInt8):∀ l:List Int,(∀ n∈l,inD d n)->K5 (ZK d l c) w=l.filter fun n=>decide (w∈nth (J7 (nd d n)) c)
 | [],_=>rfl
 | n :: r,hl=>by
   have ih:=nodesOf_prsD V hc w r fun m hm=>hl m (List.mem_cons_of_mem _ hm)
   have e:ZK d (n :: r) c=prs (nth (J7 (nd d n)) c) n++ZK d r c:=rfl
   rw [e,QT,nodesOf_prs ((KZ V (hl n List.mem_cons_self)).nd c hc),ih,List.filter_cons]
   by_cases h:w∈nth (J7 (nd d n)) c
   ·rw [if_pos h,if_pos (decide_eq_true h)];rfl
   ·rw [if_neg h,if_neg (by simpa using h)];rfl
def PD (d:HDoc) (l:List Int) (c:Nat) (w:List UInt8) (n:Int):Prop:=n∈l/\w∈nth (J7 (nd d n)) c
theorem specM_of {d:HDoc} (V:DV d) {l:List Int} (hl:∀ n∈l,inD d n) {c:Nat} (hc:c<4) {rk:Int->Int} (hr:l.Pairwise fun a b=>rk a<rk b):SpecM (idxL (ZK d l c)) (PD d l c) rk:=by
 have S:=idxL_is (ZK d l c)
 have key:∀ w n,n∈K5 (ZK d l c) w↔PD d l c w n:=fun w n=>by
  rw [nodesOf_prsD V hc w l hl,List.mem_filter,decide_eq_true_iff];rfl
 refine ⟨S.rise,fun j hj=>?_,fun w n hp=>?_⟩
 ·obtain ⟨h1,h2⟩:=S.row j hj
  refine ⟨by rw [h1];exact h2,?_,fun n=>by rw [h1];exact key _ n⟩
  rw [h1,nodesOf_prsD V hc _ l hl]
  exact hr.filter _
 ·exact S.all w (List.ne_nil_of_mem ((key w n).2 hp))
end Go.Proofs.K
end
section
set_option linter.unusedSimpArgs false
set_option linter.unusedVariables false
namespace Go.Proofs.K
open Go Go.Sim Go.Proofs
variable {G:YZ}
theorem Dw.cong {X:List Nat} {h0 h:Q2} {rN:Nat} {d d':HDoc} {sl:Nat->AVal} (E:Dw X h0 h rN d sl) (h1:d=d'):Dw X h0 h rN d' sl:=h1 ▸ E
def c73:SFun:=⟨.seq (.reg [o 2 (.mv (.c .emp))]) (.seq (.seq (.reg [o 3 (.mv (.t 0)),o 4 (.isnil 0 false (.t 3))]) (.cond (.t 4) (.seq (.reg [o 2 (.mv (.c .emp))]) .ret) .skip)) (.seq (.reg [o 5 (.bldF 31 6 []),o 6 (.mv (.t 0)),o 7 (.app 31 6 96 (.t 5) (.t 6)),o 2 (.mv (.t 7))]) .ret)),[.tmp 2]⟩
theorem hc73:Y3 Tryz.prog {} Tryz.f73=some c73:=by kernel_rfl
theorem cloneN_own {h:Q2} (l:List HNode) (hl:l.length<=1073741824):DCalls (Pg G) 73 [sl Q7 l] h (AccK h 31 6 (l.map Q7)):=by
 refine Q0 Tryz.func73 (by kernel_rfl) hc73 (by rw [Tryz.ntmps73];simp) (by rw [Tryz.ntmps73];decide) ?_
 simp -dsimp -implicitDefEqProofs (disch:=omega) only [VCA,↓reduceIte,reduceCtorEq,c73]
 intro b hb
 refine Br.intro (fun ht=>?_) (fun hf=>?_)
 ·simp -dsimp -implicitDefEqProofs (disch:=omega) only [VCA,↓reduceIte]
  have:l=[]:=hb (by simpa using ht)
  subst this
  exact ⟨_,Sub.refl _,Acc.nil,Sub.refl _⟩
 ·simp -dsimp -implicitDefEqProofs (disch:=omega) only [VCA,Nat.reduceEqDiff,↓reduceIte,reduceCtorEq,Z7,exists_eq_left]
  refine ⟨by omega,by omega,fun r hr=>?_⟩
  exact ⟨_,Sub.refl _,by simpa using Acc.root (cells:=l.map Q7) hr (Q5 _ _ _),(Sub.refl _).upd hr⟩
def c48:SFun:=⟨.seq (.reg [o 1 (.boxF 24 2 (.t 0)),o 2 (.new 24 2 [.emp,.bool false])]) (.seq (.dreg [(o 6 (.fldA 0 (.t 1)),none),(o 7 (.ld 1 false (.t 6)),none),(o 9 (.fldA 1 (.t 1)),none),(o 10 (.ld 1 false (.t 9)),none),(o 8 (.call (.c (.fn 73 [] [])) [.t 7]),(some [7])),(o 11 (.bld [.emp,.bool false] [(0,(1,(.t 8))),(1,(1,(.t 10)))]),none),(o 3 (.new 24 2 [.emp,.bool false]),(some [])),(⟨none,.st 2 (.t 3) (.t 11),none⟩,(some [10,7]))]) (.seq (.seq (.reg [o 12 (.fldA 0 (.t 3)),o 13 (.ld 1 false (.t 12)),o 14 (.len (.t 13)),o 15 (.mv (.c (.int .i64 0)))]) (.block 0 (.loop (.seq (.reg [o 16 (.bin .lss (.t 15) (.t 14))]) (.seq (.cond (.t 16) .skip (.exit 0)) (.seq (.block 1 (.seq (.reg [o 17 (.mv (.t 15)),o 4 (.mv (.t 17))]) (.seq (.reg [o 18 (.fldA 0 (.t 3)),o 19 (.ld 1 false (.t 18)),o 20 (.mv (.t 4)),o 21 (.idxA 6 (.t 19) (.t 20)),o 5 (.mv (.t 21))]) (.dreg [(o 22 (.mv (.t 5)),none),(o 23 (.mv (.t 5)),none),(o 24 (.mv (.t 5)),none),(o 25 (.fldA 0 (.t 24)),none),(o 26 (.fldA 2 (.t 25)),none),(o 27 (.ld 1 false (.t 26)),none),(o 29 (.mv (.t 5)),none),(o 30 (.fldA 0 (.t 29)),none),(o 31 (.fldA 5 (.t 30)),none),(o 32 (.ld 1 false (.t 31)),none),(o 28 (.call (.c (.fn 74 [] [])) [.t 27]),(some [27])),(o 33 (.call (.c (.fn 47 [] [])) [.t 32]),(some [32,27])),(o 34 (.fldA 0 (.t 22)),none),(o 35 (.fldA 2 (.t 34)),none),(⟨none,.st 1 (.t 35) (.t 28),none⟩,(some [32,27])),(o 36 (.fldA 0 (.t 23)),none),(o 37 (.fldA 5 (.t 36)),none),(⟨none,.st 1 (.t 37) (.t 33),none⟩,(some [32,27]))])))) (.reg [o 38 (.bin .add (.t 15) (.c (.int .i64 1))),o 15 (.mv (.t 38))]))))))) (.seq (.reg [o 39 (.ld 2 true (.t 3)),⟨none,.st 2 (.t 2) (.t 39),none⟩]) .ret))),[.cell 2 2 true]⟩
theorem hc48:Y3 Tryz.prog {} Tryz.f48=some c48:=by kernel_rfl
theorem own_ok' (d:HDoc) (sm:DocSm d) (hN:0<d.nodes.length) (h:Q2):DCalls (Pg G) 48 [.agg (Q8 d)] h fun a h'=>∃ rN sl,a=.agg [.osl rN 6 0 d.nodes.length,.bool d.quirks]/\Dw [] h h' rN d sl /\ ∀ k,k<2*d.nodes.length->Mut (sl k):=by
 have hl:=sm.len
 refine Q0 Tryz.func48 (by kernel_rfl) hc48 (by rw [Tryz.ntmps48];simp) (by rw [Tryz.ntmps48];decide) ?_
 simp -dsimp -implicitDefEqProofs (disch:=omega) only [VCA,Nat.reduceEqDiff,Nat.reduceAdd,Nat.reduceLeDiff,↓reduceIte,Y8,Z0,J1,c48,Q8]
 intro r2 hr2
 refine DCalls.of (cloneN_own (G:=G) d.nodes hl) ?_
 rintro a h1 ⟨A,S1⟩
 obtain ⟨rN,hn0,hn1,rfl⟩:=A.pos (by simpa using hN)
 rw [List.length_map]
 have n2N:¬ rN=r2:=fun e=>by rw [e] at hn0;simp [upd] at hn0
 have g2:h1 r2=some ⟨.t 24,2,[[.emp,.bool false]]⟩:=S1 _ _ (Q5 _ _ _)
 simp -dsimp -implicitDefEqProofs (disch:=omega) only [VCA,Nat.reduceEqDiff,Nat.reduceAdd,Nat.reduceLT,Nat.reduceLeDiff,↓reduceIte,Y8,Z0,SOp.rd,SI.rd,SX.rd,rdL,K8,X3,Z8,exists_eq_left',J1]
 intro r3 hr3
 have n3N:¬ rN=r3:=fun e=>by rw [e,hr3] at hn1;cases hn1
 have n32:¬ r2=r3:=fun e=>by rw [e,hr3] at g2;cases g2
 have h0N:h rN=none:=by rw [Q4 _ _ n2N] at hn0;exact hn0
 have S01:Sim.Sub h h1:=fun t o ht=>S1 t o (by rw [Q4 _ _ (fun e=>by rw [e,hr2] at ht;cases ht)];exact ht)
 have h03:h r3=none:=S01.none hr3
 obtain ⟨sl0,hsl0⟩:∃ sl0:Nat->AVal,∀ i,sl0 (2*i)=sl Y0 (nth d.nodes i).attrs/\sl0 (2*i+1)=sl Z6 (nth d.nodes i).kids:=
  ⟨fun j=>if j % 2=0 then sl Y0 (nth d.nodes (j / 2)).attrs else sl Z6 (nth d.nodes (j / 2)).kids,fun i=>by
    constructor
    ·dsimp only;rw [if_pos (by omega),show 2*i / 2=i by omega]
    ·dsimp only;rw [if_neg (by omega),show (2*i+1) / 2=i by omega]⟩
 have rt:∀ k r,Q9 (sl0 k)≠some r:=fun k r=>by
  rcases (by omega:k=2*(k / 2)\/k=2*(k / 2)+1) with h | h
  ·rw [h,(hsl0 _).1];exact fun e=>by cases e
  ·rw [h,(hsl0 _).2];exact fun e=>by cases e
 have rows0:QZ d sl0=d.nodes.map Q7:=by
  apply List.ext_getElem?
  intro j
  unfold QZ
  by_cases hj:j<d.nodes.length
  ·rw [List.getElem?_map,List.getElem?_map,List.getElem?_range hj,J5 hj,Option.map_some,Option.map_some,(hsl0 j).1,(hsl0 j).2];rfl
  ·rw [List.getElem?_eq_none (by simp;omega),List.getElem?_eq_none (by simp;omega)]
 have E0:Dw [r2,r3] h (upd h1 r3 (some ⟨.t 24,2,[[.osl rN 6 0 d.nodes.length,.bool d.quirks]]⟩)) rN d sl0:=by
  refine ⟨S01.upd h03,by rw [Q4 _ _ n3N,hn1,rows0],⟨h0N,by simp [n2N,n3N]⟩,fun i hi=>?_,fun k _ r hr=>absurd hr (rt k r),fun j k _ _ _ r hr=>absurd hr (rt j r),fun r hr=>?_⟩
  ·rw [(hsl0 i).1,(hsl0 i).2]
   exact ⟨.inr (.inl ⟨rfl,fun e he=>by obtain ⟨x,_,rfl⟩:=List.mem_map.1 he;rfl⟩),.inr (.inl ⟨rfl,fun e he=>by obtain ⟨x,_,rfl⟩:=List.mem_map.1 he;rfl⟩)⟩
  ·simp only [List.mem_cons,List.mem_nil_iff,or_false] at hr
   rcases hr with rfl | rfl
   ·exact ⟨_,by rw [Q4 _ _ n32];exact g2⟩
   ·exact ⟨_,Q5 _ _ _⟩
 refine LoopVC.intro (fun m e h'=>∃ (k:Nat) (sl':Nat->AVal),k<=d.nodes.length/\m=d.nodes.length-k/\e 2=.vp r2 0/\e 3=.vp r3 0/\e 14=Q3 d.nodes.length/\e 15=Q3 k/\Dw [r2,r3] h h' rN d sl' /\
  h' r2=some ⟨.t 24,2,[[.emp,.bool false]]⟩/\h' r3=some ⟨.t 24,2,[[.osl rN 6 0 d.nodes.length,.bool d.quirks]]⟩/\(∀ j,j<2*k->Mut (sl' j)) /\ ∀ j,2*k<=j->sl' j=sl0 j) d.nodes.length
  ⟨0,sl0,by omega,by omega,rfl,rfl,rfl,rfl,E0,by rw [Q4 _ _ n32];exact g2,Q5 _ _ _,by omega,fun _ _=>rfl⟩ ?_
 clear E0 hn1 A g2 hr3 hn0 rt rows0
 rintro m e h' ⟨k,sl',hk,rfl,he2,he3,he14,he15,E,g2,g3,hm,hs⟩
 simp -dsimp -implicitDefEqProofs (disch:=omega) only [VCA,↓reduceIte,he14,he15]
 refine Br.dec (fun hlt=>?_) (fun hge=>?_)
 ·have hk':k<d.nodes.length:=by omega
  have gN:=E.nodes
  have gk:=JY (sl:=sl') hk'
  have rl:=QK d sl'
  rw [hs (2*k) (by omega),hs (2*k+1) (by omega),(hsl0 k).1,(hsl0 k).2] at gk
  unfold rowA at gk
  have smk:=sm.nth k
  simp -dsimp -implicitDefEqProofs (disch:=omega) only [VCA,Nat.reduceEqDiff,Nat.reduceAdd,Nat.reduceLT,Nat.reduceLeDiff,↓reduceIte,Y8,Z0,exists_eq_left',J1,he3,he15,g3,gN,gk,rl]
  refine ⟨by omega,hk',hk',DCalls.of (cloneA_own (G:=G) _ smk.attrs) ?_⟩
  rintro a h2 ⟨A1,T1⟩
  have gN2:=T1 _ _ gN
  simp -dsimp -implicitDefEqProofs (disch:=omega) only [VCA,Nat.reduceEqDiff,Nat.reduceBEq,↓reduceIte,SOp.rd,SI.rd,SX.rd,rdL,implies_true,gN,gN2]
  refine DCalls.of (cloneZ_own (G:=G) _ smk.kids) ?_
  rintro a2 h3 ⟨A2,T2⟩
  have gN3:=T2 _ _ gN2
  obtain ⟨O1,f1,M1⟩:=OwnS.of_acc A1
  obtain ⟨O2,f2,M2⟩:=OwnS.of_acc A2
  obtain ⟨v1,c1⟩:=O1.isV
  obtain ⟨v2,c2⟩:=O2.isV
  simp -dsimp -implicitDefEqProofs (disch:=omega) only [VCA,Nat.reduceEqDiff,Nat.reduceBEq,Nat.reduceAdd,Nat.reduceLeDiff,↓reduceIte,Y8,Z0,SOp.rd,SI.rd,SX.rd,rdL,Z8,implies_true,exists_eq_left',J1,he2,he3,he14,he15,gN2,gN3,gk,rl,v1,c1,v2,c2,List.length_set,getD_set_same,set_set_same]
  have hki:(2*k:Nat)≠2*k+1:=by omega
  refine ⟨by omega,by omega,d.nodes.length-(k+1),by omega,k+1,upd (upd sl' (2*k) a) (2*k+1) a2,by omega,rfl,by omega,?_,?_,?_,?_,?_⟩
  ·have u1:upd (upd sl' (2*k) a) (2*k+1) a2 (2*k)=a:=by rw [Q4 _ _ hki,Q5]
   have u2:upd (upd sl' (2*k) a) (2*k+1) a2 (2*k+1)=a2:=Q5 _ _ _
   have T:Sim.Sub h' h3:=T1.trans T2
   refine (E.put hk' (x':=nth d.nodes k) (fun j h1 h2=>by rw [Q4 _ _ h2,Q4 _ _ h1]) ?_ ?_ ?_ ?_ ?_ ?_).cong ?_
   ·rw [u1,u2,Q5];rfl
   ·intro r o ho hne _ _
    rw [Q4 _ _ hne]
    exact T _ _ ho
   ·rw [u1]
    exact O1.keep fun r o hr ho=>by
     rw [Q4 _ _ (fun e=>by have:=f1 r hr;rw [e,gN] at this;cases this)]
     exact T2 _ _ ho
   ·rw [u2]
    exact O2.keep fun r o hr ho=>by
     rw [Q4 _ _ (fun e=>by have:=f2 r hr;rw [e,gN2] at this;cases this)]
     exact ho
   ·rw [u1,u2]
    rintro r (hr | hr)
    ·exact .inr (.inr (f1 r hr))
    ·exact .inr (.inr (T1.none (f2 r hr)))
   ·rw [u1,u2]
    intro r hr hr2
    obtain ⟨o,ho⟩:=O1.root hr
    have:=f2 r hr2
    rw [ho] at this;cases this
   ·have:d.nodes.set k (nth d.nodes k)=d.nodes:=by
     apply List.ext_getElem?
     intro j
     rw [List.getElem?_set]
     split
     ·rename_i h;subst h;first | (rw [if_pos hk',J5 hk']) | (rw [J5 hk'])
     ·rfl
    rw [this]
  ·rw [if_neg (fun e=>n2N e.symm)];exact (T1.trans T2) _ _ g2
  ·rw [if_neg (fun e=>n3N e.symm)];exact (T1.trans T2) _ _ g3
  ·intro j hj
   by_cases j1:j=2*k+1
   ·subst j1;rw [Q5];exact M2
   ·rw [Q4 _ _ j1]
    by_cases j2:j=2*k
    ·subst j2;rw [Q5];exact M1
    ·rw [Q4 _ _ j2];exact hm j (by omega)
  ·intro j hj
   rw [Q4 _ _ (by omega),Q4 _ _ (by omega)]
   exact hs j (by omega)
 ·simp -dsimp -implicitDefEqProofs (disch:=omega) only [VCA,Nat.reduceEqDiff,Nat.reduceAdd,Nat.reduceLT,↓reduceIte,Z8,exists_eq_left',he2,he3,g2,g3]
  obtain rfl:k=d.nodes.length:=by omega
  exact ⟨_,Sub.refl _,rN,sl',rfl,(E.other (r:=r2) (by simp) hr2 _).less (by simp),hm⟩
theorem OwnS.app {h:Q2} {ty sz b:Nat} {cells es2:List (List AVal)} {a:AVal} (O:OwnS h ty sz cells a) (M:Mut a) (h1:(cells.length+es2.length)*b<=140737488355328) (h2:cells.length+es2.length<=140737488355328) {K:AVal->Q2->Prop}
 (hk:∀ r' h'',h'' r'=some ⟨ty,sz,cells++es2⟩->(Q9 a=some r'\/h r'=none)->(∀ r o,h r=some o->Q9 a≠some r->h'' r=some o)->K (.osl r' sz 0 (cells.length+es2.length)) h''):Hd (appE ty sz b a es2 h) K .mk:=by
 rcases O.live M with ⟨rfl,rfl⟩ | ⟨r,es,rfl,hr,hl,ht⟩
 ·refine ⟨by simpa using h1,by simpa using h2,fun r hr=>?_⟩
  have:=hk r (upd h r (some ⟨ty,sz,es2⟩)) (by simp) (.inr hr) (fun t o ho _=>by rw [Q4 _ _ (fun e=>by rw [e,hr] at ho;cases ho)];exact ho)
  simpa using this
 ·refine ⟨rfl,_,hr,rfl,by simpa using hl,h1,h2,fun r' hr'=>?_⟩
  have hr2:r'=r\/h r'=none:=by
   unfold del at hr'
   split at hr'
   ·rename_i e;exact .inl e
   ·exact .inr hr'
  refine hk r' _ (by simp [ht]) ?_ fun t o ho hne=>?_
  ·rcases hr2 with e | e
   ·left;rw [e];rfl
   ·exact .inr e
  ·have e1:t≠r:=fun e=>hne (by rw [e];rfl)
   have e2:t≠r':=fun e=>by
    rcases hr2 with e3 | e3
    ·exact e1 (e.trans e3)
    ·rw [e,e3] at ho;cases ho
   rw [Q4 _ _ e2];unfold del;rw [if_neg e1];exact ho
structure Ed (h0 h:Q2) (re rN:Nat) (d:HDoc) (sl:Nat->AVal) (made:Int):Prop where
 dw:Dw [re] h0 h rN d sl
 ed:h re=some ⟨.t 95,3,[[.osl rN 6 0 d.nodes.length,.bool d.quirks,Q3 made]]⟩
 new:h0 re=none
 live:∀ k,k<2*d.nodes.length->Mut (sl k)
theorem rowsA_add {d:HDoc} {x:HNode} {sl:Nat->AVal} {a:AVal}:QZ (UX d x) (upd (upd sl (2*d.nodes.length) a) (2*d.nodes.length+1) .emp)=QZ d sl++[rowA x a .emp]:=by
 unfold QZ
 rw [ZW,List.range_succ,List.map_append,List.map_cons,List.map_nil]
 congr 1
 ·refine List.map_congr_left fun i hi=>?_
  have hi:=List.mem_range.1 hi
  rw [Q4 _ _ (by omega),Q4 _ _ (by omega),Q4 _ _ (by omega),Q4 _ _ (by omega)]
  have:nth (UX d x).nodes i=nth d.nodes i:=by
   unfold UX nth;rw [List.getD_eq_getElem?_getD,List.getD_eq_getElem?_getD,List.getElem?_append_left hi]
  rw [this]
 ·rw [Q5,Q4 _ _ (by omega),Q5]
  have:nth (UX d x).nodes d.nodes.length=x:=by unfold UX nth;rw [List.getD_eq_getElem?_getD];simp
  rw [this]
theorem Dw.mono {X:List Nat} {h0 h h2:Q2} {rN:Nat} {d:HDoc} {sl:Nat->AVal} (E:Dw X h0 h rN d sl) (S:Sim.Sub h h2):Dw X h0 h2 rN d sl:=
 ⟨E.sub.trans S,S _ _ E.nodes,E.new,fun i hi=>⟨(E.own i hi).1.keep fun r o _ ho=>S _ _ ho,(E.own i hi).2.keep fun r o _ ho=>S _ _ ho⟩,E.fresh,E.sep,fun r hr=>by obtain ⟨o,ho⟩:=E.keep r hr;exact ⟨o,S _ _ ho⟩⟩
theorem Dw.new' {X:List Nat} {h0 h:Q2} {rN:Nat} {d:HDoc} {sl:Nat->AVal} (E:Dw X h0 h rN d sl):Dw [] (fun _=>none) (newH h0 h) rN d sl:=
 ⟨(fun t o ht=>by cases ht),by rw [UJ E.new.1];exact E.nodes,⟨rfl,by simp⟩,fun i hi=>⟨(E.own i hi).1.keep fun r o hr ho=>by rw [UJ (E.fresh _ (by omega) r hr).1];exact ho,(E.own i hi).2.keep fun r o hr ho=>by rw [UJ (E.fresh _ (by omega) r hr).1];exact ho⟩,
   fun k hk r hr=>⟨rfl,(E.fresh k hk r hr).2.1,by simp⟩,E.sep,fun r hr=>by cases hr⟩
theorem Dw.beside {X:List Nat} {h0 h00 h:Q2} {rN r:Nat} {d:HDoc} {sl:Nat->AVal} {x:AObj} (E:Dw X h0 h rN d sl) (S:Sim.Sub h00 h0) (h1:h0 r=some x) (h2:h00 r=none) (hX:r∉X) (y:AObj):Dw X h00 (upd h r (some y)) rN d sl:=by
 have ne:∀ t,h0 t=none->t≠r:=fun t ht e=>by rw [e,h1] at ht;cases ht
 refine ⟨(S.trans E.sub).upd h2,by rw [Q4 _ _ (ne _ E.new.1)];exact E.nodes,⟨S.none E.new.1,E.new.2⟩,fun i hi=>?_,fun k hk t ht=>⟨S.none (E.fresh k hk t ht).1,(E.fresh k hk t ht).2⟩,E.sep,fun t ht=>?_⟩
 ·obtain ⟨g1,g2⟩:=E.own i hi
  exact ⟨g1.keep fun t o ht ho=>by rw [Q4 _ _ (ne t (E.fresh _ (by omega) t ht).1)];exact ho,g2.keep fun t o ht ho=>by rw [Q4 _ _ (ne t (E.fresh _ (by omega) t ht).1)];exact ho⟩
 ·obtain ⟨o,ho⟩:=E.keep t ht
  exact ⟨o,by rw [Q4 _ _ (fun e=>hX (by rw [<-e];exact ht))];exact ho⟩
theorem DCalls.bor {P:PG} {f:Nat} {args args':List AVal} {v:AVal} {h:Q2} (hp:PCalls P f args' v) (hs:Scal v) (hv:F2 (Vw h) args args'):DCalls P f args h fun r h'=>r=v/\h'=h:=hp.borrow hs hv.len hv.get
def nodeP (rN:Nat) (d:HDoc) (n:Int):AVal:=if inD d n then .ptr rN n.toNat 0 else .prim (.pointer none)
def c112:SFun:=⟨.seq (.reg [o 4 (.mv (.c (.prim (Value.pointer none))))]) (.seq (.seq (.reg [o 5 (.mv (.t 1)),o 6 (.bin .lss (.t 5) (.c (.int .i64 0))),o 7 (.mv (.t 6)),⟨some 8,.mv (.t 1),some (7,false)⟩,⟨some 9,.mv (.t 0),some (7,false)⟩,⟨some 10,.fldA 0 (.t 9),some (7,false)⟩,⟨some 11,.fldA 0 (.t 10),some (7,false)⟩,⟨some 12,.fldA 0 (.t 11),some (7,false)⟩,⟨some 13,.ld 1 false (.t 12),some (7,false)⟩,⟨some 14,.len (.t 13),some (7,false)⟩,⟨some 15,.bin .geq (.t 8) (.t 14),some (7,false)⟩,o 16 (.pick (.t 7) (.c (.bool true)) (.t 15))]) (.cond (.t 16) (.seq (.reg [o 4 (.mv (.c (.prim (Value.pointer none))))]) .ret) .skip)) (.seq (.reg [o 17 (.mv (.t 0)),o 18 (.fldA 0 (.t 17)),o 19 (.fldA 0 (.t 18)),o 20 (.fldA 0 (.t 19)),o 21 (.ld 1 false (.t 20)),o 22 (.mv (.t 1)),o 23 (.idxA 6 (.t 21) (.t 22)),o 4 (.mv (.t 23))]) .ret)),[.tmp 4]⟩
theorem hc112:Y3 Tryz.prog {} Tryz.f112=some c112:=by kernel_rfl
theorem enode_ok {h0 h:Q2} {re rN:Nat} {d:HDoc} {sl:Nat->AVal} {made:Int} (E:Ed h0 h re rN d sl made) (n:Int):DCalls (Pg G) 112 [.vp re 0,Q3 n] h fun r h'=>r=nodeP rN d n/\h'=h:=by
 have g:=E.ed
 refine Q0 Tryz.func112 (by kernel_rfl) hc112 (by rw [Tryz.ntmps112];simp) (by rw [Tryz.ntmps112];decide) ?_
 unfold nodeP
 by_cases hn:inD d n
 ·have n0:=hn.1
  have n1:=hn.2
  rw [if_pos hn]
  simp -dsimp -implicitDefEqProofs (disch:=omega) only [↓Q1 7,VCA,Nat.reduceEqDiff,↓reduceIte,c112]
  repeat' (first | ((with_reducible refine brC (fun _=>?_) fun _=>?_) <;> try (exfalso;omega)) | (with_reducible refine And.intro ?_ ?_; · omega) | simp -dsimp -implicitDefEqProofs (disch:=omega) only [VCA,Nat.reduceEqDiff,Nat.reduceAdd,Nat.reduceLT,Nat.reduceLeDiff,↓reduceIte,reduceCtorEq,exists_eq_right,exists_eq_left',g])
  all_goals first | (exfalso;omega) | exact ⟨Sub.refl _,by simp⟩ | exact Sub.refl _
 ·rw [if_neg hn]
  unfold inD at hn
  simp -dsimp -implicitDefEqProofs (disch:=omega) only [↓Q1 7,VCA,Nat.reduceEqDiff,↓reduceIte,c112]
  repeat' (first | ((with_reducible refine brC (fun _=>?_) fun _=>?_) <;> try (exfalso;omega)) | (with_reducible refine And.intro ?_ ?_; · omega) | simp -dsimp -implicitDefEqProofs (disch:=omega) only [VCA,Nat.reduceEqDiff,Nat.reduceAdd,Nat.reduceLT,Nat.reduceLeDiff,↓reduceIte,reduceCtorEq,exists_eq_right,exists_eq_left',g])
  all_goals first | (exfalso;omega) | exact Sub.refl _
def TJ (d:HDoc) (n:Int):Int:=if ¬ inD d n then 5 else if (nd d n).kind≠2 then 7 else 0
def c110:SFun:=⟨.seq (.reg [o 4 (.mv (.c (.prim (Value.pointer none)))),o 5 (.mv (.c (.int .i64 0)))]) (.seq (.reg [o 7 (.mv (.t 0)),o 8 (.mv (.t 1)),o 9 (.call (.c (.fn 112 [] [])) [.t 7,.t 8]),o 6 (.mv (.t 9))]) (.seq (.block 0 (.seq (.reg [o 11 (.mv (.t 6)),o 12 (.isnil 1 false (.t 11)),o 10 (.mv (.t 12))]) (.cond (.t 10) (.seq (.reg [o 4 (.mv (.c (.prim (Value.pointer none)))),o 5 (.mv (.c (.int .i64 5)))]) .ret) (.seq (.reg [o 14 (.mv (.t 6)),o 15 (.fldA 0 (.t 14)),o 16 (.fldA 0 (.t 15)),o 17 (.ld 1 false (.t 16)),o 18 (.bin .neq (.t 17) (.c (.int .i64 2))),o 13 (.mv (.t 18))]) (.cond (.t 13) (.seq (.reg [o 4 (.mv (.c (.prim (Value.pointer none)))),o 5 (.mv (.c (.int .i64 7)))]) .ret) .skip))))) (.seq (.reg [o 19 (.mv (.t 6)),o 4 (.mv (.t 19)),o 5 (.mv (.c (.int .i64 0)))]) .ret))),[.tmp 4,.tmp 5]⟩
theorem hc110:Y3 Tryz.prog {} Tryz.f110=some c110:=by kernel_rfl
theorem element_ok {h0 h:Q2} {re rN:Nat} {d:HDoc} {sl:Nat->AVal} {made:Int} (E:Ed h0 h re rN d sl made) (n:Int):DCalls (Pg G) 110 [.vp re 0,Q3 n] h fun r h'=>r=.tup [if TJ d n=0 then .ptr rN n.toNat 0 else .prim (.pointer none),Q3 (TJ d n)]/\h'=h:=by
 have gN:=E.dw.nodes
 have hE:=enode_ok (G:=G) E n
 unfold nodeP at hE
 refine Q0 Tryz.func110 (by kernel_rfl) hc110 (by rw [Tryz.ntmps110];simp) (by rw [Tryz.ntmps110];decide) ?_
 simp -dsimp -implicitDefEqProofs (disch:=omega) only [VCA,Nat.reduceEqDiff,↓reduceIte,reduceCtorEq,c110]
 by_cases hn:inD d n
 ·rw [if_pos hn] at hE
  have hn':=hn.nat.1
  have gk:=JY (sl:=sl) hn'
  have rl:=QK d sl
  have e0:nth d.nodes n.toNat=nd d n:=rfl
  unfold rowA at gk
  have eE:TJ d n=if (nd d n).kind≠2 then 7 else 0:=by unfold TJ;rw [if_neg (by simpa using hn)]
  refine DCalls.of hE ?_
  rintro _ _ ⟨rfl,rfl⟩
  rw [eE]
  repeat' (first | ((with_reducible refine brC (fun _=>?_) fun _=>?_) <;> try (exfalso;omega)) | (with_reducible refine And.intro ?_ ?_; · omega) | simp -dsimp -implicitDefEqProofs (disch:=omega) only [VCA,Nat.reduceEqDiff,Nat.reduceAdd,Nat.reduceLeDiff,↓reduceIte,ne_eq,exists_eq_right_right,exists_eq_left',gN,gk,rl,e0])
  all_goals first | (refine ⟨Sub.refl _,?_⟩;simp [*];done) | trace_state
 ·rw [if_neg hn] at hE
  have eE:TJ d n=5:=by unfold TJ;rw [if_pos hn]
  refine DCalls.of hE ?_
  rintro _ _ ⟨rfl,rfl⟩
  rw [eE]
  repeat' (first | ((with_reducible refine brC (fun _=>?_) fun _=>?_) <;> try (exfalso;omega)) | (with_reducible refine And.intro ?_ ?_; · omega) | simp -dsimp -implicitDefEqProofs (disch:=omega) only [VCA,Nat.reduceEqDiff,↓reduceIte,exists_eq_right_right])
  all_goals first | exact Sub.refl _ | exact ⟨Sub.refl _,rfl⟩ | trace_state
def EdR (h0 h:Q2) (re:Nat) (d:HDoc) (e:HEdit) (made:Int) (r:AVal) (h':Q2):Prop:=
 r=Q3 (V4 d e)/\((V4 d e≠0/\h'=h)\/(V4 d e=0 /\ ∃ rN' sl',Ed h0 h' re rN' (J6 d e) sl' (if e.do'=4 then (d.nodes.length:Int) else made)))
theorem EdR.bad {h0 h:Q2} {re:Nat} {d:HDoc} {e:HEdit} {made v:Int} (h1:V4 d e=v) (h2:v≠0):EdR h0 h re d e made (Q3 v) h:=⟨by rw [h1],.inl ⟨by rw [h1];exact h2,rfl⟩⟩
theorem EdR.good {h0 h h':Q2} {re rN':Nat} {d:HDoc} {sl':Nat->AVal} {e:HEdit} {made m:Int} (h1:V4 d e=0) (hm:m=if e.do'=4 then (d.nodes.length:Int) else made) (E:Ed h0 h' re rN' (J6 d e) sl' m):EdR h0 h re d e made (Q3 0) h':=
 ⟨by rw [h1],.inr ⟨h1,rN',sl',hm ▸ E⟩⟩
section
variable {h0 h:Q2} {re rN:Nat} {d:HDoc} {sl:Nat->AVal} {made:Int}
theorem Ed.ne (E:Ed h0 h re rN d sl made):re≠rN:=fun e=>E.dw.new.2 (by simp [e])
theorem Ed.put (E:Ed h0 h re rN d sl made) {h2:Q2} {sl':Nat->AVal} {i:Nat} (hi:i<d.nodes.length) {x':HNode}
 (hs:∀ j,j≠2*i->j≠2*i+1->sl' j=sl j)
 (hN:h2 rN=some ⟨.t 31,6,(QZ d sl).set i (rowA x' (sl' (2*i)) (sl' (2*i+1)))⟩)
 (hk:∀ r o,h r=some o->r≠rN->Q9 (sl (2*i))≠some r->Q9 (sl (2*i+1))≠some r->h2 r=some o)
 (hA:OwnS h2 72 2 (x'.attrs.map Y0) (sl' (2*i))) (hK:OwnS h2 3 1 (x'.kids.map Z6) (sl' (2*i+1)))
 (hf:∀ r,Q9 (sl' (2*i))=some r\/Q9 (sl' (2*i+1))=some r->Q9 (sl (2*i))=some r\/Q9 (sl (2*i+1))=some r\/h r=none)
 (hd:∀ r,Q9 (sl' (2*i))=some r->Q9 (sl' (2*i+1))≠some r)
 (hm:Mut (sl' (2*i))/\Mut (sl' (2*i+1))):Ed h0 h2 re rN ⟨d.nodes.set i x',d.quirks⟩ sl' made:=by
 have hl:(d.nodes.set i x').length=d.nodes.length:=by simp
 refine ⟨E.dw.put hi hs hN hk hA hK hf hd,?_,E.new,fun k hk'=>?_⟩
 ·show h2 re=some ⟨_,3,[[.osl rN 6 0 (d.nodes.set i x').length,_,_]]⟩
  rw [hl]
  refine hk re _ E.ed E.ne (fun h=>(E.dw.fresh _ (by omega) re h).2.2 (by simp)) (fun h=>(E.dw.fresh _ (by omega) re h).2.2 (by simp))
 ·simp only [hl] at hk'
  by_cases e1:k=2*i
  ·rw [e1];exact hm.1
  ·by_cases e2:k=2*i+1
   ·rw [e2];exact hm.2
   ·rw [hs k e1 e2];exact E.live k hk'
theorem Ed.cells (E:Ed h0 h re rN d sl made) {i:Nat} (hi:i<d.nodes.length) {x':HNode} (hA:x'.attrs=(nth d.nodes i).attrs) (hK:x'.kids=(nth d.nodes i).kids) :
 Ed h0 (upd h rN (some ⟨.t 31,6,(QZ d sl).set i (rowA x' (sl (2*i)) (sl (2*i+1)))⟩)) re rN ⟨d.nodes.set i x',d.quirks⟩ sl made:=by
 obtain ⟨g1,g2⟩:=E.dw.own i hi
 have k1:∀ k,k<2*d.nodes.length -> ∀ r,Q9 (sl k)=some r->r≠rN:=fun k hk r hr=>(E.dw.fresh k hk r hr).2.1
 refine E.put hi (fun _ _ _=>rfl) (Q5 _ _ _) (fun r o ho hne _ _=>by rw [Q4 _ _ hne];exact ho) ?_ ?_ (fun r hr=>by rcases hr with h | h;exact .inl h;exact .inr (.inl h)) (fun r hr=>E.dw.sep _ _ (by omega) (by omega) (by omega) r hr) ⟨E.live _ (by omega),E.live _ (by omega)⟩
 ·rw [hA];exact g1.keep fun r o hr ho=>by rw [Q4 _ _ (k1 _ (by omega) r hr)];exact ho
 ·rw [hK];exact g2.keep fun r o hr ho=>by rw [Q4 _ _ (k1 _ (by omega) r hr)];exact ho
end
def c95:SFun:=⟨.seq (.reg [o 3 (.boxF 33 12 (.t 1)),o 4 (.mv (.c (.int .i64 0)))]) (.seq (.reg [o 6 (.mv (.t 0)),o 7 (.fldA 1 (.t 3)),o 8 (.ld 1 false (.t 7)),o 9 (.call (.c (.fn 112 [] [])) [.t 6,.t 8]),o 5 (.mv (.t 9))]) (.seq (.block 0 (.seq (.reg [o 11 (.mv (.t 5)),o 12 (.isnil 1 false (.t 11)),o 10 (.mv (.t 12))]) (.cond (.t 10) (.seq (.reg [o 4 (.mv (.c (.int .i64 5)))]) .ret) (.seq (.reg [o 14 (.mv (.t 5)),o 15 (.fldA 0 (.t 14)),o 16 (.fldA 0 (.t 15)),o 17 (.ld 1 false (.t 16)),o 18 (.bin .neq (.t 17) (.c (.int .i64 3))),o 19 (.mv (.t 18)),⟨some 20,.mv (.t 5),some (19,true)⟩,⟨some 21,.fldA 0 (.t 20),some (19,true)⟩,⟨some 22,.fldA 0 (.t 21),some (19,true)⟩,⟨some 23,.ld 1 false (.t 22),some (19,true)⟩,⟨some 24,.bin .neq (.t 23) (.c (.int .i64 4)),some (19,true)⟩,o 25 (.pick (.t 19) (.t 24) (.c (.bool false))),o 13 (.mv (.t 25))]) (.cond (.t 13) (.seq (.reg [o 4 (.mv (.c (.int .i64 7)))]) .ret) (.seq (.reg [o 27 (.fldA 5 (.t 3)),o 28 (.ld 1 false (.t 27)),o 29 (.lenS (.t 28)),o 30 (.bin .gtr (.t 29) (.c (.int .i64 400))),o 26 (.mv (.t 30))]) (.cond (.t 26) (.seq (.reg [o 4 (.mv (.c (.int .i64 2)))]) .ret) .skip))))))) (.seq (.reg [o 31 (.mv (.t 5)),o 32 (.fldA 5 (.t 3)),o 33 (.ld 1 false (.t 32)),o 34 (.fldA 0 (.t 31)),o 35 (.fldA 3 (.t 34)),⟨none,.st 1 (.t 35) (.t 33),none⟩]) (.seq (.reg [o 4 (.mv (.c (.int .i64 0)))]) .ret)))),[.tmp 4]⟩
theorem hc95:Y3 Tryz.prog {} Tryz.f95=some c95:=by kernel_rfl
theorem etext_ok {h0 h:Q2} {re rN:Nat} {d:HDoc} {sl:Nat->AVal} {made:Int} (E:Ed h0 h re rN d sl made) (e:HEdit) (he:EditSm e) (hdo:e.do'=3):DCalls (Pg G) 95 [.vp re 0,.agg (Z4 e)] h (EdR h0 h re d e made):=by
 have gN:=E.dw.nodes
 have hE:=enode_ok (G:=G) E e.at'
 have vl:=he.value
 unfold nodeP at hE
 have eE:V4 d e=if ¬ inD d e.at' then 5 else if (nd d e.at').kind≠3/\(nd d e.at').kind≠4 then 7 else if 400<e.value.length then 2 else 0:=by unfold V4;rw [if_neg (by omega),if_neg (by omega),if_pos hdo]
 have eD:J6 d e=setN d e.at' { nd d e.at' with text:=e.value }:=by unfold J6;rw [if_neg (by omega),if_neg (by omega),if_pos hdo]
 have hm4:made=if e.do'=4 then (d.nodes.length:Int) else made:=by rw [if_neg (by omega)]
 refine Q0 Tryz.func95 (by kernel_rfl) hc95 (by rw [Tryz.ntmps95];simp) (by rw [Tryz.ntmps95];decide) ?_
 simp -dsimp -implicitDefEqProofs (disch:=omega) only [VCA,Nat.reduceEqDiff,Nat.reduceAdd,Nat.reduceLeDiff,↓reduceIte,reduceCtorEq,c95,Z4]
 by_cases hn:inD d e.at'
 ·rw [if_pos hn] at hE
  have hn':=hn.nat.1
  have gk:=JY (sl:=sl) hn'
  have rl:=QK d sl
  have e0:nth d.nodes e.at'.toNat=nd d e.at':=rfl
  rw [e0] at gk
  have Ec:=E.cells hn' (x':={ nd d e.at' with text:=e.value }) rfl rfl
  unfold rowA at gk
  rw [if_neg (by simpa using hn)] at eE
  refine DCalls.of hE ?_
  rintro _ _ ⟨rfl,rfl⟩
  by_cases hk:(nd d e.at').kind≠3/\(nd d e.at').kind≠4
  ·rw [if_pos hk] at eE
   repeat' (first | ((with_reducible refine brC (fun _=>?_) fun _=>?_) <;> try (exfalso;omega)) | (with_reducible refine And.intro ?_ ?_; · omega) | simp -dsimp -implicitDefEqProofs (disch:=omega) only [↓Q1 19,VCA,Nat.reduceEqDiff,Nat.reduceAdd,Nat.reduceLeDiff,↓reduceIte,exists_eq_left',gN,gk,rl])
   all_goals first | (exfalso;omega) | exact ⟨_,Sub.refl _,EdR.bad eE (by decide)⟩
  ·rw [if_neg hk] at eE
   by_cases hv:400<e.value.length
   ·rw [if_pos hv] at eE
    repeat' (first | ((with_reducible refine brC (fun _=>?_) fun _=>?_) <;> try (exfalso;omega)) | (with_reducible refine And.intro ?_ ?_; · omega) | simp -dsimp -implicitDefEqProofs (disch:=omega) only [↓Q1 19,VCA,Nat.reduceEqDiff,Nat.reduceAdd,Nat.reduceLeDiff,↓reduceIte,exists_eq_left',gN,gk,rl])
    all_goals first | (exfalso;omega) | exact ⟨_,Sub.refl _,EdR.bad eE (by decide)⟩
   ·rw [if_neg hv] at eE
    repeat' (first | ((with_reducible refine brC (fun _=>?_) fun _=>?_) <;> try (exfalso;omega)) | (with_reducible refine And.intro ?_ ?_; · omega) | simp -dsimp -implicitDefEqProofs (disch:=omega) only [↓Q1 19,VCA,Nat.reduceEqDiff,Nat.reduceAdd,Nat.reduceLeDiff,↓reduceIte,Z8,exists_eq_left',gN,gk,rl])
    all_goals first | (exfalso;omega) | exact ⟨_,Sub.refl _,EdR.good eE hm4 (by rw [eD];exact Ec)⟩
 ·rw [if_neg hn] at hE
  rw [if_pos hn] at eE
  refine DCalls.of hE ?_
  rintro _ _ ⟨rfl,rfl⟩
  repeat' (first | ((with_reducible refine brC (fun _=>?_) fun _=>?_) <;> try (exfalso;omega)) | (with_reducible refine And.intro ?_ ?_; · omega) | simp -dsimp -implicitDefEqProofs (disch:=omega) only [VCA,↓reduceIte])
  all_goals exact ⟨_,Sub.refl _,EdR.bad eE (by decide)⟩
end Go.Proofs.K
end
section
set_option linter.unusedSimpArgs false
set_option linter.unusedVariables false
namespace Go.Proofs.K
open Go Go.Sim Go.Proofs
variable {G:YZ}
def c111:SFun:=⟨.seq (.reg [o 6 (.mv (.c .emp))]) (.seq (.reg [o 8 (.mv (.t 0)),o 9 (.mv (.t 1)),o 10 (.mv (.t 2)),o 11 (.mv (.t 0)),o 12 (.len (.t 11)),o 13 (.slM 2 (.t 8) (some (.t 9)) (some (.t 10)) (some (.t 12)))]) (.seq (.seq (.reg [o 14 (.mv (.t 1)),o 15 (.mv (.t 2)),o 16 (.bin .eql (.t 14) (.t 15))]) (.cond (.t 16) (.seq (.reg [o 17 (.mv (.t 0)),o 6 (.mv (.t 17))]) .ret) .skip)) (.seq (.reg [o 18 (.mv (.t 0)),o 19 (.len (.t 18)),o 7 (.mv (.t 19))]) (.seq (.dreg [(o 20 (.mv (.t 0)),none),(o 21 (.mv (.t 1)),none),(o 22 (.slA 2 (.t 20) none (some (.t 21))),none),(o 23 (.mv (.t 0)),none),(o 24 (.mv (.t 2)),none),(o 25 (.slA 2 (.t 23) (some (.t 24)) none),none),(o 26 (.appIn 72 2 (.t 22) (.t 25)),(some [])),(o 0 (.mv (.t 26)),(some []))]) (.seq (.reg [o 27 (.mv (.t 0)),o 28 (.mv (.t 0)),o 29 (.len (.t 28)),o 30 (.mv (.t 7)),o 31 (.slX 2 (.t 27) (some (.t 29)) (some (.t 30))),⟨none,.clear 2 [.str [],.str []] (.t 31),none⟩]) (.seq (.reg [o 32 (.mv (.t 0)),o 6 (.mv (.t 32))]) .ret)))))),[.tmp 6]⟩
theorem hc111:Y3 Tryz.prog {how:=[(26,3),(31,4)]} Tryz.f111=some c111:=by kernel_rfl
theorem deleteA_ok {h:Q2} {r n i j:Nat} {es:List (List AVal)} (hr:h r=some ⟨.t 72,2,es⟩) (hn:n<=es.length) (hij:i<j) (hj:j<=n) (hl:n<=1073741824) :
 DCalls (Pg G) 111 [.osl r 2 0 n,Q3 i,Q3 j] h fun a h'=>a=.osl r 2 0 (n-(j-i)) /\ ∃ es',h'=upd h r (some ⟨.t 72,2,es'⟩)/\n-(j-i)<=es'.length/\es'.take (n-(j-i))=es.take i++(es.take n).drop j:=by
 refine Q0 Tryz.func111 (by kernel_rfl) hc111 (by rw [Tryz.ntmps111];simp) (by rw [Tryz.ntmps111];decide) ?_
 simp -dsimp -implicitDefEqProofs (disch:=omega) only [VCA,Nat.reduceEqDiff,↓reduceIte,reduceCtorEq,c111]
 refine ⟨by omega,Br.eq (fun h1=>by omega) (fun h1=>?_)⟩
 simp -dsimp -implicitDefEqProofs (disch:=omega) only [VCA,Nat.reduceEqDiff,↓reduceIte,reduceCtorEq,Y8,Z0,SOp.rd,SI.rd,SX.rd,exists_eq_left',J1,hr]
 have hL:(List.take (n-j) (List.drop j es)).length=n-j:=by simp;omega
 have hT:(List.take i es).length=i:=by simp;omega
 rw [hL]
 have e1:i+(n-j)=n-(j-i):=by omega
 refine ⟨by omega,by omega,by omega,by omega,by omega,by omega,by simp;omega,by simp;omega,_,Sub.refl _,by rw [e1],_,rfl,?_,?_⟩
 ·simp;omega
 ·rw [<-e1]
  have e2:(List.take i es++List.take (n-j) (List.drop j es)).length=i+(n-j):=by rw [List.length_append,hT,hL]
  rw [List.take_append_of_le_length (by simp;omega),List.take_append_of_le_length (by rw [List.length_take,List.length_append,e2];omega),List.take_take,Nat.min_eq_left (by omega),List.take_append_of_le_length (by omega),List.take_of_length_le (by omega),List.drop_take]
def c116:SFun:=⟨.seq (.reg [o 6 (.mv (.c .emp))]) (.seq (.reg [o 8 (.mv (.t 0)),o 9 (.mv (.t 1)),o 10 (.mv (.t 2)),o 11 (.mv (.t 0)),o 12 (.len (.t 11)),o 13 (.slM 1 (.t 8) (some (.t 9)) (some (.t 10)) (some (.t 12)))]) (.seq (.seq (.reg [o 14 (.mv (.t 1)),o 15 (.mv (.t 2)),o 16 (.bin .eql (.t 14) (.t 15))]) (.cond (.t 16) (.seq (.reg [o 17 (.mv (.t 0)),o 6 (.mv (.t 17))]) .ret) .skip)) (.seq (.reg [o 18 (.mv (.t 0)),o 19 (.len (.t 18)),o 7 (.mv (.t 19))]) (.seq (.dreg [(o 20 (.mv (.t 0)),none),(o 21 (.mv (.t 1)),none),(o 22 (.slA 1 (.t 20) none (some (.t 21))),none),(o 23 (.mv (.t 0)),none),(o 24 (.mv (.t 2)),none),(o 25 (.slA 1 (.t 23) (some (.t 24)) none),none),(o 26 (.appIn 3 1 (.t 22) (.t 25)),(some [])),(o 0 (.mv (.t 26)),(some []))]) (.seq (.reg [o 27 (.mv (.t 0)),o 28 (.mv (.t 0)),o 29 (.len (.t 28)),o 30 (.mv (.t 7)),o 31 (.slX 1 (.t 27) (some (.t 29)) (some (.t 30))),⟨none,.clear 1 [.int .i64 0] (.t 31),none⟩]) (.seq (.reg [o 32 (.mv (.t 0)),o 6 (.mv (.t 32))]) .ret)))))),[.tmp 6]⟩
theorem hc116:Y3 Tryz.prog {how:=[(26,3),(31,4)]} Tryz.f116=some c116:=by kernel_rfl
theorem deleteZ_ok {h:Q2} {r n i j:Nat} {es:List (List AVal)} (hr:h r=some ⟨.t 3,1,es⟩) (hn:n<=es.length) (hij:i<j) (hj:j<=n) (hl:n<=1073741824) :
 DCalls (Pg G) 116 [.osl r 1 0 n,Q3 i,Q3 j] h fun a h'=>a=.osl r 1 0 (n-(j-i)) /\ ∃ es',h'=upd h r (some ⟨.t 3,1,es'⟩)/\n-(j-i)<=es'.length/\es'.take (n-(j-i))=es.take i++(es.take n).drop j:=by
 refine Q0 Tryz.func116 (by kernel_rfl) hc116 (by rw [Tryz.ntmps116];simp) (by rw [Tryz.ntmps116];decide) ?_
 simp -dsimp -implicitDefEqProofs (disch:=omega) only [VCA,Nat.reduceEqDiff,↓reduceIte,reduceCtorEq,c116]
 refine ⟨by omega,Br.eq (fun h1=>by omega) (fun h1=>?_)⟩
 simp -dsimp -implicitDefEqProofs (disch:=omega) only [VCA,Nat.reduceEqDiff,↓reduceIte,reduceCtorEq,Y8,Z0,SOp.rd,SI.rd,SX.rd,exists_eq_left',J1,hr]
 have hL:(List.take (n-j) (List.drop j es)).length=n-j:=by simp;omega
 have hT:(List.take i es).length=i:=by simp;omega
 rw [hL]
 have e1:i+(n-j)=n-(j-i):=by omega
 refine ⟨by omega,by omega,by omega,by omega,by omega,by omega,by simp;omega,by simp;omega,_,Sub.refl _,by rw [e1],_,rfl,?_,?_⟩
 ·simp;omega
 ·rw [<-e1]
  have e2:(List.take i es++List.take (n-j) (List.drop j es)).length=i+(n-j):=by rw [List.length_append,hT,hL]
  rw [List.take_append_of_le_length (by simp;omega),List.take_append_of_le_length (by rw [List.length_take,List.length_append,e2];omega),List.take_take,Nat.min_eq_left (by omega),List.take_append_of_le_length (by omega),List.take_of_length_le (by omega),List.drop_take]
section
variable {h0 h:Q2} {re rN:Nat} {d:HDoc} {sl:Nat->AVal} {made:Int}
theorem Ed.root_ne (E:Ed h0 h re rN d sl made) {k:Nat} (hk:k<2*d.nodes.length) {r:Nat} (hr:Q9 (sl k)=some r):r≠rN/\r≠re:=⟨(E.dw.fresh k hk r hr).2.1,fun e=>(E.dw.fresh k hk r hr).2.2 (by simp [e])⟩
theorem Ed.slotA (E:Ed h0 h re rN d sl made) {i:Nat} (hi:i<d.nodes.length) {h1:Q2} {a':AVal} {l':List HAttr} (kp:∀ r o,h r=some o->Q9 (sl (2*i))≠some r->h1 r=some o)
 (O:OwnS h1 72 2 (l'.map Y0) a') (M:Mut a') (fr:∀ r,Q9 a'=some r->Q9 (sl (2*i))=some r\/h r=none) :
 Ed h0 (upd h1 rN (some ⟨.t 31,6,(QZ d sl).set i (rowA { nth d.nodes i with attrs:=l' } a' (sl (2*i+1)))⟩)) re rN ⟨d.nodes.set i { nth d.nodes i with attrs:=l' },d.quirks⟩ (upd sl (2*i) a') made:=by
 have e1:upd sl (2*i) a' (2*i)=a':=Q5 _ _ _
 have e2:upd sl (2*i) a' (2*i+1)=sl (2*i+1):=Q4 _ _ (by omega)
 obtain ⟨g1,g2⟩:=E.dw.own i hi
 have fN:∀ r,Q9 a'=some r->r≠rN:=fun r hr e=>by
  rcases fr r hr with h | h
  ·exact (E.root_ne (by omega) h).1 e
  ·rw [e,E.dw.nodes] at h;cases h
 refine E.put hi (fun j h1 _=>Q4 _ _ h1) (by rw [e1,e2,Q5]) (fun r o ho hne h2 _=>by rw [Q4 _ _ hne];exact kp r o ho h2) ?_ ?_ ?_ ?_ ?_
 ·rw [e1];exact O.keep fun r o hr ho=>by rw [Q4 _ _ (fN r hr)];exact ho
 ·rw [e2];exact g2.keep fun r o hr ho=>by
   rw [Q4 _ _ (E.root_ne (by omega) hr).1]
   exact kp r o ho fun h=>E.dw.sep _ _ (by omega) (by omega) (by omega) r h hr
 ·rw [e1,e2]
  rintro r (hr | hr)
  ·rcases fr r hr with h | h
   ·exact .inl h
   ·exact .inr (.inr h)
  ·exact .inr (.inl hr)
 ·rw [e1,e2]
  intro r hr hr2
  rcases fr r hr with h | h
  ·exact E.dw.sep _ _ (by omega) (by omega) (by omega) r h hr2
  ·obtain ⟨o,ho⟩:=g2.root hr2;rw [h] at ho;cases ho
 ·rw [e1,e2];exact ⟨M,E.live _ (by omega)⟩
theorem Ed.slotK (E:Ed h0 h re rN d sl made) {i:Nat} (hi:i<d.nodes.length) {h1:Q2} {a':AVal} {l':List Int} (kp:∀ r o,h r=some o->Q9 (sl (2*i+1))≠some r->h1 r=some o)
 (O:OwnS h1 3 1 (l'.map Z6) a') (M:Mut a') (fr:∀ r,Q9 a'=some r->Q9 (sl (2*i+1))=some r\/h r=none) :
 Ed h0 (upd h1 rN (some ⟨.t 31,6,(QZ d sl).set i (rowA { nth d.nodes i with kids:=l' } (sl (2*i)) a')⟩)) re rN ⟨d.nodes.set i { nth d.nodes i with kids:=l' },d.quirks⟩ (upd sl (2*i+1) a') made:=by
 have e1:upd sl (2*i+1) a' (2*i+1)=a':=Q5 _ _ _
 have e2:upd sl (2*i+1) a' (2*i)=sl (2*i):=Q4 _ _ (by omega)
 obtain ⟨g1,g2⟩:=E.dw.own i hi
 have fN:∀ r,Q9 a'=some r->r≠rN:=fun r hr e=>by
  rcases fr r hr with h | h
  ·exact (E.root_ne (by omega) h).1 e
  ·rw [e,E.dw.nodes] at h;cases h
 refine E.put hi (fun j _ h2=>Q4 _ _ h2) (by rw [e1,e2,Q5]) (fun r o ho hne _ h2=>by rw [Q4 _ _ hne];exact kp r o ho h2) ?_ ?_ ?_ ?_ ?_
 ·rw [e2];exact g1.keep fun r o hr ho=>by
   rw [Q4 _ _ (E.root_ne (by omega) hr).1]
   exact kp r o ho fun h=>E.dw.sep _ _ (by omega) (by omega) (by omega) r h hr
 ·rw [e1];exact O.keep fun r o hr ho=>by rw [Q4 _ _ (fN r hr)];exact ho
 ·rw [e1,e2]
  rintro r (hr | hr)
  ·exact .inl hr
  ·rcases fr r hr with h | h
   ·exact .inr (.inl h)
   ·exact .inr (.inr h)
 ·rw [e1,e2]
  intro r hr hr2
  rcases fr r hr2 with h | h
  ·exact E.dw.sep _ _ (by omega) (by omega) (by omega) r hr h
  ·obtain ⟨o,ho⟩:=g1.root hr;rw [h] at ho;cases ho
 ·rw [e1,e2];exact ⟨E.live _ (by omega),M⟩
theorem Ed.inA (E:Ed h0 h re rN d sl made) {i:Nat} (hi:i<d.nodes.length) {h1:Q2} {l':List HAttr} (kp:∀ r o,h r=some o->Q9 (sl (2*i))≠some r->h1 r=some o)
 (O:OwnS h1 72 2 (l'.map Y0) (sl (2*i))):Ed h0 h1 re rN ⟨d.nodes.set i { nth d.nodes i with attrs:=l' },d.quirks⟩ sl made:=by
 have g:=E.slotA hi kp O (E.live _ (by omega)) (fun r hr=>.inl hr)
 have e:upd sl (2*i) (sl (2*i))=sl:=by
  funext j;unfold upd;split
  ·rename_i h;rw [h]
  ·rfl
 have hN:h1 rN=some ⟨.t 31,6,QZ d sl⟩:=kp rN _ E.dw.nodes (fun h=>(E.root_ne (by omega) h).1 rfl)
 have rs:(QZ d sl).set i (rowA { nth d.nodes i with attrs:=l' } (sl (2*i)) (sl (2*i+1)))=QZ d sl:=by
  apply List.ext_getElem?
  intro j
  rw [List.getElem?_set]
  split
  ·rename_i h;subst h
   rw [if_pos (by rw [QK];exact hi)]
   unfold QZ
   rw [List.getElem?_map,List.getElem?_range hi];rfl
  ·rfl
 rw [e,rs,upd_id hN] at g
 exact g
end
theorem find_own {h:Q2} {l:List HAttr} {a:AVal} (O:OwnS h 72 2 (l.map Y0) a) (name:List UInt8) (hl:l.length<=1073741824):DCalls (Pg G) 99 [a,.str name] h fun r h'=>r=Q3 (J9 l name)/\h'=h:=
 DCalls.bor (find_ok (G:=G) l name hl) (.int _ _) (.cons O.vw (.cons (.refl _) .nil))
def c94:SFun:=⟨.seq (.reg [o 3 (.boxF 33 12 (.t 1)),o 4 (.mv (.c (.int .i64 0)))]) (.seq (.reg [o 9 (.mv (.t 0)),o 10 (.fldA 1 (.t 3)),o 11 (.ld 1 false (.t 10)),o 12 (.call (.c (.fn 110 [] [])) [.t 9,.t 11]),o 8 (.mv (.t 12)),o 13 (.ext (.t 8) 0),o 14 (.ext (.t 8) 1),o 5 (.mv (.t 13)),o 6 (.mv (.t 14))]) (.seq (.seq (.reg [o 15 (.mv (.t 6)),o 16 (.bin .neq (.t 15) (.c (.int .i64 0)))]) (.cond (.t 16) (.seq (.reg [o 17 (.mv (.t 6)),o 4 (.mv (.t 17))]) .ret) .skip)) (.seq (.dreg [(o 18 (.mv (.t 5)),none),(o 19 (.fldA 0 (.t 18)),none),(o 20 (.fldA 2 (.t 19)),none),(o 21 (.ld 1 false (.t 20)),none),(o 22 (.fldA 4 (.t 3)),none),(o 23 (.ld 1 false (.t 22)),none),(o 24 (.call (.c (.fn 99 [] [])) [.t 21,.t 23]),(some [21,23])),(o 7 (.mv (.t 24)),none)]) (.seq (.seq (.reg [o 25 (.mv (.t 7)),o 26 (.bin .lss (.t 25) (.c (.int .i64 0)))]) (.cond (.t 26) (.seq (.reg [o 4 (.mv (.c (.int .i64 5)))]) .ret) .skip)) (.seq (.reg [o 27 (.mv (.t 5)),o 28 (.mv (.t 5)),o 29 (.fldA 0 (.t 28)),o 30 (.fldA 2 (.t 29)),o 31 (.ld 1 false (.t 30)),o 32 (.mv (.t 7)),o 33 (.mv (.t 7)),o 34 (.bin .add (.t 33) (.c (.int .i64 1))),o 35 (.call (.c (.fn 111 [] [])) [.t 31,.t 32,.t 34]),o 36 (.fldA 0 (.t 27)),o 37 (.fldA 2 (.t 36)),⟨none,.st 1 (.t 37) (.t 35),none⟩]) (.seq (.reg [o 4 (.mv (.c (.int .i64 0)))]) .ret)))))),[.tmp 4]⟩
theorem hc94:Y3 Tryz.prog {} Tryz.f94=some c94:=by kernel_rfl
theorem edrop_ok {h0 h:Q2} {re rN:Nat} {d:HDoc} {sl:Nat->AVal} {made:Int} (E:Ed h0 h re rN d sl made) (sm:DocSm d) (e:HEdit) (he:EditSm e) (hdo:e.do'=2):DCalls (Pg G) 94 [.vp re 0,.agg (Z4 e)] h (EdR h0 h re d e made):=by
 have gN:=E.dw.nodes
 have hE:=element_ok (G:=G) E e.at'
 have eE:V4 d e=if ¬ inD d e.at' then 5 else if (nd d e.at').kind≠2 then 7 else if ¬ 0<=J9 (nd d e.at').attrs e.name then 5 else 0:=by unfold V4;rw [if_neg (by omega),if_pos hdo]
 have eD:J6 d e=setN d e.at' { nd d e.at' with attrs:=W9 (nd d e.at').attrs e.name }:=by unfold J6;rw [if_neg (by omega),if_pos hdo]
 have hm4:made=if e.do'=4 then (d.nodes.length:Int) else made:=by rw [if_neg (by omega)]
 refine Q0 Tryz.func94 (by kernel_rfl) hc94 (by rw [Tryz.ntmps94];simp) (by rw [Tryz.ntmps94];decide) ?_
 simp -dsimp -implicitDefEqProofs (disch:=omega) only [VCA,Nat.reduceEqDiff,Nat.reduceAdd,Nat.reduceLeDiff,↓reduceIte,reduceCtorEq,c94,Z4]
 by_cases hz:TJ d e.at'=0
 ·have hn:inD d e.at':=by
   unfold TJ at hz;split at hz
   ·omega
   ·rename_i h;exact Classical.not_not.1 h
  have hk:(nd d e.at').kind=2:=by
   unfold TJ at hz;rw [if_neg (by simpa using hn)] at hz;split at hz
   ·omega
   ·rename_i h;exact Classical.not_not.1 h
  rw [hz,if_pos rfl] at hE
  rw [if_neg (by simpa using hn),if_neg (by simpa using hk)] at eE
  have hn':=hn.nat.1
  have gk:=JY (sl:=sl) hn'
  have rl:=QK d sl
  have e0:nth d.nodes e.at'.toNat=nd d e.at':=rfl
  rw [e0] at gk
  obtain ⟨oA,oK⟩:=E.dw.own _ hn'
  rw [e0] at oA
  have al:=(sm.nd e.at').attrs
  have hF:=find_own (G:=G) oA e.name al
  have lv:=E.live (2*e.at'.toNat) (by omega)
  unfold rowA at gk
  by_cases hi0:0<=J9 (nd d e.at').attrs e.name
  ·obtain ⟨g1,g2,g3⟩:=WQ _ _ hi0
   rw [if_neg (by simpa using hi0)] at eE
   have hda:W9 (nd d e.at').attrs e.name=(nd d e.at').attrs.take (J9 (nd d e.at').attrs e.name).toNat++(nd d e.at').attrs.drop ((J9 (nd d e.at').attrs e.name).toNat+1):=rfl
   rw [<-g3] at hF
   rcases oA.live lv with ⟨q,_⟩ | ⟨r,es,ha,hr,hl,ht⟩
   ·have:(nd d e.at').attrs=[]:=by simpa using q
    rw [this] at g1;simp at g1
   ·rw [List.length_map] at ha hl ht
    have hD:=deleteA_ok (G:=G) (i:=(J9 (nd d e.at').attrs e.name).toNat) (j:=(J9 (nd d e.at').attrs e.name).toNat+1) hr hl (by omega) (by omega) (by omega)
    have SA:=fun h1 a'=>E.slotA hn' (h1:=h1) (a':=a') (l':=W9 (nd d e.at').attrs e.name)
    rw [ha] at gk hF SA
    generalize (J9 (nd d e.at').attrs e.name).toNat=i at *
    have hnr:¬ rN=r:=fun h=>(E.root_ne (k:=2*e.at'.toNat) (by omega) (by rw [ha];rfl)).1 h.symm
    refine DCalls.of hE ?_
    rintro _ hh ⟨rfl,rfl⟩
    repeat' (first | ((with_reducible refine brC (fun _=>?_) fun _=>?_) <;> try (exfalso;omega)) | ((refine DCalls.of hF ?_;rintro _ hh ⟨rfl,rfl⟩)) | (with_reducible refine And.intro ?_ ?_; · omega) | simp -dsimp -implicitDefEqProofs (disch:=omega) only [VCA,Nat.reduceEqDiff,Nat.reduceBEq,Nat.reduceAdd,Nat.reduceLT,Nat.reduceLeDiff,↓reduceIte,Y8,Z0,SOp.rd,SI.rd,SX.rd,rdL,implies_true,exists_eq_left',J1,gN,gk,rl])
    all_goals try (exfalso;omega)
    refine DCalls.of hD ?_
    rintro _ _ ⟨rfl,es',rfl,hl2,ht2⟩
    repeat' (first | ((with_reducible refine brC (fun _=>?_) fun _=>?_) <;> try (exfalso;omega)) | (with_reducible refine And.intro ?_ ?_; · omega) | simp -dsimp -implicitDefEqProofs (disch:=omega) only [VCA,Nat.reduceEqDiff,Nat.reduceAdd,Nat.reduceLeDiff,↓reduceIte,Z8,exists_eq_left',gN,gk,rl,hnr])
    have ln:(W9 (nd d e.at').attrs e.name).length=(nd d e.at').attrs.length-(i+1-i):=by
     rw [hda,List.length_append,List.length_take,List.length_drop];omega
    have hO:OwnS (upd hh r (some ⟨.t 72,2,es'⟩)) 72 2 ((W9 (nd d e.at').attrs e.name).map Y0) (.osl r 2 0 ((nd d e.at').attrs.length-(i+1-i))):=
     .inr (.inr ⟨r,es',by rw [List.length_map,ln],Q5 _ _ _,by rw [List.length_map,ln];exact hl2,by
      rw [List.length_map,ln,ht2,hda,List.map_append,List.map_take,List.map_drop,<-ht,List.take_take,Nat.min_eq_left (by omega)]⟩)
    refine ⟨_,Sub.refl _,EdR.good eE hm4 (by rw [eD];exact SA _ _ (fun t o ho hne=>by rw [Q4 _ _ (fun e=>hne (by rw [e];rfl))];exact ho) hO (fun es e=>by cases e) (fun t ht=>.inl ht))⟩
  ·rw [if_pos hi0] at eE
   refine DCalls.of hE ?_
   rintro _ hh ⟨rfl,rfl⟩
   repeat' (first | ((with_reducible refine brC (fun _=>?_) fun _=>?_) <;> try (exfalso;omega)) | ((refine DCalls.of hF ?_;rintro _ hh ⟨rfl,rfl⟩)) | (with_reducible refine And.intro ?_ ?_; · omega) | simp -dsimp -implicitDefEqProofs (disch:=omega) only [VCA,Nat.reduceEqDiff,Nat.reduceBEq,Nat.reduceAdd,Nat.reduceLT,Nat.reduceLeDiff,↓reduceIte,Y8,Z0,SOp.rd,SI.rd,SX.rd,rdL,implies_true,exists_eq_left',J1,gN,gk,rl])
   all_goals first | (exfalso;omega) | exact ⟨_,Sub.refl _,EdR.bad eE (by decide)⟩
 ·rw [if_neg hz] at hE
  have eE2:V4 d e=TJ d e.at':=by
   unfold TJ at hz ⊢
   rw [eE]
   by_cases hn:inD d e.at'
   ·rw [if_neg (by simpa using hn)] at hz ⊢
    by_cases hk:(nd d e.at').kind≠2
    ·rw [if_neg (show ¬ ¬ inD d e.at' from fun h=>h hn)];rw [if_pos hk]
     try rw [if_pos hk]
    ·rw [if_neg hk] at hz;exact absurd rfl hz
   ·rw [if_pos hn,if_pos hn]
  refine DCalls.of hE ?_
  rintro _ hh ⟨rfl,rfl⟩
  repeat' (first | ((with_reducible refine brC (fun _=>?_) fun _=>?_) <;> try (exfalso;omega)) | (with_reducible refine And.intro ?_ ?_; · omega) | simp -dsimp -implicitDefEqProofs (disch:=omega) only [VCA,Nat.reduceEqDiff,Nat.reduceAdd,Nat.reduceLT,↓reduceIte])
  all_goals exact ⟨_,Sub.refl _,EdR.bad eE2 hz⟩
end Go.Proofs.K
end
section
set_option linter.unusedSimpArgs false
set_option linter.unusedVariables false
namespace Go.Proofs.K
open Go Go.Sim Go.Proofs
variable {G:YZ}
theorem elem_zero {d:HDoc} {n:Int} (hz:TJ d n=0):inD d n/\(nd d n).kind=2:=by
 unfold TJ at hz
 split at hz
 ·omega
 ·rename_i h
  have hn:=Classical.not_not.1 h
  split at hz
  ·omega
  ·rename_i h2;exact ⟨hn,Classical.not_not.1 h2⟩
def c93:SFun:=⟨.seq (.reg [o 3 (.boxF 33 12 (.t 1)),o 4 (.mv (.c (.int .i64 0)))]) (.seq (.reg [o 9 (.mv (.t 0)),o 10 (.fldA 1 (.t 3)),o 11 (.ld 1 false (.t 10)),o 12 (.call (.c (.fn 110 [] [])) [.t 9,.t 11]),o 8 (.mv (.t 12)),o 13 (.ext (.t 8) 0),o 14 (.ext (.t 8) 1),o 5 (.mv (.t 13)),o 6 (.mv (.t 14))]) (.seq (.seq (.reg [o 15 (.mv (.t 6)),o 16 (.bin .neq (.t 15) (.c (.int .i64 0)))]) (.cond (.t 16) (.seq (.reg [o 17 (.mv (.t 6)),o 4 (.mv (.t 17))]) .ret) .skip)) (.seq (.dreg [(o 18 (.mv (.t 5)),none),(o 19 (.fldA 0 (.t 18)),none),(o 20 (.fldA 2 (.t 19)),none),(o 21 (.ld 1 false (.t 20)),none),(o 22 (.fldA 4 (.t 3)),none),(o 23 (.ld 1 false (.t 22)),none),(o 24 (.call (.c (.fn 99 [] [])) [.t 21,.t 23]),(some [21,23])),(o 7 (.mv (.t 24)),none)]) (.seq (.block 0 (.seq (.reg [o 26 (.fldA 4 (.t 3)),o 27 (.ld 1 false (.t 26)),o 28 (.pcall 109 [.t 27]),o 29 (.un .not (.t 28)),o 25 (.mv (.t 29))]) (.cond (.t 25) (.seq (.reg [o 4 (.mv (.c (.int .i64 3)))]) .ret) (.seq (.reg [o 31 (.fldA 5 (.t 3)),o 32 (.ld 1 false (.t 31)),o 33 (.lenS (.t 32)),o 34 (.bin .gtr (.t 33) (.c (.int .i64 400))),o 35 (.mv (.t 34)),⟨some 36,.mv (.t 7),some (35,false)⟩,⟨some 37,.bin .lss (.t 36) (.c (.int .i64 0)),some (35,false)⟩,⟨some 38,.mv (.t 37),some (35,false)⟩,⟨some 39,.mv (.t 5),some (38,true)⟩,⟨some 40,.fldA 0 (.t 39),some (38,true)⟩,⟨some 41,.fldA 2 (.t 40),some (38,true)⟩,⟨some 42,.ld 1 false (.t 41),some (38,true)⟩,⟨some 43,.len (.t 42),some (38,true)⟩,⟨some 44,.bin .eql (.t 43) (.c (.int .i64 12)),some (38,true)⟩,⟨some 45,.pick (.t 38) (.t 44) (.c (.bool false)),some (35,false)⟩,o 46 (.pick (.t 35) (.c (.bool true)) (.t 45)),o 30 (.mv (.t 46))]) (.cond (.t 30) (.seq (.reg [o 4 (.mv (.c (.int .i64 2)))]) .ret) (.seq (.reg [o 48 (.mv (.t 7)),o 49 (.bin .lss (.t 48) (.c (.int .i64 0))),o 47 (.mv (.t 49))]) (.cond (.t 47) (.seq (.dreg [(o 50 (.mv (.t 5)),none),(o 51 (.mv (.t 5)),none),(o 52 (.fldA 0 (.t 51)),none),(o 53 (.fldA 2 (.t 52)),none),(o 54 (.ld 1 false (.t 53)),none),(o 55 (.fldA 4 (.t 3)),none),(o 56 (.ld 1 false (.t 55)),none),(o 57 (.bld [.str [],.str []] [(0,(1,(.t 56)))]),none),(o 58 (.bldF 72 2 [.t 57]),none),(o 59 (.app 72 2 32 (.t 54) (.t 58)),(some [54,56])),(o 60 (.fldA 0 (.t 50)),none),(o 61 (.fldA 2 (.t 60)),none),(⟨none,.st 1 (.t 61) (.t 59),none⟩,(some [54,56]))]) (.reg [o 62 (.mv (.t 5)),o 63 (.fldA 0 (.t 62)),o 64 (.fldA 2 (.t 63)),o 65 (.ld 1 false (.t 64)),o 66 (.len (.t 65)),o 67 (.bin .sub (.t 66) (.c (.int .i64 1))),o 7 (.mv (.t 67))])) .skip))))))) (.seq (.dreg [(o 68 (.mv (.t 5)),none),(o 69 (.fldA 0 (.t 68)),none),(o 70 (.fldA 2 (.t 69)),none),(o 71 (.ld 1 false (.t 70)),none),(o 72 (.mv (.t 7)),none),(o 73 (.fldA 5 (.t 3)),none),(o 74 (.ld 1 false (.t 73)),none),(o 75 (.idxA 2 (.t 71) (.t 72)),none),(o 76 (.fldA 1 (.t 75)),none),(⟨none,.st 1 (.t 76) (.t 74),none⟩,(some [71,74]))]) (.seq (.reg [o 4 (.mv (.c (.int .i64 0)))]) .ret)))))),[.tmp 4]⟩
theorem hc93:Y3 Tryz.prog {pure:=[109]} Tryz.f93=some c93:=by kernel_rfl
theorem eattr_ok {h0 h:Q2} {re rN:Nat} {d:HDoc} {sl:Nat->AVal} {made:Int} (E:Ed h0 h re rN d sl made) (sm:DocSm d) (al12:∀ n,inD d n->(nd d n).attrs.length<=12) (e:HEdit) (he:EditSm e) (hdo:e.do'=1):DCalls (Pg G) 93 [.vp re 0,.agg (Z4 e)] h (EdR h0 h re d e made):=by
 have gN:=E.dw.nodes
 have hE:=element_ok (G:=G) E e.at'
 have vl:=he.value
 have eE:V4 d e=if ¬ inD d e.at' then 5 else if (nd d e.at').kind≠2 then 7 else if K4 false e.name=false then 3
  else if 400<e.value.length\/(¬ 0<=J9 (nd d e.at').attrs e.name/\(nd d e.at').attrs.length=12) then 2 else 0:=by unfold V4;rw [if_pos hdo]
 have eD:J6 d e=setN d e.at' { nd d e.at' with attrs:=V6 (nd d e.at').attrs e.name e.value }:=by unfold J6;rw [if_pos hdo]
 have hm4:made=if e.do'=4 then (d.nodes.length:Int) else made:=by rw [if_neg (by omega)]
 have hAN:=attrName_ok (G:=G) e.name he.name
 refine Q0 Tryz.func93 (by kernel_rfl) hc93 (by rw [Tryz.ntmps93];simp) (by rw [Tryz.ntmps93];decide) ?_
 simp -dsimp -implicitDefEqProofs (disch:=omega) only [VCA,Nat.reduceEqDiff,Nat.reduceAdd,Nat.reduceLeDiff,↓reduceIte,reduceCtorEq,c93,Z4]
 by_cases hz:TJ d e.at'=0
 ·obtain ⟨hn,hk⟩:=elem_zero hz
  rw [hz,if_pos rfl] at hE
  rw [if_neg (by simpa using hn),if_neg (by simpa using hk)] at eE
  have hn':=hn.nat.1
  have gk:=JY (sl:=sl) hn'
  have rl:=QK d sl
  have e0:nth d.nodes e.at'.toNat=nd d e.at':=rfl
  rw [e0] at gk
  obtain ⟨oA,oK⟩:=E.dw.own _ hn'
  rw [e0] at oA
  have al:=(sm.nd e.at').attrs
  have a12:=al12 _ hn
  have hF:=find_own (G:=G) oA e.name al
  have lv:=E.live (2*e.at'.toNat) (by omega)
  unfold rowA at gk
  have oL:=oA.len.1
  have oL2:=oA.len.2
  rw [List.length_map] at oL
  by_cases h3:K4 false e.name=false
  ·rw [if_pos h3] at eE
   rw [h3] at hAN
   refine DCalls.of hE ?_
   rintro _ hh ⟨rfl,rfl⟩
   repeat' (first | ((with_reducible refine brC (fun _=>?_) fun _=>?_) <;> try (exfalso;omega)) | ((refine DCalls.of hF ?_;rintro _ hh ⟨rfl,rfl⟩)) | (with_reducible apply pcallE.of; · exact hAN) | (with_reducible refine And.intro ?_ ?_; · omega) | simp -dsimp -implicitDefEqProofs (disch:=omega) only [VCA,Nat.reduceEqDiff,Nat.reduceBEq,Nat.reduceAdd,Nat.reduceLT,Nat.reduceLeDiff,↓reduceIte,Y8,Z0,SOp.rd,SI.rd,SX.rd,rdL,implies_true,exists_eq_left',J1,gN,gk,rl])
   all_goals first | (exfalso;omega) | exact ⟨_,Sub.refl _,EdR.bad eE (by decide)⟩
  ·rw [if_neg h3] at eE
   have h3':K4 false e.name=true:=by simpa using h3
   rw [h3'] at hAN
   by_cases h2:400<e.value.length\/(¬ 0<=J9 (nd d e.at').attrs e.name/\(nd d e.at').attrs.length=12)
   ·rw [if_pos h2] at eE
    refine DCalls.of hE ?_
    rintro _ hh ⟨rfl,rfl⟩
    repeat' (first | ((with_reducible refine brC (fun _=>?_) fun _=>?_) <;> try (exfalso;omega)) | ((refine DCalls.of hF ?_;rintro _ hh ⟨rfl,rfl⟩)) | (with_reducible apply pcallE.of; · exact hAN) | (with_reducible refine And.intro ?_ ?_; · omega) | simp -dsimp -implicitDefEqProofs (disch:=omega) only [↓Q1 35,↓Q1 38,VCA,Nat.reduceEqDiff,Nat.reduceBEq,Nat.reduceAdd,Nat.reduceLT,Nat.reduceLeDiff,↓reduceIte,Y8,Z0,SOp.rd,SI.rd,SX.rd,rdL,implies_true,exists_eq_left',J1,gN,gk,rl,oL,oL2])
    all_goals first | (exfalso;omega) | exact ⟨_,Sub.refl _,EdR.bad eE (by decide)⟩ | trace_state
   ·rw [if_neg h2] at eE
    by_cases hi0:0<=J9 (nd d e.at').attrs e.name
    ·obtain ⟨g1,g2,g3⟩:=WQ _ _ hi0
     have hsa:V6 (nd d e.at').attrs e.name e.value=(nd d e.at').attrs.set (J9 (nd d e.at').attrs e.name).toNat ⟨e.name,e.value⟩:=by unfold V6;rw [if_pos hi0]
     rw [<-g3] at hF
     rcases oA.live lv with ⟨q,_⟩ | ⟨r,es,ha,hr,hl,ht⟩
     ·have:(nd d e.at').attrs=[]:=by simpa using q
      rw [this] at g1;simp at g1
     ·rw [List.length_map] at ha hl ht
      have IA:=fun h1=>E.inA hn' (h1:=h1) (l':=V6 (nd d e.at').attrs e.name e.value)
      have hnr:¬ rN=r:=fun h=>(E.root_ne (k:=2*e.at'.toNat) (by omega) (by rw [ha];rfl)).1 h.symm
      have gi:=getD_take_enc ht g1
      have ga:Y0 (nth (nd d e.at').attrs (J9 (nd d e.at').attrs e.name).toNat)=[.str e.name,.str (nth (nd d e.at').attrs (J9 (nd d e.at').attrs e.name).toNat).value]:=by unfold Y0;rw [g2]
      rw [ga] at gi
      rw [ha] at gk hF IA oL oL2
      generalize (J9 (nd d e.at').attrs e.name).toNat=i at *
      refine DCalls.of hE ?_
      rintro _ hh ⟨rfl,rfl⟩
      repeat' (first | ((with_reducible refine brC (fun _=>?_) fun _=>?_) <;> try (exfalso;omega)) | ((refine DCalls.of hF ?_;rintro _ hh ⟨rfl,rfl⟩)) | (with_reducible apply pcallE.of; · exact hAN) | (with_reducible refine And.intro ?_ ?_; · omega) | simp -dsimp -implicitDefEqProofs (disch:=omega) only [↓Q1 35,↓Q1 38,VCA,Nat.reduceEqDiff,Nat.reduceBEq,Nat.reduceAdd,Nat.reduceLT,Nat.reduceLeDiff,↓reduceIte,Y8,Z0,SOp.rd,SI.rd,SX.rd,rdL,Z8,implies_true,exists_eq_left',J1,gN,gk,rl,hr,gi])
      all_goals try (exfalso;omega)
      have hO:OwnS (upd hh r (some ⟨.t 72,2,es.set i [.str e.name,.str e.value]⟩)) 72 2 ((V6 (nd d e.at').attrs e.name e.value).map Y0) (.osl r 2 0 (nd d e.at').attrs.length):=
       .inr (.inr ⟨r,_,by rw [hsa,List.length_map,List.length_set],Q5 _ _ _,by rw [hsa,List.length_map,List.length_set,List.length_set];exact hl,by
        rw [hsa,List.length_map,List.length_set,List.take_set,ht,List.map_set];rfl⟩)
      exact ⟨_,Sub.refl _,EdR.good eE hm4 (by rw [eD];exact IA _ (fun t o ho hne=>by rw [Q4 _ _ (fun e=>hne (by rw [e];rfl))];exact ho) hO)⟩
    ·have hsa:V6 (nd d e.at').attrs e.name e.value=(nd d e.at').attrs++[⟨e.name,e.value⟩]:=by unfold V6;rw [if_neg hi0]
     refine DCalls.of hE ?_
     rintro _ hh ⟨rfl,rfl⟩
     repeat' (first | ((with_reducible refine brC (fun _=>?_) fun _=>?_) <;> try (exfalso;omega)) | ((refine DCalls.of hF ?_;rintro _ hh ⟨rfl,rfl⟩)) | (with_reducible apply pcallE.of; · exact hAN) | (with_reducible refine And.intro ?_ ?_; · omega) | simp -dsimp -implicitDefEqProofs (disch:=omega) only [↓Q1 35,↓Q1 38,VCA,Nat.reduceEqDiff,Nat.reduceBEq,Nat.reduceAdd,Nat.reduceLT,Nat.reduceLeDiff,↓reduceIte,Y8,Z0,SOp.rd,SI.rd,SX.rd,rdL,Z7,K8,X3,implies_true,forall_eq,exists_eq_left,exists_eq_left',J1,gN,gk,rl,oL,oL2])
     all_goals try (exfalso;omega)
     refine OwnS.app oA lv (by rw [List.length_map];simp;omega) (by rw [List.length_map];simp;omega) fun r h9 hr hf kp=>?_
     rw [List.length_map]
     have nr:∀ t,Q9 (sl (2*e.at'.toNat))=some t->t≠rN:=fun t ht=>(E.root_ne (by omega) ht).1
     have gN9:=kp rN _ gN (fun h=>nr _ h rfl)
     have hnr:¬ r=rN:=fun h=>by
      rcases hf with h1 | h1
      ·exact nr _ h1 h
      ·rw [h,gN] at h1;cases h1
     have hnr2:¬ rN=r:=fun h=>hnr h.symm
     have ln:((nd d e.at').attrs.map Y0).length=(nd d e.at').attrs.length:=List.length_map ..
     have gg:((nd d e.at').attrs.map Y0++[[AVal.str e.name,AVal.str []]]).getD (nd d e.at').attrs.length []=[AVal.str e.name,AVal.str []]:=by
      rw [List.getD_eq_getElem?_getD,List.getElem?_append_right (by omega),ln];simp
     have lx:((nd d e.at').attrs.length:Int)+1-1=(nd d e.at').attrs.length:=by omega
     have ly:(((nd d e.at').attrs.length:Int)).toNat=(nd d e.at').attrs.length:=by omega
     repeat' (first | ((with_reducible refine brC (fun _=>?_) fun _=>?_) <;> try (exfalso;omega)) | (with_reducible refine And.intro ?_ ?_; · omega) | simp -dsimp -implicitDefEqProofs (disch:=omega) only [VCA,Nat.reduceEqDiff,Nat.reduceBEq,Nat.reduceAdd,Nat.reduceLeDiff,↓reduceIte,Y8,Z0,SOp.rd,SI.rd,SX.rd,Z8,implies_true,exists_eq_left',J1,gN,gN9,gk,rl,hr,hnr,hnr2,gg,ly,getD_set_same,List.length_set,List.length_append,ln])
     have O9:OwnS h9 72 2 (((nd d e.at').attrs++[(⟨e.name,[]⟩:HAttr)]).map Y0) (.osl r 2 0 ((nd d e.at').attrs.length+1)):=
      .inr (.inr ⟨r,_,by simp,hr,by simp,by rw [List.take_of_length_le (by simp)];simp [Y0]⟩)
     have E1:=E.slotA hn' kp O9 (fun es e=>by cases e) (fun t ht=>by cases ht;exact hf)
     rw [e0] at E1
     have s1:upd sl (2*e.at'.toNat) (.osl r 2 0 ((nd d e.at').attrs.length+1)) (2*e.at'.toNat)=.osl r 2 0 ((nd d e.at').attrs.length+1):=Q5 _ _ _
     have IA:=fun h1=>E1.inA (i:=e.at'.toNat) (by simpa using hn') (h1:=h1) (l':=V6 (nd d e.at').attrs e.name e.value)
     rw [s1] at IA
     have sd:∀ (l:List HAttr),(⟨(d.nodes.set e.at'.toNat { nd d e.at' with attrs:=(nd d e.at').attrs++[(⟨e.name,[]⟩:HAttr)] }).set e.at'.toNat { nth (d.nodes.set e.at'.toNat { nd d e.at' with attrs:=(nd d e.at').attrs++[(⟨e.name,[]⟩:HAttr)] }) e.at'.toNat with attrs:=l },d.quirks⟩:HDoc)=setN d e.at' { nd d e.at' with attrs:=l }:=fun l=>by
      rw [K9 _ _ _ _ hn',if_pos rfl,List.set_set];rfl
     simp only [sd] at IA
     have hO:∀ h8:Q2,OwnS (upd h8 r (some ⟨.t 72,2,((nd d e.at').attrs.map Y0++[[AVal.str e.name,AVal.str []]]).set (nd d e.at').attrs.length [AVal.str e.name,AVal.str e.value]⟩)) 72 2 ((V6 (nd d e.at').attrs e.name e.value).map Y0) (.osl r 2 0 ((nd d e.at').attrs.length+1)):=fun h8=>
      .inr (.inr ⟨r,_,by rw [hsa];simp,Q5 _ _ _,by rw [hsa];simp,by
       rw [hsa,List.take_of_length_le (by simp),List.set_append_right _ _ (by simp)]
       simp [Y0]⟩)
     refine ⟨_,Sub.refl _,EdR.good eE hm4 (by rw [eD];exact IA _ (fun t o ho hne=>by rw [Q4 _ _ (fun e=>hne (by rw [e];rfl))];exact ho) (hO _))⟩
 ·rw [if_neg hz] at hE
  have eE2:V4 d e=TJ d e.at':=by
   unfold TJ at hz ⊢
   rw [eE]
   by_cases hn:inD d e.at'
   ·rw [if_neg (by simpa using hn)] at hz ⊢
    by_cases hk:(nd d e.at').kind≠2
    ·rw [if_neg (show ¬ ¬ inD d e.at' from fun h=>h hn)];rw [if_pos hk]
     try rw [if_pos hk]
    ·rw [if_neg hk] at hz;exact absurd rfl hz
   ·rw [if_pos hn,if_pos hn]
  refine DCalls.of hE ?_
  rintro _ hh ⟨rfl,rfl⟩
  repeat' (first | ((with_reducible refine brC (fun _=>?_) fun _=>?_) <;> try (exfalso;omega)) | (with_reducible refine And.intro ?_ ?_; · omega) | simp -dsimp -implicitDefEqProofs (disch:=omega) only [VCA,Nat.reduceEqDiff,Nat.reduceAdd,Nat.reduceLT,↓reduceIte])
  all_goals exact ⟨_,Sub.refl _,EdR.bad eE2 hz⟩
section
variable {d:HDoc}
end
end Go.Proofs.K
end
section
set_option linter.unusedSimpArgs false
set_option linter.unusedVariables false
namespace Go.Proofs.K
open Go Go.Sim Go.Proofs
variable {G:YZ}
section
variable {d:HDoc}
end
def c113:SFun:=⟨.seq (.reg [o 4 (.mv (.c (.int .i64 0)))]) (.seq (.seq (.reg [o 6 (.mv (.t 0)),o 7 (.len (.t 6)),o 8 (.mv (.c (.int .i64 0)))]) (.block 0 (.loop (.seq (.reg [o 9 (.bin .lss (.t 8) (.t 7))]) (.seq (.cond (.t 9) .skip (.exit 0)) (.seq (.block 1 (.seq (.reg [o 10 (.mv (.t 8)),o 5 (.mv (.t 10))]) (.seq (.reg [o 11 (.mv (.t 1)),o 12 (.mv (.t 0)),o 13 (.mv (.t 5)),o 14 (.idxA 1 (.t 12) (.t 13)),o 15 (.ld 1 false (.t 14)),o 16 (.bin .eql (.t 11) (.t 15))]) (.cond (.t 16) (.seq (.reg [o 17 (.mv (.t 5)),o 4 (.mv (.t 17))]) .ret) .skip)))) (.reg [o 18 (.bin .add (.t 8) (.c (.int .i64 1))),o 8 (.mv (.t 18))]))))))) (.seq (.reg [o 4 (.mv (.c (.int .i64 (-1))))]) .ret)),[.tmp 4]⟩
theorem hc113:Y3 Tryz.prog {} Tryz.f113=some c113:=by kernel_rfl
theorem hasII_ok (l:List Int) (x:Int) (hl:l.length<=1073741824):PCalls (Pg G) 113 [sl Z6 l,Q3 x] (Q3 (U8 (· == x) l)):=by
 intro h
 refine Q0 Tryz.func113 (by kernel_rfl) hc113 (by rw [Tryz.ntmps113];simp) (by rw [Tryz.ntmps113];decide) ?_
 simp -dsimp -implicitDefEqProofs (disch:=omega) only [VCA,↓reduceIte,reduceCtorEq,c113]
 refine LoopVC.intro (fun m e h'=>∃ k:Nat,k<=l.length/\m=l.length-k/\e 0=sl Z6 l/\e 1=Q3 x/\e 7=Q3 l.length/\e 8=Q3 k/\h'=h /\ ∀ j,j<k->(nth l j==x)=false) l.length ⟨0,by omega,by omega,rfl,rfl,rfl,rfl,rfl,fun j hj=>absurd hj (Nat.not_lt_zero j)⟩ ?_
 rintro m e h' ⟨k,hk,rfl,he0,he1,he7,he8,rfl,hj⟩
 simp -dsimp -implicitDefEqProofs (disch:=omega) only [VCA,↓reduceIte,he7,he8]
 refine Br.dec (fun hlt=>?_) (fun hge=>?_)
 ·simp -dsimp -implicitDefEqProofs (disch:=omega) only [VCA,Nat.reduceEqDiff,↓reduceIte,reduceCtorEq,Z6,he0,he1,he8]
  refine ⟨by omega,Br.eq (fun ht=>?_) (fun hf=>?_)⟩
  ·simp -dsimp -implicitDefEqProofs (disch:=omega) only [VCA,Nat.reduceEqDiff,↓reduceIte,exists_eq_right_right]
   rw [VV (k:=k) (by omega) hj (by simp [ht])];exact ⟨Sub.refl _,rfl⟩
  ·simp -dsimp -implicitDefEqProofs (disch:=omega) only [VCA,Nat.reduceEqDiff,↓reduceIte,reduceCtorEq,he0,he1,he7,he8]
   refine ⟨_,?_,k+1,by omega,rfl,by omega,fun j hj'=>?_⟩
   ·omega
   ·by_cases h1:j=k
    ·subst h1;simpa using fun e=>hf e.symm
    ·exact hj j (by omega)
 ·simp -dsimp -implicitDefEqProofs (disch:=omega) only [VCA,↓reduceIte,exists_eq_right_right]
  rw [VU (fun j hj'=>hj j (by omega))];exact ⟨Sub.refl _,rfl⟩
end Go.Proofs.K
end
section
set_option linter.unusedSimpArgs false
set_option linter.unusedVariables false
namespace Go.Proofs.K
open Go Go.Sim Go.Proofs
variable {G:YZ}
theorem index_own {h:Q2} {l:List Int} {a:AVal} (O:OwnS h 3 1 (l.map Z6) a) (x:Int) (hl:l.length<=1073741824):DCalls (Pg G) 113 [a,Q3 x] h fun r h'=>r=Q3 (U8 (· == x) l)/\h'=h:=
 DCalls.bor (hasII_ok (G:=G) l x hl) (.int _ _) (.cons O.vw (.cons (.refl _) .nil))
theorem getD_set_ne {es:List (List AVal)} {j k:Nat} {x:List AVal} (hk:j≠k):(es.set j x).getD k []=es.getD k []:=by
 rw [List.getD_eq_getElem?_getD,List.getElem?_set,if_neg hk,List.getD_eq_getElem?_getD]
theorem Dw.rows_eq {X:List Nat} {h0 h1:Q2} {rN:Nat} {d:HDoc} {sl:Nat->AVal} {T Z:Nat} {es:List (List AVal)} (E:Dw X h0 (upd h1 rN (some ⟨T,Z,es⟩)) rN d sl):es=QZ d sl:=by
 have nn:=E.nodes
 rw [Q5] at nn
 exact congrArg AObj.es (Option.some.inj nn)
def c98:SFun:=⟨.seq (.reg [o 3 (.boxF 33 12 (.t 1)),o 4 (.mv (.c (.int .i64 0)))]) (.seq (.reg [o 8 (.mv (.t 0)),o 9 (.fldA 1 (.t 3)),o 10 (.ld 1 false (.t 9)),o 11 (.call (.c (.fn 112 [] [])) [.t 8,.t 10]),o 5 (.mv (.t 11))]) (.seq (.block 0 (.seq (.reg [o 13 (.mv (.t 5)),o 14 (.isnil 1 false (.t 13)),o 12 (.mv (.t 14))]) (.cond (.t 12) (.seq (.reg [o 4 (.mv (.c (.int .i64 5)))]) .ret) (.seq (.reg [o 16 (.mv (.t 5)),o 17 (.fldA 0 (.t 16)),o 18 (.fldA 0 (.t 17)),o 19 (.ld 1 false (.t 18)),o 20 (.bin .eql (.t 19) (.c (.int .i64 1))),o 15 (.mv (.t 20))]) (.cond (.t 15) (.seq (.reg [o 4 (.mv (.c (.int .i64 7)))]) .ret) (.seq (.reg [o 22 (.mv (.t 5)),o 23 (.fldA 0 (.t 22)),o 24 (.fldA 4 (.t 23)),o 25 (.ld 1 false (.t 24)),o 26 (.bin .lss (.t 25) (.c (.int .i64 0))),o 21 (.mv (.t 26))]) (.cond (.t 21) (.seq (.reg [o 4 (.mv (.c (.int .i64 5)))]) .ret) .skip))))))) (.seq (.dreg [(o 27 (.mv (.t 0)),none),(o 28 (.fldA 0 (.t 27)),none),(o 29 (.fldA 0 (.t 28)),none),(o 30 (.fldA 0 (.t 29)),none),(o 31 (.ld 1 false (.t 30)),none),(o 32 (.mv (.t 5)),none),(o 33 (.fldA 0 (.t 32)),none),(o 34 (.fldA 4 (.t 33)),none),(o 35 (.ld 1 false (.t 34)),none),(o 36 (.idxA 6 (.t 31) (.t 35)),none),(o 6 (.mv (.t 36)),none)]) (.seq (.dreg [(o 37 (.mv (.t 6)),none),(o 38 (.fldA 0 (.t 37)),none),(o 39 (.fldA 5 (.t 38)),none),(o 40 (.ld 1 false (.t 39)),none),(o 41 (.fldA 1 (.t 3)),none),(o 42 (.ld 1 false (.t 41)),none),(o 43 (.call (.c (.fn 113 [] [])) [.t 40,.t 42]),(some [40,42])),(o 7 (.mv (.t 43)),none)]) (.seq (.reg [o 44 (.mv (.t 6)),o 45 (.mv (.t 5)),o 46 (.mv (.t 6)),o 47 (.fldA 0 (.t 46)),o 48 (.fldA 5 (.t 47)),o 49 (.ld 1 false (.t 48)),o 50 (.mv (.t 7)),o 51 (.mv (.t 7)),o 52 (.bin .add (.t 51) (.c (.int .i64 1))),o 53 (.call (.c (.fn 116 [] [])) [.t 49,.t 50,.t 52]),o 54 (.fldA 0 (.t 44)),o 55 (.fldA 5 (.t 54)),⟨none,.st 1 (.t 55) (.t 53),none⟩,o 56 (.fldA 0 (.t 45)),o 57 (.fldA 4 (.t 56)),⟨none,.st 1 (.t 57) (.c (.int .i64 (-1))),none⟩]) (.seq (.reg [o 4 (.mv (.c (.int .i64 0)))]) .ret)))))),[.tmp 4]⟩
theorem hc98:Y3 Tryz.prog {} Tryz.f98=some c98:=by kernel_rfl
theorem eremove_ok {h0 h:Q2} {re rN:Nat} {d:HDoc} {sl:Nat->AVal} {made:Int} (E:Ed h0 h re rN d sl made) (V:DV d) (sm:DocSm d) (e:HEdit) (he:EditSm e) (hdo:e.do'=6):DCalls (Pg G) 98 [.vp re 0,.agg (Z4 e)] h (EdR h0 h re d e made):=by
 have gN:=E.dw.nodes
 have gE:=E.ed
 have ner:=E.ne
 have hE:=enode_ok (G:=G) E e.at'
 unfold nodeP at hE
 have eE:V4 d e=if ¬ inD d e.at' then 5 else if (nd d e.at').kind=1 then 7 else if ¬ 0<=(nd d e.at').parent then 5 else 0:=by unfold V4;rw [if_neg (by omega),if_neg (by omega),if_neg (by omega),if_neg (by omega),if_neg (by omega),if_pos hdo]
 have eD:J6 d e=cutN d e.at' (U8 (· == e.at') (nd d (nd d e.at').parent).kids).toNat:=by unfold J6;rw [if_neg (by omega),if_neg (by omega),if_neg (by omega),if_neg (by omega),if_neg (by omega)]
 have hm4:made=if e.do'=4 then (d.nodes.length:Int) else made:=by rw [if_neg (by omega)]
 refine Q0 Tryz.func98 (by kernel_rfl) hc98 (by rw [Tryz.ntmps98];simp) (by rw [Tryz.ntmps98];decide) ?_
 simp -dsimp -implicitDefEqProofs (disch:=omega) only [VCA,Nat.reduceEqDiff,Nat.reduceAdd,Nat.reduceLeDiff,↓reduceIte,reduceCtorEq,c98,Z4]
 by_cases hn:inD d e.at'
 ·rw [if_pos hn] at hE
  have hn':=hn.nat.1
  have gk:=JY (sl:=sl) hn'
  have rl:=QK d sl
  have e0:nth d.nodes e.at'.toNat=nd d e.at':=rfl
  rw [e0] at gk
  unfold rowA at gk
  rw [if_neg (by simpa using hn)] at eE
  by_cases hk:(nd d e.at').kind=1
  ·rw [if_pos hk] at eE
   refine DCalls.of hE ?_
   rintro _ hh ⟨rfl,rfl⟩
   repeat' (first | ((with_reducible refine brC (fun _=>?_) fun _=>?_) <;> try (exfalso;omega)) | (with_reducible refine And.intro ?_ ?_; · omega) | simp -dsimp -implicitDefEqProofs (disch:=omega) only [VCA,Nat.reduceEqDiff,Nat.reduceAdd,Nat.reduceLeDiff,↓reduceIte,exists_eq_left',gN,gk,rl])
   all_goals first | (exfalso;omega) | exact ⟨_,Sub.refl _,EdR.bad eE (by decide)⟩
  ·rw [if_neg hk] at eE
   by_cases hp:0<=(nd d e.at').parent
   ·rw [if_neg (by simpa using hp)] at eE
    obtain ⟨hpi,hpm⟩:=V.par_in hn hp
    have hp':=hpi.nat.1
    have p1:=hpi.2
    have hne:(nd d e.at').parent≠e.at':=fun h=>by have:=V.up_par hn hp;rw [h] at this;omega
    have hnn:(nd d e.at').parent.toNat≠e.at'.toNat:=by have:=hn.1;omega
    have gp:=JY (sl:=sl) hp'
    have ep:nth d.nodes (nd d e.at').parent.toNat=nd d (nd d e.at').parent:=rfl
    rw [ep] at gp
    unfold rowA at gp
    obtain ⟨oA,oK⟩:=E.dw.own _ hp'
    rw [ep] at oK
    have kl:=(sm.nd (nd d e.at').parent).kids
    have hI:=index_own (G:=G) oK e.at' kl
    obtain ⟨i1,i2⟩:=idx_at hpm
    have i3:=(idx_mem (nd d (nd d e.at').parent).kids e.at').2 hpm
    have i4:((U8 (· == e.at') (nd d (nd d e.at').parent).kids).toNat:Int)=U8 (· == e.at') (nd d (nd d e.at').parent).kids:=by omega
    rw [<-i4] at hI
    have lv:=E.live (2*(nd d e.at').parent.toNat+1) (by omega)
    rcases oK.live lv with ⟨q,_⟩ | ⟨r,es,ha,hr,hl,ht⟩
    ·have:(nd d (nd d e.at').parent).kids=[]:=by simpa using q
     rw [this] at i1;simp at i1
    ·rw [List.length_map] at ha hl ht
     have hD:=deleteZ_ok (G:=G) (i:=(U8 (· == e.at') (nd d (nd d e.at').parent).kids).toNat) (j:=(U8 (· == e.at') (nd d (nd d e.at').parent).kids).toNat+1) hr hl (by omega) (by omega) (by omega)
     have SK:=fun h1 a' l'=>E.slotK hp' (h1:=h1) (a':=a') (l':=l')
     rw [ha] at gp hI SK
     rw [ep] at SK
     have cdef:cutN d e.at' (U8 (· == e.at') (nd d (nd d e.at').parent).kids).toNat=setN (setN d (nd d e.at').parent { nd d (nd d e.at').parent with kids:=(nd d (nd d e.at').parent).kids.take (U8 (· == e.at') (nd d (nd d e.at').parent).kids).toNat++(nd d (nd d e.at').parent).kids.drop ((U8 (· == e.at') (nd d (nd d e.at').parent).kids).toNat+1) }) e.at' { nd d e.at' with parent:=-1 }:=rfl
     generalize (U8 (· == e.at') (nd d (nd d e.at').parent).kids).toNat=i at *
     have hnr:¬ rN=r:=fun h=>(E.root_ne (k:=2*(nd d e.at').parent.toNat+1) (by omega) (by rw [ha];rfl)).1 h.symm
     refine DCalls.of hE ?_
     rintro _ hh ⟨rfl,rfl⟩
     repeat' (first | ((with_reducible refine brC (fun _=>?_) fun _=>?_) <;> try (exfalso;omega)) | ((refine DCalls.of hI ?_;rintro _ hh ⟨rfl,rfl⟩)) | (with_reducible refine And.intro ?_ ?_; · omega) | simp -dsimp -implicitDefEqProofs (disch:=omega) only [VCA,Nat.reduceEqDiff,Nat.reduceBEq,Nat.reduceAdd,Nat.reduceLT,Nat.reduceLeDiff,↓reduceIte,reduceCtorEq,Y8,Z0,SOp.rd,SI.rd,SX.rd,rdL,implies_true,exists_eq_left',J1,gN,gE,gk,gp,rl])
     all_goals try (exfalso;omega)
     refine DCalls.of hD ?_
     rintro _ _ ⟨rfl,es',rfl,hl2,ht2⟩
     have gne:=fun (x:List AVal)=>getD_set_ne (es:=QZ d sl) (x:=x) hnn
     repeat' (first | ((with_reducible refine brC (fun _=>?_) fun _=>?_) <;> try (exfalso;omega)) | (with_reducible refine And.intro ?_ ?_; · omega) | simp -dsimp -implicitDefEqProofs (disch:=omega) only [VCA,Nat.reduceEqDiff,Nat.reduceAdd,Nat.reduceLeDiff,↓reduceIte,Z8,exists_eq_left',gN,gk,gp,rl,hnr,gne,List.length_set])
     have ln:((nd d (nd d e.at').parent).kids.take i++(nd d (nd d e.at').parent).kids.drop (i+1)).length=(nd d (nd d e.at').parent).kids.length-(i+1-i):=by
      rw [List.length_append,List.length_take,List.length_drop];omega
     have hO:OwnS (upd hh r (some ⟨.t 3,1,es'⟩)) 3 1 (((nd d (nd d e.at').parent).kids.take i++(nd d (nd d e.at').parent).kids.drop (i+1)).map Z6) (.osl r 1 0 ((nd d (nd d e.at').parent).kids.length-(i+1-i))):=
      .inr (.inr ⟨r,es',by rw [List.length_map,ln],Q5 _ _ _,by rw [List.length_map,ln];exact hl2,by
       rw [List.length_map,ln,ht2,List.map_append,List.map_take,List.map_drop,<-ht,List.take_take,Nat.min_eq_left (by omega)]⟩)
     have E1:=SK _ _ _ (fun t o ho hne=>by rw [Q4 _ _ (fun e=>hne (by rw [e];rfl))];exact ho) hO (fun es e=>by cases e) (fun t ht=>.inl ht)
     have nn:=E1.dw.rows_eq
     have n1:nth (d.nodes.set (nd d e.at').parent.toNat { nd d (nd d e.at').parent with kids:=(nd d (nd d e.at').parent).kids.take i++(nd d (nd d e.at').parent).kids.drop (i+1) }) e.at'.toNat=nd d e.at':=by
      rw [K9 _ _ _ _ hp',if_neg (fun h=>hnn h.symm)];rfl
     have E2:=E1.cells (i:=e.at'.toNat) (by simpa using hn') (x':={ nd d e.at' with parent:=-1 }) (by show _=(nth (d.nodes.set _ _) _).attrs;rw [n1]) (by show _=(nth (d.nodes.set _ _) _).kids;rw [n1])
     rw [<-nn] at E2
     have v1:upd sl (2*(nd d e.at').parent.toNat+1) (AVal.osl r 1 0 ((nd d (nd d e.at').parent).kids.length-(i+1-i))) (2*e.at'.toNat)=sl (2*e.at'.toNat):=Q4 _ _ (by omega)
     have v2:upd sl (2*(nd d e.at').parent.toNat+1) (AVal.osl r 1 0 ((nd d (nd d e.at').parent).kids.length-(i+1-i))) (2*e.at'.toNat+1)=sl (2*e.at'.toNat+1):=Q4 _ _ (by omega)
     rw [v1,v2,upd_upd] at E2
     exact ⟨_,Sub.refl _,EdR.good eE hm4 (by rw [eD,cdef];exact E2)⟩
   ·rw [if_pos hp] at eE
    refine DCalls.of hE ?_
    rintro _ hh ⟨rfl,rfl⟩
    repeat' (first | ((with_reducible refine brC (fun _=>?_) fun _=>?_) <;> try (exfalso;omega)) | (with_reducible refine And.intro ?_ ?_; · omega) | simp -dsimp -implicitDefEqProofs (disch:=omega) only [VCA,Nat.reduceEqDiff,Nat.reduceAdd,Nat.reduceLeDiff,↓reduceIte,exists_eq_left',gN,gk,rl])
    all_goals first | (exfalso;omega) | exact ⟨_,Sub.refl _,EdR.bad eE (by decide)⟩
 ·rw [if_neg hn] at hE
  rw [if_pos hn] at eE
  refine DCalls.of hE ?_
  rintro _ hh ⟨rfl,rfl⟩
  repeat' (first | ((with_reducible refine brC (fun _=>?_) fun _=>?_) <;> try (exfalso;omega)) | (with_reducible refine And.intro ?_ ?_; · omega) | simp -dsimp -implicitDefEqProofs (disch:=omega) only [VCA,↓reduceIte])
  all_goals exact ⟨_,Sub.refl _,EdR.bad eE (by decide)⟩
def edC (d:HDoc) (made:Int):List AVal:=[sl Q7 d.nodes,.bool d.quirks,Q3 made]
theorem Ed.vw {h0 h:Q2} {re rN:Nat} {d:HDoc} {sl:Nat->AVal} {made:Int} (E:Ed h0 h re rN d sl made):Vw h (.vp re 0) (.pin (edC d made)):=by
 refine .vp _ _ _ (.ptr re 0 0 _ _ E.ed (by simp) (by simp [edC]) fun k a b ha hb=>?_)
 have F:F2 (Vw h) [AVal.osl rN 6 0 d.nodes.length,.bool d.quirks,Q3 made] (edC d made):=.cons E.dw.vw (.cons (.refl _) (.cons (.refl _) .nil))
 exact F.get k a b ha hb
theorem Ed.vwD {h0 h:Q2} {re rN:Nat} {d:HDoc} {sl:Nat->AVal} {made:Int} (E:Ed h0 h re rN d sl made):Vw h (.agg [.osl rN 6 0 d.nodes.length,.bool d.quirks]) (.agg (Q8 d)):=
 Vw.agg' (.cons E.dw.vw (.cons (.refl _) .nil))
def c114:SFun:=⟨.seq (.reg [o 6 (.mv (.c (.bool false)))]) (.seq (.block 0 (.loop (.seq (.seq (.reg [o 7 (.mv (.t 1)),o 8 (.bin .geq (.t 7) (.c (.int .i64 0))),o 9 (.mv (.t 8)),⟨some 10,.mv (.t 1),some (9,true)⟩,⟨some 11,.mv (.t 2),some (9,true)⟩,⟨some 12,.bin .neq (.t 10) (.t 11),some (9,true)⟩,o 13 (.pick (.t 9) (.t 12) (.c (.bool false)))]) (.cond (.t 13) .skip (.exit 0))) (.block 1 (.reg [o 14 (.mv (.t 0)),o 15 (.fldA 0 (.t 14)),o 16 (.fldA 0 (.t 15)),o 17 (.fldA 0 (.t 16)),o 18 (.ld 1 false (.t 17)),o 19 (.mv (.t 1)),o 20 (.idxA 6 (.t 18) (.t 19)),o 21 (.fldA 4 (.t 20)),o 22 (.ld 1 false (.t 21)),o 1 (.mv (.t 22))]))))) (.seq (.reg [o 23 (.mv (.t 1)),o 24 (.mv (.t 2)),o 25 (.bin .eql (.t 23) (.t 24)),o 6 (.mv (.t 25))]) .ret)),[.tmp 6]⟩
theorem hc114:Y3 Tryz.prog {} Tryz.f114=some c114:=by kernel_rfl
theorem ebelow_ok (d:HDoc) (V:DV d) (made n top:Int) (hn:inD d n) (ht:0<=top):PCalls (Pg G) 114 [.pin (edC d made),Q3 n,Q3 top] (.bool (decide (top∈X7 d n))):=fun h=>by
 have hl:=V.len
 refine Q0 Tryz.func114 (by kernel_rfl) hc114 (by rw [Tryz.ntmps114];simp) (by rw [Tryz.ntmps114];decide) ?_
 simp -dsimp -implicitDefEqProofs (disch:=omega) only [VCA,c114,edC]
 refine LoopVC.intro (fun m e h'=>∃ c:Int,m=(if c = -1 then 0 else up d c+1)/\(c = -1\/inD d c)/\e 1=Q3 c/\e 2=Q3 top/\e 0=.pin (edC d made)/\h'=h/\(c = -1->top∉X7 d n)/\(inD d c->(top∈X7 d n↔top∈X7 d c))) _ ⟨n,rfl,.inr hn,rfl,rfl,rfl,rfl,fun e=>by have:=hn.1;omega,fun _=>Iff.rfl⟩ ?_
 rintro m e h' ⟨c,rfl,hc,he1,he2,he0,rfl,hno,hyes⟩
 by_cases h2:c = -1
 ·subst h2
  have h3:((-1:Int)==top)=false:=by simp;omega
  simp -dsimp -implicitDefEqProofs (disch:=omega) only [↓Q1 9,VCA,↓reduceIte,he1]
  repeat' (first | ((with_reducible refine brC (fun _=>?_) fun _=>?_) <;> try (exfalso;omega)) | (with_reducible refine And.intro ?_ ?_; · omega) | simp -dsimp -implicitDefEqProofs (disch:=omega) only [VCA,Nat.reduceEqDiff,↓reduceIte,exists_eq_right_right,he1,he2,h3])
  exact ⟨Sub.refl _,by simp [hno rfl]⟩
 ·have hc:inD d c:=hc.resolve_left h2
  have hc0:=hc.1
  have hc1:=hc.2
  have e0:nth d.nodes c.toNat=nd d c:=rfl
  simp -dsimp -implicitDefEqProofs (disch:=omega) only [↓Q1 9,VCA,↓reduceIte,he1]
  repeat' (first | ((with_reducible refine brC (fun _=>?_) fun _=>?_) <;> try (exfalso;omega)) | (with_reducible refine And.intro ?_ ?_; · omega) | simp -dsimp -implicitDefEqProofs (disch:=omega) only [VCA,Nat.reduceEqDiff,Nat.reduceAdd,Nat.reduceLeDiff,↓reduceIte,reduceCtorEq,exists_eq_right_right,he1,he2,he0,edC,Q7,e0])
  ·rename_i h0 h1
   refine ⟨_,?_,(nd d c).parent,rfl,?_,rfl,?_,?_⟩
   ·rw [if_neg (show ¬ c = -1 by omega)]
    split
    ·omega
    ·rename_i hp
     have:=V.up_par hc (by have:=V.par c hc;unfold inD at this;omega)
     omega
   ·rcases V.par c hc with h | h
    ·exact .inl h
    ·exact .inr h.1
   ·intro hp
    rw [hyes hc,T9 V (by omega)]
    simp;exact fun e=>h1 e.symm
   ·intro hp
    rw [hyes hc,W8 V hc hp.1]
    simp;exact fun e=>absurd e.symm h1
  ·rename_i h0 h1
   subst h1
   exact ⟨Sub.refl _,by simp [(hyes hc).2 (U1 _ _)]⟩
def c115:SFun:=⟨.seq (.reg [o 4 (.mv (.c (.int .i64 0)))]) (.seq (.seq (.reg [o 7 (.mv (.t 0)),o 8 (.fldA 0 (.t 7)),o 9 (.fldA 0 (.t 8)),o 10 (.fldA 0 (.t 9)),o 11 (.ld 1 false (.t 10)),o 12 (.mv (.t 1)),o 13 (.idxA 6 (.t 11) (.t 12)),o 14 (.fldA 5 (.t 13)),o 15 (.ld 1 false (.t 14)),o 16 (.len (.t 15)),o 17 (.mv (.c (.int .i64 0)))]) (.block 0 (.loop (.seq (.reg [o 18 (.bin .lss (.t 17) (.t 16))]) (.seq (.cond (.t 18) .skip (.exit 0)) (.seq (.block 1 (.seq (.reg [o 19 (.idxA 1 (.t 15) (.t 17)),o 20 (.ld 1 false (.t 19)),o 6 (.mv (.t 20))]) (.reg [o 21 (.mv (.t 4)),o 22 (.mv (.t 0)),o 23 (.mv (.t 6)),o 24 (.pcall 115 [.t 22,.t 23]),o 25 (.bin .add (.t 24) (.c (.int .i64 1))),o 26 (.max2 (.t 21) (.t 25)),o 4 (.mv (.t 26))]))) (.reg [o 27 (.bin .add (.t 17) (.c (.int .i64 1))),o 17 (.mv (.t 27))]))))))) (.seq (.reg [o 28 (.mv (.t 4)),o 4 (.mv (.t 28))]) .ret)),[.tmp 4]⟩
theorem hc115:Y3 Tryz.prog {pure:=[115]} Tryz.f115=some c115:=by kernel_rfl
theorem edeep_ok (d:HDoc) (V:DV d) (sm:DocSm d) (made:Int):∀ n,inD d n->PCalls (Pg G) 115 [.pin (edC d made),Q3 n] (Q3 (low d n)):=V.down fun n hn ih h=>by
 have hl:=V.len
 have n0:=hn.1
 have n1:=hn.2
 have e0:nth d.nodes n.toNat=nd d n:=rfl
 have kl:=(sm.nd n).kids
 refine Q0 Tryz.func115 (by kernel_rfl) hc115 (by rw [Tryz.ntmps115];simp) (by rw [Tryz.ntmps115];decide) ?_
 simp -dsimp -implicitDefEqProofs (disch:=omega) only [VCA,Nat.reduceEqDiff,Nat.reduceAdd,Nat.reduceLeDiff,↓reduceIte,reduceCtorEq,c115,edC,Q7]
 rw [e0]
 refine ⟨by omega,?_⟩
 have lk:∀ k∈(nd d n).kids,low d k<=40:=fun k hk=>low_40 V (V.kid n hn k hk).1
 rw [low_eq V hn]
 refine LoopVC.intro (fun m e h'=>∃ k:Nat,k<=(nd d n).kids.length/\m=(nd d n).kids.length-k/\e 0=.pin (edC d made)/\e 15=sl Z6 (nd d n).kids/\e 16=Q3 (nd d n).kids.length/\e 17=Q3 k/\e 4=Q3 ((((nd d n).kids.take k).map fun k=>low d k+1).foldl max 0:Nat)/\h'=h) _ ⟨0,by omega,rfl,rfl,rfl,rfl,rfl,rfl,rfl⟩ ?_
 rintro m e h' ⟨k,hk,rfl,he0,he15,he16,he17,he4,rfl⟩
 simp -dsimp -implicitDefEqProofs (disch:=omega) only [VCA,↓reduceIte,he16,he17]
 refine Br.dec (fun hlt=>?_) (fun hge=>?_)
 ·have hk':k<(nd d n).kids.length:=by omega
  have hD:=ih _ (Y7 hk')
  have l40:=lk _ (Y7 hk')
  unfold edC at hD
  simp -dsimp -implicitDefEqProofs (disch:=omega) only [VCA,Nat.reduceEqDiff,↓reduceIte,reduceCtorEq,Z6,he0,he15,he17,he4,edC]
  refine ⟨by omega,?_⟩
  refine pcallE.of (hD) ?_;simp -dsimp -implicitDefEqProofs (disch:=omega) only [VCA,Nat.reduceEqDiff,↓reduceIte,reduceCtorEq,he0,he15,he16,he17]
  refine ⟨_,by omega,k+1,by omega,rfl,rfl,by omega,?_⟩
  rw [X1 hk',List.map_append,List.foldl_append]
  simp only [List.map_cons,List.map_nil,List.foldl_cons,List.foldl_nil]
  omega
 ·obtain rfl:k=(nd d n).kids.length:=by omega
  rw [List.take_length] at he4
  simp -dsimp -implicitDefEqProofs (disch:=omega) only [VCA,Nat.reduceEqDiff,↓reduceIte,exists_eq_right,he4]
  exact Sub.refl _
theorem Ed.mono {h0 h h2:Q2} {re rN:Nat} {d:HDoc} {sl:Nat->AVal} {made:Int} (E:Ed h0 h re rN d sl made) (S:Sim.Sub h h2):Ed h0 h2 re rN d sl made:=⟨E.dw.mono S,S _ _ E.ed,E.new,E.live⟩
def c97_s6:SCode:=(.seq (.dreg [(o 97 (.mv (.t 5)),none),(o 98 (.mv (.t 5)),none),(o 99 (.fldA 0 (.t 98)),none),(o 100 (.fldA 5 (.t 99)),none),(o 101 (.ld 1 false (.t 100)),none),(o 102 (.mv (.t 7)),none),(o 103 (.fldA 2 (.t 3)),none),(o 104 (.ld 1 false (.t 103)),none),(o 105 (.bldR 3 1 [.t 104]),(some [104])),(o 106 (.call (.c (.fn 60 [] [])) [.t 101,.t 102,.t 105]),(some [101,104])),(o 107 (.fldA 0 (.t 97)),none),(o 108 (.fldA 5 (.t 107)),none),(⟨none,.st 1 (.t 108) (.t 106),none⟩,(some [101,104]))]) (.seq (.reg [o 109 (.mv (.t 6)),o 110 (.fldA 1 (.t 3)),o 111 (.ld 1 false (.t 110)),o 112 (.fldA 0 (.t 109)),o 113 (.fldA 4 (.t 112)),⟨none,.st 1 (.t 113) (.t 111),none⟩]) (.seq (.reg [o 4 (.mv (.c (.int .i64 0)))]) .ret)))
def c97_s5:SCode:=(.seq (.block 1 (.seq (.reg [o 73 (.mv (.t 7)),o 74 (.bin .lss (.t 73) (.c (.int .i64 0))),o 72 (.mv (.t 74))]) (.cond (.t 72) (.seq (.reg [o 4 (.mv (.c (.int .i64 5)))]) .ret) (.seq (.reg [o 76 (.mv (.t 0)),o 77 (.fldA 1 (.t 3)),o 78 (.ld 1 false (.t 77)),o 79 (.fldA 2 (.t 3)),o 80 (.ld 1 false (.t 79)),o 81 (.call (.c (.fn 114 [] [])) [.t 76,.t 78,.t 80]),o 75 (.mv (.t 81))]) (.cond (.t 75) (.seq (.reg [o 4 (.mv (.c (.int .i64 8)))]) .ret) (.seq (.dreg [(o 83 (.mv (.t 0)),none),(o 84 (.fldA 0 (.t 83)),none),(o 85 (.fldA 0 (.t 84)),none),(o 86 (.ld 2 true (.t 85)),none),(o 87 (.fldA 1 (.t 3)),none),(o 88 (.ld 1 false (.t 87)),none),(o 91 (.mv (.t 0)),none),(o 92 (.fldA 2 (.t 3)),none),(o 93 (.ld 1 false (.t 92)),none),(o 89 (.call (.c (.fn 72 [] [])) [.t 86,.t 88]),(some [86,88])),(o 90 (.bin .add (.t 89) (.c (.int .i64 1))),none),(o 94 (.call (.c (.fn 115 [] [])) [.t 91,.t 93]),(some [93,86,88])),(o 95 (.bin .add (.t 90) (.t 94)),none),(o 96 (.bin .gtr (.t 95) (.c (.int .i64 40))),none),(o 82 (.mv (.t 96)),none)]) (.cond (.t 82) (.seq (.reg [o 4 (.mv (.c (.int .i64 2)))]) .ret) .skip))))))) c97_s6)
def c97:SFun:=⟨.seq (.reg [o 3 (.boxF 33 12 (.t 1)),o 4 (.mv (.c (.int .i64 0)))]) (.seq (.dreg [(o 8 (.mv (.t 0)),none),(o 9 (.fldA 1 (.t 3)),none),(o 10 (.ld 1 false (.t 9)),none),(o 12 (.mv (.t 0)),none),(o 13 (.fldA 2 (.t 3)),none),(o 14 (.ld 1 false (.t 13)),none),(o 11 (.call (.c (.fn 112 [] [])) [.t 8,.t 10]),(some [10])),(o 15 (.call (.c (.fn 112 [] [])) [.t 12,.t 14]),(some [14,10])),(o 5 (.mv (.t 11)),none),(o 6 (.mv (.t 15)),none)]) (.seq (.block 0 (.seq (.reg [o 17 (.mv (.t 5)),o 18 (.isnil 1 false (.t 17)),o 19 (.mv (.t 18)),⟨some 20,.mv (.t 6),some (19,false)⟩,⟨some 21,.isnil 1 false (.t 20),some (19,false)⟩,o 22 (.pick (.t 19) (.c (.bool true)) (.t 21)),o 16 (.mv (.t 22))]) (.cond (.t 16) (.seq (.reg [o 4 (.mv (.c (.int .i64 5)))]) .ret) (.seq (.reg [o 24 (.mv (.t 5)),o 25 (.fldA 0 (.t 24)),o 26 (.fldA 0 (.t 25)),o 27 (.ld 1 false (.t 26)),o 28 (.pcall 107 [.t 27]),o 29 (.un .not (.t 28)),o 30 (.mv (.t 29)),⟨some 31,.mv (.t 6),some (30,false)⟩,⟨some 32,.fldA 0 (.t 31),some (30,false)⟩,⟨some 33,.fldA 0 (.t 32),some (30,false)⟩,⟨some 34,.ld 1 false (.t 33),some (30,false)⟩,⟨some 35,.bin .eql (.t 34) (.c (.int .i64 1)),some (30,false)⟩,o 36 (.pick (.t 30) (.c (.bool true)) (.t 35)),o 37 (.mv (.t 36)),⟨some 38,.mv (.t 5),some (37,false)⟩,⟨some 39,.fldA 0 (.t 38),some (37,false)⟩,⟨some 40,.fldA 0 (.t 39),some (37,false)⟩,⟨some 41,.ld 1 false (.t 40),some (37,false)⟩,⟨some 42,.bin .eql (.t 41) (.c (.int .i64 1)),some (37,false)⟩,⟨some 43,.mv (.t 42),some (37,false)⟩,⟨some 44,.mv (.t 6),some (43,true)⟩,⟨some 45,.fldA 0 (.t 44),some (43,true)⟩,⟨some 46,.fldA 0 (.t 45),some (43,true)⟩,⟨some 47,.ld 1 false (.t 46),some (43,true)⟩,⟨some 48,.bin .eql (.t 47) (.c (.int .i64 3)),some (43,true)⟩,⟨some 49,.pick (.t 43) (.t 48) (.c (.bool false)),some (37,false)⟩,o 50 (.pick (.t 37) (.c (.bool true)) (.t 49)),o 23 (.mv (.t 50))]) (.cond (.t 23) (.seq (.reg [o 4 (.mv (.c (.int .i64 7)))]) .ret) (.seq (.reg [o 52 (.mv (.t 6)),o 53 (.fldA 0 (.t 52)),o 54 (.fldA 4 (.t 53)),o 55 (.ld 1 false (.t 54)),o 56 (.bin .geq (.t 55) (.c (.int .i64 0))),o 51 (.mv (.t 56))]) (.cond (.t 51) (.seq (.reg [o 4 (.mv (.c (.int .i64 9)))]) .ret) .skip))))))) (.seq (.reg [o 57 (.mv (.t 5)),o 58 (.fldA 0 (.t 57)),o 59 (.fldA 5 (.t 58)),o 60 (.ld 1 false (.t 59)),o 61 (.len (.t 60)),o 7 (.mv (.t 61))]) (.seq (.seq (.reg [o 62 (.fldA 3 (.t 3)),o 63 (.ld 1 false (.t 62)),o 64 (.bin .neq (.t 63) (.c (.int .i64 (-1))))]) (.cond (.t 64) (.dreg [(o 65 (.mv (.t 5)),none),(o 66 (.fldA 0 (.t 65)),none),(o 67 (.fldA 5 (.t 66)),none),(o 68 (.ld 1 false (.t 67)),none),(o 69 (.fldA 3 (.t 3)),none),(o 70 (.ld 1 false (.t 69)),none),(o 71 (.call (.c (.fn 113 [] [])) [.t 68,.t 70]),(some [68,70])),(o 7 (.mv (.t 71)),none)]) .skip)) c97_s5)))),[.tmp 4]⟩
theorem hc97:Y3 Tryz.prog {pure:=[107],how:=[(105,2)]} Tryz.f97=some c97:=by kernel_rfl
theorem einsert_ok {h0 h:Q2} {re rN:Nat} {d:HDoc} {sl:Nat->AVal} {made:Int} (E:Ed h0 h re rN d sl made) (V:DV d) (sm:DocSm d) (e:HEdit) (he:EditSm e) (hdo:e.do'=5):DCalls (Pg G) 97 [.vp re 0,.agg (Z4 e)] h (EdR h0 h re d e made):=by
 have gN:=E.dw.nodes
 have gE:=E.ed
 have ner:=E.ne
 have vl:=V.len
 have hE1:=enode_ok (G:=G) E e.at'
 have hE2:=enode_ok (G:=G) E e.into
 unfold nodeP at hE1 hE2
 have eE:V4 d e=if ¬ inD d e.at'\/¬ inD d e.into then 5
  else if ¬ ((nd d e.at').kind=1\/(nd d e.at').kind=2)\/(nd d e.into).kind=1\/((nd d e.at').kind=1/\(nd d e.into).kind=3) then 7
  else if 0<=(nd d e.into).parent then 9 else if e.before ≠ -1/\e.before∉(nd d e.at').kids then 5 else if e.into∈X7 d e.at' then 8
  else if 40<up d e.at'+1+low d e.into then 2 else 0:=by unfold V4;rw [if_neg (by omega),if_neg (by omega),if_neg (by omega),if_neg (by omega),if_pos hdo]
 have eD:J6 d e=UV d e.at' e.into (YY d e):=by unfold J6;rw [if_neg (by omega),if_neg (by omega),if_neg (by omega),if_neg (by omega),if_pos hdo]
 have hm4:made=if e.do'=4 then (d.nodes.length:Int) else made:=by rw [if_neg (by omega)]
 have s5:inD d e.at'->inD d e.into->((nd d e.at').kind=1\/(nd d e.at').kind=2)->¬ (nd d e.into).kind=1->¬ 0<=(nd d e.into).parent->¬ (e.before ≠ -1/\e.before∉(nd d e.at').kids) ->
  V4 d e=(if e.into∈X7 d e.at' then 8 else if 40<up d e.at'+1+low d e.into then 2 else 0) -> ∀ env:Env,env 0=.vp re 0->env 3=.pin (Z4 e)->env 5=.ptr rN e.at'.toNat 0->env 6=.ptr rN e.into.toNat 0->env 7=Q3 (YY d e) ->
  vc (Pg G) c97_s5 (KU [.tmp 4] (EdR h0 h re d e made)) env h:=by
  intro ha ht hp h71 h9 hb eE env v0 v3 v5 v6 v7
  have ha':=ha.nat.1
  have ht':=ht.nat.1
  have a0:=ha.1
  have t0:=ht.1
  have hBe:=(ebelow_ok (G:=G) d V made e.at' e.into ha t0)
  have hBe2:DCalls (Pg G) 114 [.vp re 0,Q3 e.at',Q3 e.into] h fun r h'=>r=.bool (decide (e.into∈X7 d e.at'))/\h'=h:=DCalls.bor hBe (.bool _) (.cons E.vw (.cons (.refl _) (.cons (.refl _) .nil)))
  have hUp:DCalls (Pg G) 72 [.agg [.osl rN 6 0 d.nodes.length,.bool d.quirks],Q3 e.at'] h fun r h'=>r=Q3 (up d e.at')/\h'=h:=DCalls.bor (up_ok (G:=G) d sm (fun n hn hp=>(V.par_in hn hp).1) e.at' ha) (.int _ _) (.cons E.vwD (.cons (.refl _) .nil))
  have hDe:DCalls (Pg G) 115 [.vp re 0,Q3 e.into] h fun r h'=>r=Q3 (low d e.into)/\h'=h:=DCalls.bor (edeep_ok (G:=G) d V sm made e.into ht) (.int _ _) (.cons E.vw (.cons (.refl _) .nil))
  have u40:=V.deep e.at' ha
  have l40:=low_40 V ht
  have s6:e.into∉X7 d e.at'->V4 d e=0 -> ∀ env:Env,env 3=.pin (Z4 e)->env 5=.ptr rN e.at'.toNat 0->env 6=.ptr rN e.into.toNat 0->env 7=Q3 (YY d e) ->
   vc (Pg G) c97_s6 (KU [.tmp 4] (EdR h0 h re d e made)) env h:=by
   intro hc eE env v3 v5 v6 v7
   unfold c97_s6
   skip
   have ga:=JY (sl:=sl) ha'
   have gt:=JY (sl:=sl) ht'
   have rl:=QK d sl
   have e0:nth d.nodes e.at'.toNat=nd d e.at':=rfl
   have e1:nth d.nodes e.into.toNat=nd d e.into:=rfl
   rw [e0] at ga
   rw [e1] at gt
   unfold rowA at ga gt
   have kl:=(sm.nd e.at').kids
   have lv:=E.live (2*e.at'.toNat+1) (by omega)
   have hne:e.at'≠e.into:=fun h=>hc (by rw [h];exact U1 _ _)
   have hnn:e.at'.toNat≠e.into.toNat:=by omega
   have hIl:YY d e<=(nd d e.at').kids.length:=by
    unfold YY
    have:=idxM_leK (nd d e.at').kids e.before
    split <;> omega
   have nr0:∀ t,Q9 (sl (2*e.at'.toNat+1))=some t->t≠rN:=fun t ht=>(E.root_ne (by omega) ht).1
   have kb:(nd d e.at').kids.length<=100000:=by
    have:=YK d.nodes.length (nd d e.at').kids (V.nodup _ ha) (fun k hk=>(V.kid _ ha k hk).1)
    omega
   simp -dsimp -implicitDefEqProofs (disch:=omega) only [VCA,Nat.reduceEqDiff,Nat.reduceBEq,Nat.reduceAdd,Nat.reduceLeDiff,↓reduceIte,Y8,Z0,SOp.rd,SI.rd,SX.rd,rdL,Z7,forall_const,exists_eq_left',J1,JT,v3,v5,v7,gN,ga,rl,Z4]
   refine ⟨by omega,fun r hr=>?_⟩
   have nr:¬ rN=r:=fun h=>by rw [<-h,gN] at hr;cases hr
   have S1:=(Sub.refl h).upd (x:=some ⟨.t 3,1,[Z6 e.into]⟩) hr
   have E1:=E.mono S1
   obtain ⟨oA,oK⟩:=E1.dw.own _ ha'
   rw [e0] at oK
   have hIns:=insertI_ok (G:=G) (x:=e.into) (i:=YY d e) oK lv hIl kb (Q5 _ _ _) (fun h=>by obtain ⟨o,ho⟩:=E.dw.slot (k:=2*e.at'.toNat+1) (by omega) h;rw [hr] at ho;cases ho)
   have gN1:=E1.dw.nodes
   have keepN:∀ h9:Q2,(∀ t o,upd h r (some ⟨.t 3,1,[Z6 e.into]⟩) t=some o->Q9 (sl (2*e.at'.toNat+1))≠some t->h9 t=some o)->h9 rN=some ⟨.t 31,6,QZ d sl⟩:=fun h9 kp=>kp rN _ gN1 (fun h=>nr0 _ h rfl)
   unfold Z6 at hIns
   simp -dsimp -implicitDefEqProofs (disch:=omega) only [VCA,↓reduceIte,nr]
   refine DCalls.of hIns ?_
   rintro _ h9 ⟨r',rfl,hr',hf,kp⟩
   have gN9:=keepN h9 kp
   have gne:=fun (x:List AVal)=>getD_set_ne (es:=QZ d sl) (x:=x) hnn
   repeat' (first | ((with_reducible refine brC (fun _=>?_) fun _=>?_) <;> try (exfalso;omega)) | (with_reducible refine And.intro ?_ ?_; · omega) | simp -dsimp -implicitDefEqProofs (disch:=omega) only [VCA,Nat.reduceEqDiff,Nat.reduceBEq,Nat.reduceAdd,Nat.reduceLeDiff,↓reduceIte,Y8,Z0,SOp.rd,SI.rd,SX.rd,rdL,Z8,implies_true,exists_eq_left',J1,v3,v6,gN,gN9,ga,gt,rl,nr,gne,List.length_set,Z4])
   have ln:=ins_len (nd d e.at').kids (YY d e) e.into hIl
   have hO:OwnS h9 3 1 (((nd d e.at').kids.take (YY d e)++e.into :: (nd d e.at').kids.drop (YY d e)).map Z6) (.osl r' 1 0 ((nd d e.at').kids.length+1)):=
    .inr (.inr ⟨r',_,by rw [List.length_map,ln],hr',Nat.le_refl _,List.take_length⟩)
   have E2:=E1.slotK ha' kp hO (fun es e=>by cases e) (fun t ht=>by cases ht;exact hf)
   rw [e0] at E2
   have nn:=E2.dw.rows_eq
   have n1:nth (d.nodes.set e.at'.toNat { nd d e.at' with kids:=(nd d e.at').kids.take (YY d e)++e.into :: (nd d e.at').kids.drop (YY d e) }) e.into.toNat=nd d e.into:=by
    rw [K9 _ _ _ _ ha',if_neg (fun h=>hnn h.symm)];rfl
   have E3:=E2.cells (i:=e.into.toNat) (by simpa using ht') (x':={ nd d e.into with parent:=e.at' }) (by show _=(nth (d.nodes.set _ _) _).attrs;rw [n1]) (by show _=(nth (d.nodes.set _ _) _).kids;rw [n1])
   rw [<-nn] at E3
   have v1:upd sl (2*e.at'.toNat+1) (AVal.osl r' 1 0 ((nd d e.at').kids.length+1)) (2*e.into.toNat)=sl (2*e.into.toNat):=Q4 _ _ (by omega)
   have v2:upd sl (2*e.at'.toNat+1) (AVal.osl r' 1 0 ((nd d e.at').kids.length+1)) (2*e.into.toNat+1)=sl (2*e.into.toNat+1):=Q4 _ _ (by omega)
   rw [v1,v2,upd_upd] at E3
   exact ⟨_,Sub.refl _,EdR.good eE hm4 (by rw [eD];exact E3)⟩
  unfold c97_s5
  skip
  simp -dsimp -implicitDefEqProofs (disch:=omega) only [VCA,↓reduceIte,v7]
  by_cases hc:e.into∈X7 d e.at'
  ·rw [if_pos hc] at eE
   rw [decide_eq_true hc] at hBe2
   repeat' (first | ((with_reducible refine brC (fun _=>?_) fun _=>?_) <;> try (exfalso;omega)) | ((refine DCalls.of hBe2 ?_;rintro _ hh ⟨rfl,rfl⟩)) | (with_reducible refine And.intro ?_ ?_; · omega) | simp -dsimp -implicitDefEqProofs (disch:=omega) only [VCA,Nat.reduceEqDiff,Nat.reduceAdd,Nat.reduceLeDiff,↓reduceIte,reduceCtorEq,v0,v3,Z4])
   all_goals first | (exfalso;omega) | exact ⟨_,Sub.refl _,EdR.bad eE (by decide)⟩ | trace_state
  ·rw [if_neg hc] at eE
   rw [decide_eq_false hc] at hBe2
   by_cases h2:40<up d e.at'+1+low d e.into
   ·rw [if_pos h2] at eE
    repeat' (first | ((with_reducible refine brC (fun _=>?_) fun _=>?_) <;> try (exfalso;omega)) | ((refine DCalls.of hBe2 ?_;rintro _ hh ⟨rfl,rfl⟩)) | ((refine DCalls.of hUp ?_;rintro _ hh ⟨rfl,rfl⟩)) | ((refine DCalls.of hDe ?_;rintro _ hh ⟨rfl,rfl⟩)) | (with_reducible refine And.intro ?_ ?_; · omega) | simp -dsimp -implicitDefEqProofs (disch:=omega) only [VCA,Nat.reduceEqDiff,Nat.reduceBEq,Nat.reduceAdd,Nat.reduceLT,Nat.reduceLeDiff,↓reduceIte,reduceCtorEq,Y8,Z0,SOp.rd,SI.rd,SX.rd,rdL,implies_true,exists_eq_left',J1,v0,v3,gE,Z4])
    all_goals first | (exfalso;omega) | exact ⟨_,Sub.refl _,EdR.bad eE (by decide)⟩ | trace_state
   ·rw [if_neg h2] at eE
    repeat' (first | ((with_reducible refine brC (fun _=>?_) fun _=>?_) <;> try (exfalso;omega)) | ((refine DCalls.of hBe2 ?_;rintro _ hh ⟨rfl,rfl⟩)) | ((refine DCalls.of hUp ?_;rintro _ hh ⟨rfl,rfl⟩)) | ((refine DCalls.of hDe ?_;rintro _ hh ⟨rfl,rfl⟩)) | (with_reducible refine And.intro ?_ ?_; · omega) | simp -dsimp -implicitDefEqProofs (disch:=omega) only [VCA,Nat.reduceEqDiff,Nat.reduceBEq,Nat.reduceAdd,Nat.reduceLT,Nat.reduceLeDiff,↓reduceIte,reduceCtorEq,Y8,Z0,SOp.rd,SI.rd,SX.rd,rdL,implies_true,exists_eq_left',J1,v0,v3,gE,Z4])
    all_goals first | (exfalso;omega) | exact s6 hc eE _ v3 v5 v6 v7 | trace_state
 have s5b:V4 d e=5 -> ∀ (env:Env) (v:Int),v<0->env 7=Q3 v->vc (Pg G) c97_s5 (KU [.tmp 4] (EdR h0 h re d e made)) env h:=by
  intro eE env v hv v7
  unfold c97_s5
  skip
  simp -dsimp -implicitDefEqProofs (disch:=omega) only [VCA,↓reduceIte,v7]
  repeat' (first | ((with_reducible refine brC (fun _=>?_) fun _=>?_) <;> try (exfalso;omega)) | (with_reducible refine And.intro ?_ ?_; · omega) | simp -dsimp -implicitDefEqProofs (disch:=omega) only [VCA,↓reduceIte])
  all_goals first | (exfalso;omega) | exact ⟨_,Sub.refl _,EdR.bad eE (by decide)⟩
 refine Q0 Tryz.func97 (by kernel_rfl) hc97 (by rw [Tryz.ntmps97];simp) (by rw [Tryz.ntmps97];decide) ?_
 simp -dsimp -implicitDefEqProofs (disch:=omega) only [VCA,Nat.reduceEqDiff,Nat.reduceAdd,Nat.reduceLeDiff,↓reduceIte,reduceCtorEq,Y8,Z0,J1,c97,Z4]
 by_cases ha:inD d e.at'
 ·rw [if_pos ha] at hE1
  by_cases ht:inD d e.into
  ·rw [if_pos ht] at hE2
   rw [if_neg (by simp [ha,ht])] at eE
   have ha':=ha.nat.1
   have ht':=ht.nat.1
   have ga:=JY (sl:=sl) ha'
   have gt:=JY (sl:=sl) ht'
   have rl:=QK d sl
   have e0:nth d.nodes e.at'.toNat=nd d e.at':=rfl
   have e1:nth d.nodes e.into.toNat=nd d e.into:=rfl
   rw [e0] at ga
   rw [e1] at gt
   unfold rowA at ga gt
   obtain ⟨oA,oK⟩:=E.dw.own _ ha'
   rw [e0] at oK
   have kl:=(sm.nd e.at').kids
   have oL:=oK.len.1
   have oL2:=oK.len.2
   rw [List.length_map] at oL
   have hPa:=parent_ok (G:=G) (nd d e.at').kind
   by_cases h7:¬ ((nd d e.at').kind=1\/(nd d e.at').kind=2)\/(nd d e.into).kind=1\/((nd d e.at').kind=1/\(nd d e.into).kind=3)
   ·rw [if_pos h7] at eE
    by_cases hp:(nd d e.at').kind=1\/(nd d e.at').kind=2
    ·rw [show (decide ((nd d e.at').kind=1)||decide ((nd d e.at').kind=2))=true by simpa using hp] at hPa
     repeat' (first | ((with_reducible refine brC (fun _=>?_) fun _=>?_) <;> try (exfalso;omega)) | ((refine DCalls.of hE1 ?_;rintro _ hh ⟨rfl,rfl⟩)) | ((refine DCalls.of hE2 ?_;rintro _ hh ⟨rfl,rfl⟩)) | (with_reducible apply pcallE.of; · exact hPa) | (with_reducible refine And.intro ?_ ?_; · omega) | simp -dsimp -implicitDefEqProofs (disch:=omega) only [↓Q1 19,↓Q1 30,↓Q1 37,↓Q1 43,VCA,Nat.reduceEqDiff,Nat.reduceAdd,Nat.reduceLeDiff,↓reduceIte,Y8,Z0,SOp.rd,SI.rd,SX.rd,rdL,exists_eq_left',J1,gN,ga,gt,rl])
     all_goals first | (exfalso;omega) | exact ⟨_,Sub.refl _,EdR.bad eE (by decide)⟩ | trace_state
    ·rw [show (decide ((nd d e.at').kind=1)||decide ((nd d e.at').kind=2))=false by simpa using hp] at hPa
     repeat' (first | ((with_reducible refine brC (fun _=>?_) fun _=>?_) <;> try (exfalso;omega)) | ((refine DCalls.of hE1 ?_;rintro _ hh ⟨rfl,rfl⟩)) | ((refine DCalls.of hE2 ?_;rintro _ hh ⟨rfl,rfl⟩)) | (with_reducible apply pcallE.of; · exact hPa) | (with_reducible refine And.intro ?_ ?_; · omega) | simp -dsimp -implicitDefEqProofs (disch:=omega) only [↓Q1 19,↓Q1 30,↓Q1 37,↓Q1 43,VCA,Nat.reduceEqDiff,Nat.reduceAdd,Nat.reduceLeDiff,↓reduceIte,Y8,Z0,SOp.rd,SI.rd,SX.rd,rdL,exists_eq_left',J1,gN,ga,rl])
     all_goals first | (exfalso;omega) | exact ⟨_,Sub.refl _,EdR.bad eE (by decide)⟩ | trace_state
   ·rw [if_neg h7] at eE
    have hp:(nd d e.at').kind=1\/(nd d e.at').kind=2:=Classical.not_not.1 fun h=>h7 (.inl h)
    have h71:¬ (nd d e.into).kind=1:=fun h=>h7 (.inr (.inl h))
    have h72:¬ ((nd d e.at').kind=1/\(nd d e.into).kind=3):=fun h=>h7 (.inr (.inr h))
    rw [show (decide ((nd d e.at').kind=1)||decide ((nd d e.at').kind=2))=true by simpa using hp] at hPa
    by_cases h9:0<=(nd d e.into).parent
    ·rw [if_pos h9] at eE
     repeat' (first | ((with_reducible refine brC (fun _=>?_) fun _=>?_) <;> try (exfalso;omega)) | ((refine DCalls.of hE1 ?_;rintro _ hh ⟨rfl,rfl⟩)) | ((refine DCalls.of hE2 ?_;rintro _ hh ⟨rfl,rfl⟩)) | (with_reducible apply pcallE.of; · exact hPa) | (with_reducible refine And.intro ?_ ?_; · omega) | simp -dsimp -implicitDefEqProofs (disch:=omega) only [↓Q1 19,↓Q1 30,↓Q1 37,↓Q1 43,VCA,Nat.reduceEqDiff,Nat.reduceAdd,Nat.reduceLeDiff,↓reduceIte,Y8,Z0,SOp.rd,SI.rd,SX.rd,rdL,exists_eq_left',J1,gN,ga,gt,rl])
     all_goals first | (exfalso;omega) | exact ⟨_,Sub.refl _,EdR.bad eE (by decide)⟩ | trace_state
    ·rw [if_neg h9] at eE
     have hIx:=index_own (G:=G) oK e.before kl
     have i1:=idxM_leK (nd d e.at').kids e.before
     have im:=idx_mem (nd d e.at').kids e.before
     by_cases hb:e.before ≠ -1/\e.before∉(nd d e.at').kids
     ·rw [if_pos hb] at eE
      have hb1:¬ 0<=U8 (· == e.before) (nd d e.at').kids:=fun h=>hb.2 (im.1 h)
      repeat' (first | ((with_reducible refine brC (fun _=>?_) fun _=>?_) <;> try (exfalso;omega)) | ((refine DCalls.of hE1 ?_;rintro _ hh ⟨rfl,rfl⟩)) | ((refine DCalls.of hE2 ?_;rintro _ hh ⟨rfl,rfl⟩)) | (with_reducible apply pcallE.of; · exact hPa) | ((refine DCalls.of hIx ?_;rintro _ hh ⟨rfl,rfl⟩)) | (with_reducible refine And.intro ?_ ?_; · omega) | simp -dsimp -implicitDefEqProofs (disch:=omega) only [↓Q1 19,↓Q1 30,↓Q1 37,↓Q1 43,VCA,Nat.reduceEqDiff,Nat.reduceBEq,Nat.reduceAdd,Nat.reduceLeDiff,↓reduceIte,Y8,Z0,SOp.rd,SI.rd,SX.rd,rdL,implies_true,exists_eq_left',J1,gN,ga,gt,rl,oL,oL2])
      all_goals first | (exfalso;omega) | exact ⟨_,Sub.refl _,EdR.bad eE (by decide)⟩ | exact s5b eE _ _ (by omega) rfl
     ·rw [if_neg hb] at eE
      by_cases hb1:e.before = -1
      ·have hI:YY d e=(nd d e.at').kids.length:=by unfold YY;rw [if_pos hb1]
       rw [hI] at s5
       repeat' (first | ((with_reducible refine brC (fun _=>?_) fun _=>?_) <;> try (exfalso;omega)) | ((refine DCalls.of hE1 ?_;rintro _ hh ⟨rfl,rfl⟩)) | ((refine DCalls.of hE2 ?_;rintro _ hh ⟨rfl,rfl⟩)) | (with_reducible apply pcallE.of; · exact hPa) | (with_reducible refine And.intro ?_ ?_; · omega) | simp -dsimp -implicitDefEqProofs (disch:=omega) only [↓Q1 19,↓Q1 30,↓Q1 37,↓Q1 43,VCA,Nat.reduceEqDiff,Nat.reduceAdd,Nat.reduceLeDiff,↓reduceIte,Y8,Z0,SOp.rd,SI.rd,SX.rd,rdL,exists_eq_left',J1,gN,ga,gt,rl,oL,oL2])
       all_goals first | (exfalso;omega) | refine s5 ha ht hp h71 h9 hb eE _ ?_ ?_ ?_ ?_ ?_ <;> rfl
      ·have hbm:e.before∈(nd d e.at').kids:=Classical.not_not.1 fun h=>hb ⟨hb1,h⟩
       have i0:=im.2 hbm
       have hI:(YY d e:Int)=U8 (· == e.before) (nd d e.at').kids:=by unfold YY;rw [if_neg hb1];omega
       rw [<-hI] at hIx
       repeat' (first | ((with_reducible refine brC (fun _=>?_) fun _=>?_) <;> try (exfalso;omega)) | ((refine DCalls.of hE1 ?_;rintro _ hh ⟨rfl,rfl⟩)) | ((refine DCalls.of hE2 ?_;rintro _ hh ⟨rfl,rfl⟩)) | (with_reducible apply pcallE.of; · exact hPa) | ((refine DCalls.of hIx ?_;rintro _ hh ⟨rfl,rfl⟩)) | (with_reducible refine And.intro ?_ ?_; · omega) | simp -dsimp -implicitDefEqProofs (disch:=omega) only [↓Q1 19,↓Q1 30,↓Q1 37,↓Q1 43,VCA,Nat.reduceEqDiff,Nat.reduceBEq,Nat.reduceAdd,Nat.reduceLeDiff,↓reduceIte,Y8,Z0,SOp.rd,SI.rd,SX.rd,rdL,implies_true,exists_eq_left',J1,gN,ga,gt,rl,oL,oL2])
       all_goals first | (exfalso;omega) | refine s5 ha ht hp h71 h9 hb eE _ ?_ ?_ ?_ ?_ ?_ <;> rfl
  ·rw [if_neg ht] at hE2
   rw [if_pos (.inr ht)] at eE
   repeat' (first | ((with_reducible refine brC (fun _=>?_) fun _=>?_) <;> try (exfalso;omega)) | ((refine DCalls.of hE1 ?_;rintro _ hh ⟨rfl,rfl⟩)) | ((refine DCalls.of hE2 ?_;rintro _ hh ⟨rfl,rfl⟩)) | (with_reducible refine And.intro ?_ ?_; · omega) | simp -dsimp -implicitDefEqProofs (disch:=omega) only [↓Q1 19,VCA,Nat.reduceEqDiff,↓reduceIte,Y8,Z0,SOp.rd,SI.rd,SX.rd,rdL,J1])
   all_goals first | (exfalso;omega) | exact ⟨_,Sub.refl _,EdR.bad eE (by decide)⟩ | trace_state
 ·rw [if_neg ha] at hE1
  rw [if_pos (.inl ha)] at eE
  by_cases ht:inD d e.into
  ·rw [if_pos ht] at hE2
   repeat' (first | ((with_reducible refine brC (fun _=>?_) fun _=>?_) <;> try (exfalso;omega)) | ((refine DCalls.of hE1 ?_;rintro _ hh ⟨rfl,rfl⟩)) | ((refine DCalls.of hE2 ?_;rintro _ hh ⟨rfl,rfl⟩)) | (with_reducible refine And.intro ?_ ?_; · omega) | simp -dsimp -implicitDefEqProofs (disch:=omega) only [↓Q1 19,VCA,Nat.reduceEqDiff,↓reduceIte,Y8,Z0,SOp.rd,SI.rd,SX.rd,rdL,J1])
   all_goals first | (exfalso;omega) | exact ⟨_,Sub.refl _,EdR.bad eE (by decide)⟩ | trace_state
  ·rw [if_neg ht] at hE2
   repeat' (first | ((with_reducible refine brC (fun _=>?_) fun _=>?_) <;> try (exfalso;omega)) | ((refine DCalls.of hE1 ?_;rintro _ hh ⟨rfl,rfl⟩)) | ((refine DCalls.of hE2 ?_;rintro _ hh ⟨rfl,rfl⟩)) | (with_reducible refine And.intro ?_ ?_; · omega) | simp -dsimp -implicitDefEqProofs (disch:=omega) only [↓Q1 19,VCA,Nat.reduceEqDiff,↓reduceIte,Y8,Z0,SOp.rd,SI.rd,SX.rd,rdL,J1])
   all_goals first | (exfalso;omega) | exact ⟨_,Sub.refl _,EdR.bad eE (by decide)⟩ | trace_state
theorem Ed.add {h0 h h2:Q2} {re rN rN':Nat} {d:HDoc} {sl:Nat->AVal} {made made':Int} (E:Ed h0 h re rN d sl made) {x:HNode} {a':AVal} (hk:x.kids=[])
 (hN:h2 rN'=some ⟨.t 31,6,QZ d sl++[rowA x a' .emp]⟩) (hre:h2 re=some ⟨.t 95,3,[[.osl rN' 6 0 (d.nodes.length+1),.bool d.quirks,Q3 made']]⟩)
 (kp:∀ r o,h r=some o->r≠rN->r≠re->h2 r=some o) (O:OwnS h2 72 2 (x.attrs.map Y0) a') (M:Mut a') (fr:∀ r,Q9 a'=some r->h r=none/\r≠rN') (fN:rN'=rN\/h rN'=none) :
 Ed h0 h2 re rN' (UX d x) (upd (upd sl (2*d.nodes.length) a') (2*d.nodes.length+1) .emp) made':=by
 have hold:∀ k,k<2*d.nodes.length->upd (upd sl (2*d.nodes.length) a') (2*d.nodes.length+1) .emp k=sl k:=fun k hk=>by rw [Q4 _ _ (by omega),Q4 _ _ (by omega)]
 have hnew:upd (upd sl (2*d.nodes.length) a') (2*d.nodes.length+1) .emp (2*d.nodes.length)=a':=by rw [Q4 _ _ (by omega),Q5]
 have hnew2:upd (upd sl (2*d.nodes.length) a') (2*d.nodes.length+1) AVal.emp (2*d.nodes.length+1)=.emp:=Q5 _ _ _
 have some_ne:∀ r o,h r=some o->r≠rN->r≠rN':=fun r o ho hne e=>by
  rcases fN with h1 | h1
  ·exact hne (e.trans h1)
  ·rw [e,h1] at ho;cases ho
 have ren:re≠rN':=some_ne re _ E.ed E.ne
 generalize hs:upd (upd sl (2*d.nodes.length) a') (2*d.nodes.length+1) .emp=sl' at *
 have rws:QZ (UX d x) sl'=QZ d sl++[rowA x a' .emp]:=by rw [<-hs];exact rowsA_add
 have fa:∀ r,Q9 a'=some r->h0 r=none/\r≠rN'/\r≠re:=fun r hr=>⟨E.dw.sub.none (fr r hr).1,(fr r hr).2,fun e=>by have:=(fr r hr).1;rw [e,E.ed] at this;cases this⟩
 have ks:∀ k,k<2*(d.nodes.length+1)->k<2*d.nodes.length\/k=2*d.nodes.length\/k=2*d.nodes.length+1:=fun k hk=>by omega
 refine ⟨⟨fun t o ht=>?_,by rw [hN,rws],⟨?_,by simp only [List.mem_singleton];exact fun e=>ren e.symm⟩,fun i hi=>?_,fun k hk' r hr=>?_,fun j k hj hk' hne r hr=>?_,fun r hr=>?_⟩,by rw [ZW];exact hre,E.new,fun k hk'=>?_⟩
 ·refine kp t o (E.dw.sub t o ht) (fun e=>by rw [e,E.dw.new.1] at ht;cases ht) (fun e=>by rw [e,E.new] at ht;cases ht)
 ·rcases fN with h1 | h1
  ·rw [h1];exact E.dw.new.1
  ·exact E.dw.sub.none h1
 ·rw [ZW] at hi
  by_cases hl:i<d.nodes.length
  ·have e1:nth (UX d x).nodes i=nth d.nodes i:=by
    unfold UX nth;rw [List.getD_eq_getElem?_getD,List.getD_eq_getElem?_getD,List.getElem?_append_left hl]
   rw [e1,hold _ (by omega),hold _ (by omega)]
   obtain ⟨g1,g2⟩:=E.dw.own i hl
   exact ⟨g1.keep fun r o hr ho=>kp r o ho (E.root_ne (by omega) hr).1 (E.root_ne (by omega) hr).2,g2.keep fun r o hr ho=>kp r o ho (E.root_ne (by omega) hr).1 (E.root_ne (by omega) hr).2⟩
  ·have e0:i=d.nodes.length:=by omega
   subst e0
   have e1:nth (UX d x).nodes d.nodes.length=x:=by unfold UX nth;rw [List.getD_eq_getElem?_getD];simp
   rw [e1,hnew,hnew2,hk]
   exact ⟨O,.inl ⟨rfl,rfl⟩⟩
 ·rw [ZW] at hk'
  simp only [List.mem_singleton]
  rcases ks k hk' with h1 | h1 | h1
  ·rw [hold k h1] at hr
   have:=E.dw.fresh k h1 r hr
   obtain ⟨o,ho⟩:=E.dw.slot h1 hr
   exact ⟨this.1,some_ne r o ho this.2.1,fun e=>this.2.2 (by simp [e])⟩
  ·rw [h1,hnew] at hr;exact fa r hr
  ·rw [h1,hnew2] at hr;cases hr
 ·rw [ZW] at hj hk'
  rcases ks j hj with h1 | h1 | h1
  ·rw [hold j h1] at hr
   rcases ks k hk' with h2 | h2 | h2
   ·rw [hold k h2];exact E.dw.sep j k h1 h2 hne r hr
   ·rw [h2,hnew];intro h3
    obtain ⟨o,ho⟩:=E.dw.slot h1 hr
    have:=(fr r h3).1;rw [ho] at this;cases this
   ·rw [h2,hnew2];intro h3;cases h3
  ·rw [h1,hnew] at hr
   rcases ks k hk' with h2 | h2 | h2
   ·rw [hold k h2];intro h3
    obtain ⟨o,ho⟩:=E.dw.slot h2 h3
    have:=(fr r hr).1;rw [ho] at this;cases this
   ·omega
   ·rw [h2,hnew2];intro h3;cases h3
  ·rw [h1,hnew2] at hr;cases hr
 ·simp only [List.mem_singleton] at hr
  exact ⟨_,by rw [hr];exact hre⟩
 ·rw [ZW] at hk'
  rcases ks k hk' with h1 | h1 | h1
  ·rw [hold k h1];exact E.live k h1
  ·rw [h1,hnew];exact M
  ·rw [h1,hnew2];exact fun es e=>by cases e
def c96:SFun:=⟨.seq (.reg [o 3 (.boxF 33 12 (.t 1)),o 4 (.mv (.c (.int .i64 0)))]) (.seq (.reg [o 7 (.fldA 6 (.t 3)),o 8 (.ld 6 true (.t 7)),o 5 (.new 31 6 [.int .i64 0,.str [],.emp,.str [],.int .i64 0,.emp]),⟨none,.st 6 (.t 5) (.t 8),none⟩]) (.seq (.block 0 (.seq (.reg [o 10 (.fldA 5 (.t 5)),o 11 (.ld 1 false (.t 10)),o 12 (.len (.t 11)),o 13 (.bin .gtr (.t 12) (.c (.int .i64 0))),o 9 (.mv (.t 13))]) (.cond (.t 9) (.seq (.reg [o 4 (.mv (.c (.int .i64 3)))]) .ret) (.seq (.reg [o 15 (.fldA 0 (.t 5)),o 16 (.ld 1 false (.t 15)),o 17 (.bin .eql (.t 16) (.c (.int .i64 1))),o 14 (.mv (.t 17))]) (.cond (.t 14) (.seq (.reg [o 4 (.mv (.c (.int .i64 7)))]) .ret) .skip))))) (.seq (.seq (.reg [o 18 (.ld 6 true (.t 5)),o 19 (.pcall 70 [.t 18]),o 6 (.mv (.t 19))]) (.seq (.reg [o 20 (.mv (.t 6)),o 21 (.bin .neq (.t 20) (.c (.int .i64 0)))]) (.cond (.t 21) (.seq (.reg [o 22 (.mv (.t 6)),o 4 (.mv (.t 22))]) .ret) .skip))) (.seq (.seq (.reg [o 23 (.mv (.t 0)),o 24 (.fldA 0 (.t 23)),o 25 (.fldA 0 (.t 24)),o 26 (.fldA 0 (.t 25)),o 27 (.ld 1 false (.t 26)),o 28 (.len (.t 27)),o 29 (.bin .eql (.t 28) (.c (.int .i64 200)))]) (.cond (.t 29) (.seq (.reg [o 4 (.mv (.c (.int .i64 2)))]) .ret) .skip)) (.seq (.reg [o 30 (.mv (.t 0)),o 31 (.mv (.t 0)),o 32 (.fldA 0 (.t 31)),o 33 (.fldA 0 (.t 32)),o 34 (.fldA 0 (.t 33)),o 35 (.ld 1 false (.t 34)),o 36 (.len (.t 35)),o 37 (.fldA 0 (.t 30)),o 38 (.fldA 2 (.t 37)),⟨none,.st 1 (.t 38) (.t 36),none⟩]) (.seq (.dreg [(o 39 (.mv (.t 0)),none),(o 40 (.mv (.t 0)),none),(o 41 (.fldA 0 (.t 40)),none),(o 42 (.fldA 0 (.t 41)),none),(o 43 (.fldA 0 (.t 42)),none),(o 44 (.ld 1 false (.t 43)),none),(o 45 (.fldA 0 (.t 5)),none),(o 46 (.ld 1 false (.t 45)),none),(o 47 (.fldA 1 (.t 5)),none),(o 48 (.ld 1 false (.t 47)),none),(o 49 (.fldA 2 (.t 5)),none),(o 50 (.ld 1 false (.t 49)),none),(o 52 (.fldA 3 (.t 5)),none),(o 53 (.ld 1 false (.t 52)),none),(o 51 (.call (.c (.fn 74 [] [])) [.t 50]),(some [50])),(o 54 (.bld [.int .i64 0,.str [],.emp,.str [],.int .i64 0,.emp] [(0,(1,(.t 46))),(1,(1,(.t 48))),(2,(1,(.t 51))),(3,(1,(.t 53))),(4,(1,(.c (.int .i64 (-1)))))]),none),(o 55 (.bldF 31 6 [.t 54]),none),(o 56 (.app 31 6 96 (.t 44) (.t 55)),(some [44,46,48,53,50])),(o 57 (.fldA 0 (.t 39)),none),(o 58 (.fldA 0 (.t 57)),none),(o 59 (.fldA 0 (.t 58)),none),(⟨none,.st 1 (.t 59) (.t 56),none⟩,(some [44,46,48,53,50]))]) (.seq (.reg [o 4 (.mv (.c (.int .i64 0)))]) .ret))))))),[.tmp 4]⟩
theorem hc96:Y3 Tryz.prog {pure:=[70]} Tryz.f96=some c96:=by kernel_rfl
theorem emake_ok {h0 h:Q2} {re rN:Nat} {d:HDoc} {sl:Nat->AVal} {made:Int} (E:Ed h0 h re rN d sl made) (hl200:d.nodes.length<=200) (e:HEdit) (he:EditSm e) (hdo:e.do'=4):DCalls (Pg G) 96 [.vp re 0,.agg (Z4 e)] h (EdR h0 h re d e made):=by
 have gN:=E.dw.nodes
 have gE:=E.ed
 have ner:=E.ne
 have hO:=one_ok' (G:=G) e.node he.node
 unfold Q7 at hO
 have eE:V4 d e=if e.node.kids≠[] then 3 else if e.node.kind=1 then 7 else if V8 e.node≠0 then V8 e.node else if d.nodes.length=200 then 2 else 0:=by unfold V4;rw [if_neg (by omega),if_neg (by omega),if_neg (by omega),if_pos hdo]
 have eD:J6 d e=UX d (madeM e.node):=by unfold J6;rw [if_neg (by omega),if_neg (by omega),if_neg (by omega),if_pos hdo]
 have hm4:(d.nodes.length:Int)=if e.do'=4 then (d.nodes.length:Int) else made:=by rw [if_pos hdo]
 have rl:=QK d sl
 refine Q0 Tryz.func96 (by kernel_rfl) hc96 (by rw [Tryz.ntmps96];simp) (by rw [Tryz.ntmps96];decide) ?_
 simp -dsimp -implicitDefEqProofs (disch:=omega) only [VCA,Nat.reduceEqDiff,Nat.reduceAdd,Nat.reduceLT,↓reduceIte,Z8,exists_eq_left',c96,Z4]
 intro r5 hr5
 have n5:¬ re=r5:=fun h=>by rw [<-h,gE] at hr5;cases hr5
 have n5N:¬ rN=r5:=fun h=>by rw [<-h,gN] at hr5;cases hr5
 have n5':¬ r5=re:=fun h=>n5 h.symm
 have n5N':¬ r5=rN:=fun h=>n5N h.symm
 have ner':¬ rN=re:=fun h=>ner h.symm
 have S5:∀ x,Sim.Sub h (upd h r5 (some x)):=fun x=>(Sub.refl h).upd hr5
 by_cases hk:e.node.kids=[]
 ·have hk0:¬ 0<e.node.kids.length:=by rw [hk];simp
  rw [if_neg (by simpa using hk)] at eE
  by_cases hk1:e.node.kind=1
  ·rw [if_pos hk1] at eE
   repeat' (first | ((with_reducible refine brC (fun _=>?_) fun _=>?_) <;> try (exfalso;omega)) | (with_reducible refine And.intro ?_ ?_; · omega) | simp -dsimp -implicitDefEqProofs (disch:=omega) only [VCA,Nat.reduceEqDiff,Nat.reduceAdd,Nat.reduceLT,Nat.reduceLeDiff,↓reduceIte,exists_eq_left'])
   all_goals first | (exfalso;omega) | exact ⟨_,S5 _,EdR.bad eE (by decide)⟩
  ·rw [if_neg hk1] at eE
   by_cases hz:V8 e.node=0
   ·rw [if_neg (by simpa using hz)] at eE
    rw [hz] at hO
    by_cases h200:d.nodes.length=200
    ·rw [if_pos h200] at eE
     repeat' (first | ((with_reducible refine brC (fun _=>?_) fun _=>?_) <;> try (exfalso;omega)) | (with_reducible apply pcallE.of; · exact hO) | (with_reducible refine And.intro ?_ ?_; · omega) | simp -dsimp -implicitDefEqProofs (disch:=omega) only [VCA,Nat.reduceEqDiff,Nat.reduceAdd,Nat.reduceLT,Nat.reduceLeDiff,↓reduceIte,reduceCtorEq,exists_eq_left',n5,gE])
     all_goals first | (exfalso;omega) | exact ⟨_,S5 _,EdR.bad eE (by decide)⟩
    ·rw [if_neg h200] at eE
     have hC:=fun (hp:Q2)=>cloneA_own (G:=G) (h:=hp) e.node.attrs he.node.attrs
     repeat' (first | ((with_reducible refine brC (fun _=>?_) fun _=>?_) <;> try (exfalso;omega)) | (with_reducible apply pcallE.of; · exact hO) | (with_reducible refine And.intro ?_ ?_; · omega) | simp -dsimp -implicitDefEqProofs (disch:=omega) only [VCA,Nat.reduceEqDiff,Nat.reduceAdd,Nat.reduceLT,Nat.reduceLeDiff,↓reduceIte,reduceCtorEq,Y8,Z0,Z8,exists_eq_left',J1,n5,n5',gE])
     all_goals try (exfalso;omega)
     refine DCalls.of (hC _) ?_
     rintro a h9 ⟨A9,S9⟩
     have gE9:=S9 re _ (Q5 _ _ _)
     have gN9:=S9 rN ⟨31,6,QZ d sl⟩ (by simp [upd,ner',n5N,gN])
     have g59:=S9 r5 ⟨31,6,[[Q3 e.node.kind,.str e.node.name,Sim.sl Y0 e.node.attrs,.str e.node.text,Q3 e.node.parent,Sim.sl Z6 e.node.kids]]⟩ (by simp [upd,n5'])
     obtain ⟨O9,f9,M9⟩:=OwnS.of_acc A9
     obtain ⟨v9,c9⟩:=O9.isV
     repeat' (first | ((with_reducible refine brC (fun _=>?_) fun _=>?_) <;> try (exfalso;omega)) | (with_reducible refine And.intro ?_ ?_; · omega) | simp -dsimp -implicitDefEqProofs (disch:=omega) only [VCA,Nat.reduceEqDiff,Nat.reduceBEq,Nat.reduceAdd,Nat.reduceLeDiff,↓reduceIte,Y8,Z0,SOp.rd,SI.rd,SX.rd,rdL,Z7,K8,X3,Z8,implies_true,forall_eq,exists_eq_left,exists_eq_left',J1,n5',gE9,gN9,g59,v9,c9])
     intro r' hr'
     have fr':r'=rN\/h9 r'=none:=by
      unfold del at hr'
      split at hr'
      ·rename_i h1;exact .inl h1
      ·exact .inr hr'
     have nre:¬ re=r':=fun h1=>by
      rcases fr' with h2 | h2
      ·exact ner (h1.trans h2)
      ·rw [<-h1,gE9] at h2;cases h2
     have nre':¬ r'=re:=fun h1=>nre h1.symm
     have dE:del h9 rN re=some ⟨.t 95,3,[[.osl rN 6 0 d.nodes.length,.bool d.quirks,Q3 d.nodes.length]]⟩:=by
      unfold del;rw [if_neg ner,gE9]
     repeat' (first | ((with_reducible refine brC (fun _=>?_) fun _=>?_) <;> try (exfalso;omega)) | (with_reducible refine And.intro ?_ ?_; · omega) | simp -dsimp -implicitDefEqProofs (disch:=omega) only [VCA,Nat.reduceAdd,Nat.reduceLT,Nat.reduceLeDiff,↓reduceIte,exists_eq_left',nre,dE])
     have X0:∀ (x y:AObj) t,upd (upd h r5 (some x)) re (some y) t=none->h t=none/\t≠re/\t≠r5:=fun x y t ht=>by
      unfold upd at ht
      split at ht
      ·cases ht
      ·rename_i h1
       split at ht
       ·cases ht
       ·rename_i h2;exact ⟨ht,h1,h2⟩
     have ra:∀ t,Q9 a=some t->h t=none/\t≠re/\t≠r5/\t≠rN/\t≠r':=fun t ht=>by
      obtain ⟨x1,x2,x3⟩:=X0 _ _ t (f9 t ht)
      refine ⟨x1,x2,x3,(fun e=>by rw [e,gN] at x1;cases x1),fun e=>?_⟩
      rcases fr' with h2 | h2
      ·rw [e,h2,gN] at x1;cases x1
      ·obtain ⟨o,ho⟩:=O9.root ht
       rw [e,h2] at ho;cases ho
     refine ⟨_,Sub.refl _,EdR.good eE hm4 (by
      rw [eD]
      refine E.add (rN':=r') (a':=a) (x:=madeM e.node) rfl ?_ ?_ (fun t o ho h1 h2=>?_) (O9.keep fun t o ht ho=>?_) M9 (fun t ht=>⟨(ra t ht).1,(ra t ht).2.2.2.2⟩) ?_
      ·rw [Q4 _ _ nre',Q5,List.take_of_length_le (by rw [rl];exact Nat.le_refl _)];rfl
      ·exact Q5 _ _ _
      ·have h5:t≠r5:=fun e=>by rw [e,hr5] at ho;cases ho
       have h9t:=S9 t o (by rw [Q4 _ _ h2,Q4 _ _ h5];exact ho)
       rw [Q4 _ _ h2,Q4 _ _ (fun e=>by
        rcases fr' with h3 | h3
        ·exact h1 (e.trans h3)
        ·rw [e,h3] at h9t;cases h9t)]
       unfold del;rw [if_neg h1];exact h9t
      ·obtain ⟨y1,y2,y3,y4,y5⟩:=ra t ht
       rw [Q4 _ _ y2,Q4 _ _ y5]
       unfold del;rw [if_neg y4];exact ho
      ·rcases fr' with h2 | h2
       ·exact .inl h2
       ·exact .inr (X0 _ _ r' (S9.none h2)).1)⟩
   ·rw [if_pos hz] at eE
    repeat' (first | ((with_reducible refine brC (fun _=>?_) fun _=>?_) <;> try (exfalso;omega)) | (with_reducible apply pcallE.of; · exact hO) | (with_reducible refine And.intro ?_ ?_; · omega) | simp -dsimp -implicitDefEqProofs (disch:=omega) only [VCA,Nat.reduceEqDiff,Nat.reduceAdd,Nat.reduceLT,Nat.reduceLeDiff,↓reduceIte,exists_eq_left'])
    all_goals first | (exfalso;omega) | exact ⟨_,S5 _,EdR.bad eE hz⟩
 ·have hk0:0<e.node.kids.length:=List.length_pos_iff.2 hk
  rw [if_pos hk] at eE
  repeat' (first | ((with_reducible refine brC (fun _=>?_) fun _=>?_) <;> try (exfalso;omega)) | (with_reducible refine And.intro ?_ ?_; · omega) | simp -dsimp -implicitDefEqProofs (disch:=omega) only [VCA,↓reduceIte])
  all_goals first | (exfalso;omega) | exact ⟨_,S5 _,EdR.bad eE (by decide)⟩
def doesF (re:Nat) (n:Int):AVal:=
 if n=1 then .fn 93 [.vp re 0] [] else if n=2 then .fn 94 [.vp re 0] [] else if n=3 then .fn 95 [.vp re 0] []
 else if n=4 then .fn 96 [.vp re 0] [] else if n=5 then .fn 97 [.vp re 0] [] else if n=6 then .fn 98 [.vp re 0] [] else .prim .nilFunc
def c75:SFun:=⟨.seq (.reg [o 4 (.mv (.c (.prim .nilFunc)))]) (.seq (.seq (.reg [o 5 (.mv (.t 1))]) (.block 0 (.seq (.reg [o 7 (.bin .eql (.t 5) (.c (.int .i64 1))),o 6 (.mv (.t 7))]) (.cond (.t 6) (.seq (.reg [o 8 (.mv (.t 0)),o 9 (.mkf 93 [.t 8] []),o 4 (.mv (.t 9))]) .ret) (.seq (.reg [o 11 (.bin .eql (.t 5) (.c (.int .i64 2))),o 10 (.mv (.t 11))]) (.cond (.t 10) (.seq (.reg [o 12 (.mv (.t 0)),o 13 (.mkf 94 [.t 12] []),o 4 (.mv (.t 13))]) .ret) (.seq (.reg [o 15 (.bin .eql (.t 5) (.c (.int .i64 3))),o 14 (.mv (.t 15))]) (.cond (.t 14) (.seq (.reg [o 16 (.mv (.t 0)),o 17 (.mkf 95 [.t 16] []),o 4 (.mv (.t 17))]) .ret) (.seq (.reg [o 19 (.bin .eql (.t 5) (.c (.int .i64 4))),o 18 (.mv (.t 19))]) (.cond (.t 18) (.seq (.reg [o 20 (.mv (.t 0)),o 21 (.mkf 96 [.t 20] []),o 4 (.mv (.t 21))]) .ret) (.seq (.reg [o 23 (.bin .eql (.t 5) (.c (.int .i64 5))),o 22 (.mv (.t 23))]) (.cond (.t 22) (.seq (.reg [o 24 (.mv (.t 0)),o 25 (.mkf 97 [.t 24] []),o 4 (.mv (.t 25))]) .ret) (.seq (.reg [o 27 (.bin .eql (.t 5) (.c (.int .i64 6))),o 26 (.mv (.t 27))]) (.cond (.t 26) (.seq (.reg [o 28 (.mv (.t 0)),o 29 (.mkf 98 [.t 28] []),o 4 (.mv (.t 29))]) .ret) .skip)))))))))))))) (.seq (.reg [o 4 (.mv (.c (.prim .nilFunc)))]) .ret)),[.tmp 4]⟩
theorem hc75:Y3 Tryz.prog {} Tryz.f75=some c75:=by kernel_rfl
theorem edoes_ok (h:Q2) (re:Nat) (n:Int):DCalls (Pg G) 75 [.vp re 0,Q3 n] h fun r h'=>r=doesF re n/\h'=h:=by
 refine Q0 Tryz.func75 (by kernel_rfl) hc75 (by rw [Tryz.ntmps75];simp) (by rw [Tryz.ntmps75];decide) ?_
 simp -dsimp -implicitDefEqProofs (disch:=omega) only [VCA,Nat.reduceEqDiff,↓reduceIte,c75]
 unfold doesF
 repeat' (first | ((with_reducible refine brC (fun _=>?_) fun _=>?_) <;> try (exfalso;omega)) | (with_reducible refine And.intro ?_ ?_; · omega) | simp -dsimp -implicitDefEqProofs (disch:=omega) only [VCA,Nat.reduceEqDiff,↓reduceIte,reduceCtorEq,exists_eq_right_right])
 all_goals first
  | (refine ⟨Sub.refl _,?_⟩;simp_all;done)
  | (simp_all;done)
def c49:SFun:=⟨.seq (.reg [o 3 (.boxF 33 12 (.t 1)),o 4 (.mv (.c (.int .i64 0)))]) (.seq (.reg [o 6 (.mv (.t 0)),o 7 (.fldA 0 (.t 3)),o 8 (.ld 1 false (.t 7)),o 9 (.call (.c (.fn 75 [] [])) [.t 6,.t 8]),o 5 (.mv (.t 9))]) (.seq (.seq (.reg [o 10 (.mv (.t 5)),o 11 (.isnil 2 false (.t 10))]) (.cond (.t 11) (.seq (.reg [o 4 (.mv (.c (.int .i64 1)))]) .ret) .skip)) (.seq (.reg [o 12 (.mv (.t 5)),o 13 (.ld 12 true (.t 3)),o 14 (.call (.t 12) [.t 13]),o 4 (.mv (.t 14))]) .ret))),[.tmp 4]⟩
theorem hc49:Y3 Tryz.prog {} Tryz.f49=some c49:=by kernel_rfl
theorem eedit_ok {h0 h:Q2} {re rN:Nat} {d:HDoc} {sl:Nat->AVal} {made:Int} (E:Ed h0 h re rN d sl made) (V:DV d) (sm:DocSm d) (e:HEdit) (he:EditSm e):DCalls (Pg G) 49 [.vp re 0,.agg (Z4 e)] h (EdR h0 h re d e made):=by
 have hD:=edoes_ok (G:=G) h re e.do'
 have a12:∀ n,inD d n->(nd d n).attrs.length<=12:=fun n hn=>((ZZ _).1 ((W5 _).1 (V.node n hn)).2.2.2.1).1
 have key:∀ f,DCalls (Pg G) f [.vp re 0,.agg (Z4 e)] h (EdR h0 h re d e made)->doesF re e.do'=.fn f [.vp re 0] []->DCalls (Pg G) 49 [.vp re 0,.agg (Z4 e)] h (EdR h0 h re d e made):=fun f hf hd=>by
  rw [hd] at hD
  unfold Z4 at hf
  refine Q0 Tryz.func49 (by kernel_rfl) hc49 (by rw [Tryz.ntmps49];simp) (by rw [Tryz.ntmps49];decide) ?_
  simp -dsimp -implicitDefEqProofs (disch:=omega) only [VCA,Nat.reduceEqDiff,Nat.reduceAdd,Nat.reduceLeDiff,↓reduceIte,reduceCtorEq,c49,Z4]
  refine DCalls.of hD ?_
  rintro _ _ ⟨rfl,rfl⟩
  simp -dsimp -implicitDefEqProofs (disch:=omega) only [VCA,Nat.reduceEqDiff,Nat.reduceAdd,↓reduceIte]
  refine DCalls.of hf ?_
  intro r h9 hr
  simp -dsimp -implicitDefEqProofs (disch:=omega) only [VCA,↓reduceIte]
  exact ⟨_,Sub.refl _,hr⟩
 by_cases h1:e.do'=1
 ·exact key _ (eattr_ok E sm a12 e he h1) (by unfold doesF;rw [if_pos h1])
 by_cases h2:e.do'=2
 ·exact key _ (edrop_ok E sm e he h2) (by unfold doesF;rw [if_neg h1,if_pos h2])
 by_cases h3:e.do'=3
 ·exact key _ (etext_ok E e he h3) (by unfold doesF;rw [if_neg h1,if_neg h2,if_pos h3])
 by_cases h4:e.do'=4
 ·exact key _ (emake_ok E V.len e he h4) (by unfold doesF;rw [if_neg h1,if_neg h2,if_neg h3,if_pos h4])
 by_cases h5:e.do'=5
 ·exact key _ (einsert_ok E V sm e he h5) (by unfold doesF;rw [if_neg h1,if_neg h2,if_neg h3,if_neg h4,if_pos h5])
 by_cases h6:e.do'=6
 ·exact key _ (eremove_ok E V sm e he h6) (by unfold doesF;rw [if_neg h1,if_neg h2,if_neg h3,if_neg h4,if_neg h5,if_pos h6])
 have hd:doesF re e.do'=.prim .nilFunc:=by unfold doesF;rw [if_neg h1,if_neg h2,if_neg h3,if_neg h4,if_neg h5,if_neg h6]
 have eE:V4 d e=1:=by unfold V4;rw [if_neg h1,if_neg h2,if_neg h3,if_neg h4,if_neg h5,if_neg h6]
 rw [hd] at hD
 refine Q0 Tryz.func49 (by kernel_rfl) hc49 (by rw [Tryz.ntmps49];simp) (by rw [Tryz.ntmps49];decide) ?_
 simp -dsimp -implicitDefEqProofs (disch:=omega) only [VCA,Nat.reduceEqDiff,Nat.reduceAdd,Nat.reduceLeDiff,↓reduceIte,reduceCtorEq,c49,Z4]
 refine DCalls.of hD ?_
 rintro _ _ ⟨rfl,rfl⟩
 simp -dsimp -implicitDefEqProofs (disch:=omega) only [VCA,↓reduceIte]
 all_goals exact ⟨_,Sub.refl _,EdR.bad eE (by decide)⟩
theorem eDoc_len (d:HDoc):(Q8 d).length=2:=rfl
theorem KT (d:HDoc):(Q8 d).take 2=Q8 d:=rfl
theorem docE_DV {d:HDoc} (h:YU d=0):DV d:=(WY d).1 h
def JU:HDoc:=⟨[],false⟩
def K3 (d:HDoc) (e:HEdit):Int:=if YU d≠0 then YU d else V4 d e
def V7 (d:HDoc) (e:HEdit):HDoc:=if K3 d e=0 then J6 d e else JU
def UK (d:HDoc) (e:HEdit):Int:=if K3 d e=0 then editN d e else 0
theorem Ed.begin {h h1:Q2} {rN re:Nat} {d:HDoc} {sl:Nat->AVal} (E:Dw [] h h1 rN d sl) (M:∀ k,k<2*d.nodes.length->Mut (sl k)) (hr:h1 re=none) :
 Ed h (upd h1 re (some ⟨.t 95,3,[[.osl rN 6 0 d.nodes.length,.bool d.quirks,Q3 0]]⟩)) re rN d sl 0:=⟨E.more hr _,Q5 _ _ _,E.sub.none hr,M⟩
theorem vw_noDoc (h:Q2):Vw h (.agg [.emp,.bool false]) (.agg (Q8 JU)):=Vw.agg' (.cons .emp (.cons (.refl _) .nil))
theorem editN_made (d:HDoc) (e:HEdit):(if e.do'=4 then (d.nodes.length:Int) else 0)=editN d e:=rfl
def c23:SFun:=⟨.seq (.reg [o 2 (.boxF 24 2 (.t 0)),o 3 (.boxF 33 12 (.t 1)),o 4 (.new 24 2 [.emp,.bool false]),o 5 (.mv (.c (.int .i64 0))),o 6 (.mv (.c (.int .i64 0)))]) (.seq (.seq (.reg [o 10 (.ld 2 true (.t 2)),o 11 (.pcall 41 [.t 10]),o 7 (.mv (.t 11))]) (.seq (.reg [o 12 (.mv (.t 7)),o 13 (.bin .neq (.t 12) (.c (.int .i64 0)))]) (.cond (.t 13) (.seq (.reg [o 14 (.bld [.emp,.bool false] []),o 15 (.mv (.t 7)),⟨none,.st 2 (.t 4) (.t 14),none⟩,o 5 (.mv (.c (.int .i64 0))),o 6 (.mv (.t 15))]) .ret) .skip))) (.seq (.reg [o 16 (.ld 2 true (.t 2)),o 17 (.call (.c (.fn 48 [] [])) [.t 16]),o 18 (.bld [.emp,.bool false,.int .i64 0] [(0,(2,(.t 17)))]),o 19 (.box 95 3 (.t 18)),o 8 (.mv (.t 19))]) (.seq (.seq (.reg [o 20 (.mv (.t 8)),o 21 (.ld 12 true (.t 3)),o 22 (.call (.c (.fn 49 [] [])) [.t 20,.t 21]),o 9 (.mv (.t 22))]) (.seq (.reg [o 23 (.mv (.t 9)),o 24 (.bin .neq (.t 23) (.c (.int .i64 0)))]) (.cond (.t 24) (.seq (.reg [o 25 (.bld [.emp,.bool false] []),o 26 (.mv (.t 9)),⟨none,.st 2 (.t 4) (.t 25),none⟩,o 5 (.mv (.c (.int .i64 0))),o 6 (.mv (.t 26))]) .ret) .skip))) (.seq (.dreg [(o 27 (.mv (.t 8)),none),(o 28 (.fldA 0 (.t 27)),none),(o 29 (.fldA 0 (.t 28)),none),(o 30 (.ld 2 true (.t 29)),none),(o 31 (.mv (.t 8)),none),(o 32 (.fldA 0 (.t 31)),none),(o 33 (.fldA 2 (.t 32)),none),(o 34 (.ld 1 false (.t 33)),none),(⟨none,.st 2 (.t 4) (.t 30),none⟩,(some [30])),(o 5 (.mv (.t 34)),none),(o 6 (.mv (.c (.int .i64 0))),none)]) .ret)))),[.cell 4 2 true,.tmp 5,.tmp 6]⟩
theorem hc23:Y3 Tryz.prog {pure:=[41],how:=[(19,6)]} Tryz.f23=some c23:=by kernel_rfl
theorem apply_ok (d:HDoc) (sm:DocSm d) (e:HEdit) (he:EditSm e):PCalls (Pg G) 23 [.agg (Q8 d),.agg (Z4 e)] (.tup [.agg (Q8 (V7 d e)),Q3 (UK d e),Q3 (K3 d e)]):=PCalls.outV fun h=>by
 have hC:=check_ok (G:=G) d sm
 refine Q0 Tryz.func23 (by kernel_rfl) hc23 (by rw [Tryz.ntmps23];simp) (by rw [Tryz.ntmps23];decide) ?_
 simp -dsimp -implicitDefEqProofs (disch:=omega) only [VCA,Nat.reduceEqDiff,Nat.reduceAdd,↓reduceIte,c23,eDoc_len,KT,Z4]
 intro r4 hr4
 have S4:∀ x,Sim.Sub h (upd h r4 (some x)):=fun x=>(Sub.refl h).upd hr4
 by_cases h1:YU d=0
 ·have V:=docE_DV h1
  have hp:=V.pos
  rw [h1] at hC
  have aE:K3 d e=V4 d e:=by unfold K3;rw [if_neg (by simpa using h1)]
  have hOwn:=fun hp=>own_ok' (G:=G) d sm V.pos hp
  repeat' (first | ((with_reducible refine brC (fun _=>?_) fun _=>?_) <;> try (exfalso;omega)) | (with_reducible apply pcallE.of; · exact hC) | (with_reducible refine And.intro ?_ ?_; · omega) | simp -dsimp -implicitDefEqProofs (disch:=omega) only [VCA,Nat.reduceEqDiff,↓reduceIte,eDoc_len,KT])
  refine DCalls.of (hOwn _) ?_
  rintro a h2 ⟨rN,sl,rfl,Dw1,M1⟩
  have g4:=Dw1.sub r4 _ (Q5 _ _ _)
  simp -dsimp -implicitDefEqProofs (disch:=omega) only [VCA,Nat.reduceEqDiff,Nat.reduceAdd,Nat.reduceLeDiff,↓reduceIte,K8,X3]
  intro re hre
  have n4:¬ r4=re:=fun h=>by rw [<-h,g4] at hre;cases hre
  have n4':¬ re=r4:=fun h=>n4 h.symm
  have E:=Ed.begin Dw1 M1 hre
  have hEd:=eedit_ok (G:=G) E V sm e he
  unfold Z4 at hEd
  refine DCalls.of hEd ?_
  rintro a h3 ⟨rfl,hR⟩
  rcases hR with ⟨hne,rfl⟩ | ⟨hz,rN',sl',E3⟩
  ·rw [<-aE] at hne
   have aD:V7 d e=JU:=by unfold V7;rw [if_neg hne]
   have aN:UK d e=0:=by unfold UK;rw [if_neg hne]
   rw [aD,aN,<-aE]
   repeat' (first | ((with_reducible refine brC (fun _=>?_) fun _=>?_) <;> try (exfalso;omega)) | (with_reducible refine And.intro ?_ ?_; · omega) | simp -dsimp -implicitDefEqProofs (disch:=omega) only [VCA,Nat.reduceEqDiff,Nat.reduceAdd,Nat.reduceLT,↓reduceIte,K8,X3,Z8,exists_eq_left',n4,g4])
   all_goals try (exfalso;omega)
   have Sh:=(S4 _).trans Dw1.sub
   exact ⟨_,Sub.refl _,(Sh.upd (Sh.none hre)).upd hr4,.tup' (.cons (vw_noDoc _) (.cons (.refl _) (.cons (.refl _) .nil)))⟩
  ·rw [<-aE] at hz
   have aD:V7 d e=J6 d e:=by unfold V7;rw [if_pos hz]
   have aN:UK d e=editN d e:=by unfold UK;rw [if_pos hz]
   rw [aD,aN,hz,<-aE,hz]
   have gE3:=E3.ed
   have g43:=E3.dw.sub r4 _ (Q5 _ _ _)
   repeat' (first | ((with_reducible refine brC (fun _=>?_) fun _=>?_) <;> try (exfalso;omega)) | (with_reducible refine And.intro ?_ ?_; · omega) | simp -dsimp -implicitDefEqProofs (disch:=omega) only [VCA,Nat.reduceEqDiff,Nat.reduceBEq,Nat.reduceAdd,Nat.reduceLT,Nat.reduceLeDiff,↓reduceIte,Y8,Z0,SOp.rd,SI.rd,SX.rd,Z8,implies_true,exists_eq_left',J1,n4',gE3,g43,editN_made])
   all_goals try (exfalso;omega)
   exact ⟨_,Sub.refl _,((S4 _).trans E3.dw.sub).upd hr4,.tup' (.cons (Vw.agg' (.cons (E3.dw.beside (S4 _) (Q5 _ _ _) hr4 (by simp [n4]) _).new'.vw (.cons (.refl _) .nil))) (.cons (.refl _) (.cons (.refl _) .nil)))⟩
 ·have aE:K3 d e=YU d:=by unfold K3;rw [if_pos h1]
  have aD:V7 d e=JU:=by unfold V7;rw [aE,if_neg h1]
  have aN:UK d e=0:=by unfold UK;rw [aE,if_neg h1]
  rw [aD,aE,aN]
  repeat' (first | ((with_reducible refine brC (fun _=>?_) fun _=>?_) <;> try (exfalso;omega)) | (with_reducible apply pcallE.of; · exact hC) | (with_reducible refine And.intro ?_ ?_; · omega) | simp -dsimp -implicitDefEqProofs (disch:=omega) only [VCA,Nat.reduceEqDiff,Nat.reduceAdd,Nat.reduceLT,↓reduceIte,K8,X3,Z8,exists_eq_left'])
  exact ⟨_,Sub.refl _,S4 _,.tup' (.cons (vw_noDoc _) (.cons (.refl _) (.cons (.refl _) .nil)))⟩
end Go.Proofs.K
end
