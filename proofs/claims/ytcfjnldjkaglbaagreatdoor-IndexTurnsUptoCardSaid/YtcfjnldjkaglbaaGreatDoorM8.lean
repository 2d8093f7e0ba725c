/- Texts of this claim, one behind the other. -/
import Derived.Test.YtcfjnldjkaglbaaGreatDoorM7
import Derived.Test.YtcfjnldjkaglbaaGreatDoorM5
import Derived.Test.YtcfjnldjkaglbaaGreatDoorM6
import Derived.Test.YtcfjnldjkaglbaaGreatDoorM4
set_option maxHeartbeats 4000000
set_option maxRecDepth 100000
section
set_option linter.unusedSimpArgs false
set_option linter.unusedVariables false
namespace Go.Proofs.K
open Go Go.Sim Go.Proofs
variable {G:YZ}
def c42:SFun:=⟨.seq (.reg [o 3 (.boxF 24 2 (.t 0)),o 6 (.mv (.c .emp))]) (.seq (.reg [o 9 (.mv (.t 2)),o 10 (.mv (.t 1)),o 11 (.bldF 3 1 [.t 10]),o 12 (.app 3 1 8 (.t 9) (.t 11)),o 2 (.mv (.t 12))]) (.seq (.seq (.reg [o 13 (.fldA 0 (.t 3)),o 14 (.ld 1 false (.t 13)),o 15 (.mv (.t 1)),o 16 (.idxA 6 (.t 14) (.t 15)),o 17 (.fldA 5 (.t 16)),o 18 (.ld 1 false (.t 17)),o 19 (.len (.t 18)),o 20 (.mv (.c (.int .i64 0)))]) (.block 0 (.loop (.seq (.reg [o 21 (.bin .lss (.t 20) (.t 19))]) (.seq (.cond (.t 21) .skip (.exit 0)) (.seq (.block 1 (.seq (.reg [o 22 (.idxA 1 (.t 18) (.t 20)),o 23 (.ld 1 false (.t 22)),o 8 (.mv (.t 23))]) (.reg [o 24 (.ld 2 true (.t 3)),o 25 (.mv (.t 8)),o 26 (.mv (.t 2)),o 27 (.call (.c (.fn 42 [] [])) [.t 24,.t 25,.t 26]),o 2 (.mv (.t 27))]))) (.reg [o 28 (.bin .add (.t 20) (.c (.int .i64 1))),o 20 (.mv (.t 28))]))))))) (.seq (.reg [o 29 (.mv (.t 2)),o 6 (.mv (.t 29))]) .ret))),[.tmp 6]⟩
theorem hc42:Y3 Tryz.prog {} Tryz.f42=some c42:=by kernel_rfl
theorem walk_ok (d:HDoc) (V:DV d) (sm:DocSm d):∀ n,inD d n -> ∀ (h h1:Q2) (L:List Int) (a:AVal),Acc h 3 1 (L.map Z6) a h1->Sim.Sub h h1->L.length+(Z5 d n).length<=1000000 ->
 DCalls (Pg G) 42 [.agg (Q8 d),Q3 n,a] h1 fun r h2=>Acc h 3 1 ((L++Z5 d n).map Z6) r h2/\Sim.Sub h h2:=V.down fun n hn ih h h1 L a A S hL=>by
 have hl:=V.len
 have n0:=hn.1
 have n1:=hn.2
 have e0:nth d.nodes n.toNat=nd d n:=rfl
 have kl:=(sm.nd n).kids
 have bl:=XV V hn
 have be:=W7 V hn
 refine Q0 Tryz.func42 (by kernel_rfl) hc42 (by rw [Tryz.ntmps42];simp) (by rw [Tryz.ntmps42];decide) ?_
 simp -dsimp -implicitDefEqProofs (disch:=omega) only [VCA,Nat.reduceEqDiff,Nat.reduceAdd,↓reduceIte,Z7,forall_eq,exists_eq_left,c42,Q8]
 refine A.app S (by simp only [List.length_map,List.length_cons,List.length_nil];omega) (by simp only [List.length_map,List.length_cons,List.length_nil];omega) fun a2 h2 A2 S2=>?_
 simp -dsimp -implicitDefEqProofs (disch:=omega) only [VCA,Nat.reduceEqDiff,Nat.reduceAdd,Nat.reduceLeDiff,↓reduceIte,Q7,e0]
 refine ⟨by omega,?_⟩
 have A0:Acc h 3 1 ((L++n :: ((nd d n).kids.take 0).flatMap (Z5 d)).map Z6) a2 h2:=by simpa [Z6] using A2
 have bel:(Z5 d n).length=1+((nd d n).kids.flatMap (Z5 d)).length:=by rw [be,List.length_cons];omega
 refine LoopVC.intro (fun m e h'=>∃ k:Nat,k<=(nd d n).kids.length/\m=(nd d n).kids.length-k/\e 3=.pin (Q8 d)/\e 18=sl Z6 (nd d n).kids/\e 19=Q3 (nd d n).kids.length/\e 20=Q3 k/\Acc h 3 1 ((L++n :: ((nd d n).kids.take k).flatMap (Z5 d)).map Z6) (e 2) h'/\Sim.Sub h h') _ ⟨0,by omega,rfl,rfl,rfl,rfl,rfl,A0,S2⟩ ?_
 clear A0 A2 S2 A S
 rintro m e h' ⟨k,hk,rfl,he3,he18,he19,he20,A,S⟩
 simp -dsimp -implicitDefEqProofs (disch:=omega) only [VCA,↓reduceIte,he19,he20]
 refine Br.dec (fun hlt=>?_) (fun hge=>?_)
 ·have hk':k<(nd d n).kids.length:=by omega
  have hfl:(((nd d n).kids.take (k+1)).flatMap (Z5 d)).length<=((nd d n).kids.flatMap (Z5 d)).length:=by
   conv=>rhs;rw [<-List.take_append_drop (k+1) (nd d n).kids,List.flatMap_append,List.length_append]
   omega
  rw [X1 hk',List.flatMap_append,List.length_append] at hfl
  simp only [List.flatMap_cons,List.flatMap_nil,List.append_nil] at hfl
  have hI:=ih _ (Y7 hk') h h' (L++n :: ((nd d n).kids.take k).flatMap (Z5 d)) (e 2) A S (by rw [List.length_append,List.length_cons];omega)
  simp -dsimp -implicitDefEqProofs (disch:=omega) only [VCA,Nat.reduceEqDiff,↓reduceIte,Z6,he3,he18,he20,eDoc_len,KT]
  refine ⟨by omega,?_⟩
  refine DCalls.of hI ?_
  rintro r h3 ⟨A3,S3⟩
  have A4:Acc h 3 1 ((L++n :: ((nd d n).kids.take (k+1)).flatMap (Z5 d)).map Z6) r h3:=by
   rw [X1 hk',List.flatMap_append]
   simpa using A3
  simp -dsimp -implicitDefEqProofs (disch:=omega) only [VCA,Nat.reduceEqDiff,↓reduceIte,he3,he18,he19,he20]
  exact ⟨_,by omega,k+1,by omega,rfl,by omega,A4,S3⟩
 ·obtain rfl:k=(nd d n).kids.length:=by omega
  rw [List.take_length,<-be] at A
  simp -dsimp -implicitDefEqProofs (disch:=omega) only [VCA,Nat.reduceEqDiff,↓reduceIte]
  exact ⟨_,Sub.refl _,A,S⟩
theorem walk0_ok (d:HDoc) (V:DV d) (sm:DocSm d) (n:Int) (hn:inD d n):PCalls (Pg G) 42 [.agg (Q8 d),Q3 n,.emp] (sl Z6 (Z5 d n)):=PCalls.acc (ty:=3) (sz:=1) fun h=>
 (walk_ok (G:=G) d V sm n hn h h [] .emp .nil (Sub.refl _) (by have:=XV V hn;have:=V.len;simp;omega)).mono fun r h' hh=>by rw [List.nil_append] at hh;exact hh
def c17:SFun:=⟨.seq (.reg [o 1 (.boxF 24 2 (.t 0)),o 2 (.mv (.c .emp)),o 3 (.mv (.c (.int .i64 0)))]) (.seq (.seq (.reg [o 5 (.ld 2 true (.t 1)),o 6 (.pcall 41 [.t 5]),o 4 (.mv (.t 6))]) (.seq (.reg [o 7 (.mv (.t 4)),o 8 (.bin .neq (.t 7) (.c (.int .i64 0)))]) (.cond (.t 8) (.seq (.reg [o 9 (.mv (.t 4)),o 2 (.mv (.c .emp)),o 3 (.mv (.t 9))]) .ret) .skip))) (.seq (.reg [o 10 (.ld 2 true (.t 1)),o 11 (.pcall 42 [.t 10,.c (.int .i64 0),.c .emp]),o 2 (.mv (.t 11)),o 3 (.mv (.c (.int .i64 0)))]) .ret)),[.tmp 2,.tmp 3]⟩
theorem hc17:Y3 Tryz.prog {pure:=[41,42]} Tryz.f17=some c17:=by kernel_rfl
theorem domOrder_ok (d:HDoc) (V:DV d) (h0:YU d=0) (sm:DocSm d):PCalls (Pg G) 17 [.agg (Q8 d)] (.tup [sl Z6 (Z5 d 0),Q3 0]):=fun h=>by
 have hC:=check_ok (G:=G) d sm
 have hW:=walk0_ok (G:=G) d V sm 0 V.zero
 rw [h0] at hC
 refine Q0 Tryz.func17 (by kernel_rfl) hc17 (by rw [Tryz.ntmps17];simp) (by rw [Tryz.ntmps17];decide) ?_
 simp -dsimp -implicitDefEqProofs (disch:=omega) only [VCA,Nat.reduceEqDiff,↓reduceIte,c17,eDoc_len,KT]
 repeat' (first | ((with_reducible refine brC (fun _=>?_) fun _=>?_) <;> try (exfalso;omega)) | (with_reducible apply pcallE.of; · exact hC) | (with_reducible apply pcallE.of; · exact hW) | (with_reducible refine And.intro ?_ ?_; · omega) | simp -dsimp -implicitDefEqProofs (disch:=omega) only [VCA,Nat.reduceEqDiff,↓reduceIte,exists_eq_right,eDoc_len,KT])
 all_goals exact Sub.refl _
def orderD (d:HDoc):List Int:=if YU d=0 then Z5 d 0 else []
theorem order2_ok (d:HDoc) (sm:DocSm d):PCalls (Pg G) 17 [.agg (Q8 d)] (.tup [sl Z6 (orderD d),Q3 (YU d)]):=by
 by_cases h1:YU d=0
 ·have h:=domOrder_ok (G:=G) d (docE_DV h1) h1 sm
  unfold orderD
  rw [if_pos h1,h1]
  exact h
 ·intro h
  have hC:=check_ok (G:=G) d sm
  refine DCalls.res (K:=fun a h'=>a=.tup [.emp,Q3 (YU d)]/\h'=h) ?_ ?_
  ·refine Q0 Tryz.func17 (by kernel_rfl) hc17 (by rw [Tryz.ntmps17];simp) (by rw [Tryz.ntmps17];decide) ?_
   simp -dsimp -implicitDefEqProofs (disch:=omega) only [VCA,Nat.reduceEqDiff,↓reduceIte,c17,eDoc_len,KT]
   repeat' (first | ((with_reducible refine brC (fun _=>?_) fun _=>?_) <;> try (exfalso;omega)) | (with_reducible apply pcallE.of; · exact hC) | (with_reducible refine And.intro ?_ ?_; · omega) | simp -dsimp -implicitDefEqProofs (disch:=omega) only [VCA,Nat.reduceEqDiff,↓reduceIte,exists_eq_right])
   all_goals exact Sub.refl _
  ·rintro a h' ⟨rfl,rfl⟩
   exact ⟨_,Wk.tup' (.cons (by unfold orderD;rw [if_neg h1];exact .emp) (.cons (.refl _) .nil)),rfl,rfl⟩
end Go.Proofs.K
end
section
set_option linter.unusedSimpArgs false
set_option linter.unusedVariables false
namespace Go.Proofs.K
open Go Go.Sim Go.Proofs Go.Shelf
variable {G:YZ}
def c18:SFun:=⟨.seq (.reg [o 2 (.boxF 24 2 (.t 0)),o 4 (.new 27 4 [.emp,.emp,.emp,.emp])]) (.seq (.reg [o 8 (.mv (.t 1)),o 9 (.call (.c (.fn 20 [] [])) [.t 8]),o 10 (.bld [.emp,.emp,.emp,.emp,.prim (Value.map none)] [(4,(1,(.t 9)))]),o 11 (.box 61 5 (.t 10)),o 5 (.mv (.t 11))]) (.seq (.seq (.reg [o 12 (.mv (.t 1)),o 13 (.len (.t 12)),o 14 (.mv (.c (.int .i64 0)))]) (.block 0 (.loop (.seq (.reg [o 15 (.bin .lss (.t 14) (.t 13))]) (.seq (.cond (.t 15) .skip (.exit 0)) (.seq (.block 1 (.seq (.reg [o 16 (.idxA 1 (.t 12) (.t 14)),o 17 (.ld 1 false (.t 16)),o 7 (.mv (.t 17))]) (.reg [o 18 (.mv (.t 5)),o 19 (.fldA 0 (.t 2)),o 20 (.ld 1 false (.t 19)),o 21 (.mv (.t 7)),o 22 (.idxA 6 (.t 20) (.t 21)),o 23 (.ld 6 true (.t 22)),o 24 (.mv (.t 7)),o 25 (.mv (.t 5)),o 26 (.mkf 27 [.t 25] []),o 27 (.call (.c (.fn 25 [] [])) [.t 18,.t 23,.t 24,.t 26])]))) (.reg [o 28 (.bin .add (.t 14) (.c (.int .i64 1))),o 14 (.mv (.t 28))]))))))) (.seq (.reg [o 29 (.mv (.t 5)),o 30 (.fldA 0 (.t 29)),o 31 (.fldA 0 (.t 30)),o 32 (.ld 4 true (.t 31)),⟨none,.st 4 (.t 4) (.t 32),none⟩]) .ret))),[.cell 4 4 true]⟩
theorem hc18:Y3 Tryz.prog {how:=[(11,6)]} Tryz.f18=some c18:=by kernel_rfl
theorem anew_ok (d:HDoc) (V:DV d) (sm:DocSm d):PCalls (Pg G) 18 [.agg (Q8 d),sl Z6 (Z5 d 0)] (.agg (QQ (YT d))):=PCalls.outV fun h=>by
 have h0:=V.zero
 have hin:=X5 V 0 h0
 have hnd:=QW V 0 h0
 have hbl:=XV V h0
 have hdl:=V.len
 have hlen:=sm.len
 obtain ⟨l,hl⟩:∃ l,Z5 d 0=l:=⟨_,rfl⟩
 have hI:YT d=⟨idxL (ZK d l 0),idxL (ZK d l 1),idxL (ZK d l 2),idxL (ZK d l 3)⟩:=by rw [<-hl];rfl
 rw [hI]
 rw [hl] at hin hnd hbl ⊢
 refine Q0 Tryz.func18 (by kernel_rfl) hc18 (by rw [Tryz.ntmps18];simp) (by rw [Tryz.ntmps18];decide) ?_
 simp -dsimp -implicitDefEqProofs (disch:=omega) only [VCA,Nat.reduceEqDiff,Nat.reduceAdd,↓reduceIte,Q8,c18]
 intro rR hR
 refine DCalls.of (ranked_ok l (by omega)) ?_
 rintro v h1 ⟨rM,es,rfl,hM,rfl,hf,_⟩
 have hf:=hf hnd
 simp -dsimp -implicitDefEqProofs (disch:=omega) only [VCA,↓X6,Nat.reduceEqDiff,Nat.reduceAdd,↓reduceIte,K8,X3,ne_eq]
 intro rk hk
 obtain ⟨hA,hAe⟩:∃ hA,upd h rR (some ⟨.t 27,4,[[.emp,.emp,.emp,.emp]]⟩)=hA:=⟨_,rfl⟩
 have hAR:hA rR=some ⟨.t 27,4,[[.emp,.emp,.emp,.emp]]⟩:=by rw [<-hAe];exact Q5 _ _ _
 have hAs:Sim.Sub h hA:=by rw [<-hAe];exact (Sub.refl h).upd hR
 have hkA:hA rk=none:=by rw [<-hAe,Q4 _ _ hk.2.1];exact hk.2.2
 have hMA:hA rM=none:=by rw [<-hAe];exact hM
 have hne:rk≠rM:=hk.1
 have init:KX hA (upd (upd hA rM (some ⟨.m 58 (eM es),1,[]⟩)) rk (some ⟨.t 61,5,[[.emp,.emp,.emp,.emp,.mpr rM]]⟩)) rk rM es (ZK d (l.take 0)):=
  ⟨[.emp,.emp,.emp,.emp],[[],[],[],[]],fun _ _=>.emp,fun _ _=>False,⟨rfl,rfl,Q5 _ _ _,by rw [Q4 _ _ hne.symm];exact Q5 _ _ _,hkA,hMA,fun c hc=>⟨.emp,by
    rcases (show c=0\/c=1\/c=2\/c=3 by omega) with rfl | rfl | rfl | rfl <;> rfl,by
    have:nth ([[],[],[],[]]:List (List HRef)) c=[]:=by rcases (show c=0\/c=1\/c=2\/c=3 by omega) with rfl | rfl | rfl | rfl <;> rfl
    rw [this];exact .nil _ _ _⟩,fun c r hc hf=>hf.elim,fun c d r hc hd hne hf=>hf.elim,((Sub.refl hA).upd hMA).upd hkA⟩,fun c hc=>by
    rcases (show c=0\/c=1\/c=2\/c=3 by omega) with rfl | rfl | rfl | rfl <;> rfl⟩
 rw [hAe]
 refine LoopVC.intro (fun m e h'=>∃ i:Nat,i<=l.length/\m=l.length-i/\e 2=.pin (Q8 d)/\e 4=.vp rR 0/\e 5=.vp rk 0/\e 12=sl Z6 l/\e 13=Q3 l.length/\e 14=Q3 i/\KX hA h' rk rM es (ZK d (l.take i))) l.length
  (by exact ⟨0,by omega,by omega,rfl,rfl,rfl,rfl,rfl,rfl,init⟩) ?_
 rintro m e h' ⟨i,hi,rfl,e2,e4,e5,e12,e13,e14,X⟩
 simp -dsimp -implicitDefEqProofs (disch:=omega) only [VCA,↓reduceIte,Q8,e13,e14]
 refine Br.dec (fun hlt=>?_) (fun hge=>?_)
 ·have hi':i<l.length:=by omega
  have hn:=hin _ (Y7 hi')
  have n0:=hn.1
  have n1:=hn.2
  have hW:=KZ V hn
  have hx:=TU (V.node _ hn) ZJ
  have en:nth d.nodes (nth l i).toNat=nd d (nth l i):=rfl
  have rk_i:∀ j,j<l.length->rkI es (nth l j)=j:=fun j hj=>by unfold rkI;rw [hf j hj];rfl
  have hT:=turn_ok (G:=G) X (nd d (nth l i)) (sm.nd _) (by omega) hW (nth l i) (fun c hc=>by
   have h1:=prsD_len V (l:=l.take i) (fun n hn=>hin n (List.mem_of_mem_take hn)) hc
   have h2:(l.take i).length=i:=by rw [List.length_take];omega
   rw [h2] at h1
   omega) (fun c hc v m hm=>by
   have h1:=mem_prsD hm
   obtain ⟨j,hj,he⟩:=QY h1
   rw [List.length_take] at hj
   have e1:nth (l.take i) j=nth l j:=by
    unfold nth
    rw [List.getD_eq_getElem?_getD,List.getD_eq_getElem?_getD,List.getElem?_take,if_pos (by omega)]
   rw [<-he,e1,rk_i j (by omega),rk_i i hi'];omega)
  unfold Q7 at hT
  simp -dsimp -implicitDefEqProofs (disch:=omega) only [VCA,Nat.reduceEqDiff,Nat.reduceAdd,Nat.reduceLeDiff,↓reduceIte,Z6,Q7,Q8,e2,e5,e12,e14,Q8,Q7,en]
  refine ⟨⟨by omega,by omega⟩,⟨by omega,by omega⟩,DCalls.of hT ?_⟩
  intro v h2 X2
  simp -dsimp -implicitDefEqProofs (disch:=omega) only [VCA,Nat.reduceEqDiff,↓reduceIte,e14]
  refine ⟨_,by omega,i+1,by omega,rfl,e2,e4,e5,e12,e13,by first | rfl | (congr 1) | omega,X2.congr fun c hc=>?_⟩
  unfold newQ
  rw [X1 hi',prsD_snoc]
 ·obtain rfl:i=l.length:=by omega
  rw [List.take_length] at X
  obtain ⟨As,Ls,nvs,Fs,S,hQ⟩:=X
  have hkp:=S.kp
  have hRk:=S.sub rR _ hAR
  unfold kpO at hkp
  obtain ⟨a0,a1,a2,a3,rfl⟩:∃ a0 a1 a2 a3,As=[a0,a1,a2,a3]:=by
   match As,S.len with
   | [a0,a1,a2,a3],_=>exact ⟨a0,a1,a2,a3,rfl⟩
  have hdr:List.drop 0 ([a0,a1,a2,a3]++[AVal.mpr rM])=[a0,a1,a2,a3,AVal.mpr rM]:=rfl
  have htk:List.take 4 ([a0,a1,a2,a3]++[AVal.mpr rM])=[a0,a1,a2,a3]:=rfl
  simp -dsimp -implicitDefEqProofs (disch:=omega) only [VCA,Nat.reduceEqDiff,Nat.reduceAdd,Nat.reduceLT,Nat.reduceLeDiff,↓reduceIte,Z8,exists_eq_left',e4,e5,hkp,hRk]
  refine ⟨_,Sub.refl _,(hAs.trans S.sub).upd hR,.one _ _ ?_⟩
  have hh:∀ c a,c<4->[a0,a1,a2,a3][c]? = some a -> ∀ o,Vw (newH h (upd h' rR (some o))) a (sl X8 (idxL (ZK d l c))):=fun c a hc ha o=>by
   obtain ⟨a',ha',R⟩:=S.ref c hc
   rw [ha] at ha'
   cases ha'
   have R2:=R.keep (h':=upd h' rR (some o)) fun r ob hr ho=>by
    have h1:=(S.dom c r hc hr).2.1
    rw [Q4 _ _ (fun e=>by rw [e,hAR] at h1;cases h1)];exact ho
   rw [hQ c hc] at R2
   exact R2.vwN fun r hr=>hAs.none (S.dom c r hc hr).2.1
  exact Vw.agg' (.cons (hh 0 a0 (by decide) rfl _) (.cons (hh 1 a1 (by decide) rfl _) (.cons (hh 2 a2 (by decide) rfl _) (.cons (hh 3 a3 (by decide) rfl _) .nil))))
def noIdx:HIdx:=⟨[],[],[],[]⟩
def ofD (d:HDoc):HIdx:=if YU d=0 then YT d else noIdx
def c32:SFun:=⟨.seq (.reg [o 1 (.boxF 24 2 (.t 0)),o 2 (.new 27 4 [.emp,.emp,.emp,.emp]),o 3 (.mv (.c (.int .i64 0)))]) (.seq (.reg [o 7 (.ld 2 true (.t 1)),o 8 (.pcall 17 [.t 7]),o 6 (.mv (.t 8)),o 9 (.ext (.t 6) 0),o 10 (.ext (.t 6) 1),o 4 (.mv (.t 9)),o 5 (.mv (.t 10))]) (.seq (.seq (.reg [o 11 (.mv (.t 5)),o 12 (.bin .neq (.t 11) (.c (.int .i64 0)))]) (.cond (.t 12) (.seq (.reg [o 13 (.bld [.emp,.emp,.emp,.emp] []),o 14 (.mv (.t 5)),⟨none,.st 4 (.t 2) (.t 13),none⟩,o 3 (.mv (.t 14))]) .ret) .skip)) (.seq (.reg [o 15 (.ld 2 true (.t 1)),o 16 (.mv (.t 4)),o 17 (.pcall 18 [.t 15,.t 16]),⟨none,.st 4 (.t 2) (.t 17),none⟩,o 3 (.mv (.c (.int .i64 0)))]) .ret))),[.cell 2 4 true,.tmp 3]⟩
theorem hc32:Y3 Tryz.prog {pure:=[17,18]} Tryz.f32=some c32:=by kernel_rfl
theorem ixOf_ok (d:HDoc) (sm:DocSm d):PCalls (Pg G) 32 [.agg (Q8 d)] (.tup [.agg (QQ (ofD d)),Q3 (YU d)]):=PCalls.outV fun h=>by
 have cO:=order2_ok (G:=G) d sm
 unfold orderD at cO
 unfold ofD
 by_cases h0:YU d=0
 ·have cA:=anew_ok (G:=G) d (docE_DV h0) sm
  rw [if_pos h0] at cO
  rw [if_pos h0]
  have d1:(YU d != 0)=false:=by simpa using h0
  obtain ⟨x,hx⟩:∃ x,YT d=x:=⟨_,rfl⟩
  rw [hx] at cA ⊢
  unfold Q8 at cO cA
  refine Q0 Tryz.func32 (by kernel_rfl) hc32 (by rw [Tryz.ntmps32];simp) (by rw [Tryz.ntmps32];decide) ?_
  simp -dsimp -implicitDefEqProofs (disch:=omega) only [VCA,Nat.reduceEqDiff,Nat.reduceAdd,↓reduceIte,Q8,c32,Q8]
  intro r hr
  repeat' (first | ((with_reducible refine brC (fun _=>?_) fun _=>?_) <;> try (exfalso;omega)) | (with_reducible apply pcallE.of; · exact cO) | (with_reducible apply pcallE.of; · exact cA) | (with_reducible refine And.intro ?_ ?_; · omega) | simp -dsimp -implicitDefEqProofs (disch:=omega) only [VCA,Nat.reduceEqDiff,Nat.reduceAdd,Nat.reduceLT,↓reduceIte,Z8,exists_eq_left',d1])
  refine ⟨rfl,Nat.le_refl 4,_,Sub.refl _,(Sub.refl h).upd hr,.tup' (.cons ?_ (.cons ?_ .nil))⟩
  ·exact Vw.refl (.agg (QQ x))
  ·rw [h0];exact .refl _
 ·rw [if_neg h0] at cO
  rw [if_neg h0]
  have d1:(YU d != 0)=true:=by simpa using h0
  unfold Q8 at cO
  refine Q0 Tryz.func32 (by kernel_rfl) hc32 (by rw [Tryz.ntmps32];simp) (by rw [Tryz.ntmps32];decide) ?_
  simp -dsimp -implicitDefEqProofs (disch:=omega) only [VCA,Nat.reduceEqDiff,Nat.reduceAdd,↓reduceIte,Q8,c32,Q8]
  intro r hr
  repeat' (first | ((with_reducible refine brC (fun _=>?_) fun _=>?_) <;> try (exfalso;omega)) | (with_reducible apply pcallE.of; · exact cO) | (with_reducible refine And.intro ?_ ?_; · omega) | simp -dsimp -implicitDefEqProofs (disch:=omega) only [VCA,Nat.reduceEqDiff,Nat.reduceAdd,Nat.reduceLT,↓reduceIte,K8,X3,Z8,exists_eq_left',d1])
  exact ⟨_,Sub.refl _,(Sub.refl h).upd hr,.tup' (.cons (Vw.agg' (.cons .emp (.cons .emp (.cons .emp (.cons .emp .nil))))) (.cons (.refl _) .nil))⟩
theorem after_rank {d dn:HDoc} {e:HEdit} {T:List Int} {rk1:Int->Int} {h HZ h':Q2} {r6 r7 r17 rk rM:Nat} {es:List (Int×Int)} {E:Env} (A:Af h HZ r6 r7) (sm':DocSm dn) (V':DV dn) (D:∀ rk',((Z5 dn 0).Pairwise fun a b=>rk' a<rk' b)->Edited d dn T rk1 rk')
 (cT:PCalls (Pg G) 24 [.agg (Q8 d),.agg (Z4 e)] (sl Z6 T))
 (X:KL HZ h' rk rM es (fun c=>dropA d c T (V5 d c))) (g17:HZ r17=some ⟨.t 24,2,[Q8 dn]⟩)
 (e3:E 3=.pin (Q8 d)) (e5:E 5=.pin (Z4 e)) (e6:E 6=.vp r6 0) (e7:E 7=.vp r7 0) (e9:E 9=sl Z6 (Z5 dn 0)) (e14:E 14=.vp rk 0) (e17:E 17=.vp r17 0) :
 vc (Pg G) c7_s11 (KU [.cell 6 2 true,.cell 7 4 true,.tmp 8] (AfK h dn (YT dn) 0)) E h':=by
 have bl:=XV V' V'.zero
 have vl:=V'.len
 obtain ⟨As,Ls,nvs,Fs,S,hQ⟩:=X
 have ht4:∀ x,List.take 4 (As++[AVal.mpr x])=As:=fun x=>List.take_left' S.len
 have hd5:∀ x,List.drop 5 (As++[AVal.mpr x])=[]:=fun x=>List.drop_eq_nil_of_le (by rw [List.length_append,S.len];exact Nat.le_refl _)
 have hln:∀ x,(As++[AVal.mpr x]).length=5:=fun x=>by rw [List.length_append,S.len];rfl
 unfold c7_s11
 skip
 simp -dsimp -implicitDefEqProofs (disch:=omega) only [VCA,Nat.reduceEqDiff,↓reduceIte,e9,e14]
 refine DCalls.of (ranked_ok (Z5 dn 0) (by omega)) ?_
 rintro v h1 ⟨rM2,es2,rfl,hM,rfl,hf,hno⟩
 have hf:=hf (QW V' 0 V'.zero)
 have hkM:rk≠rM2:=fun q=>by have:=S.kp;rw [q,hM] at this;cases this
 have hk0:h' rk=some ⟨.t 61,5,[As++[.mpr rM]]⟩:=S.kp
 have S2:=(S.grow hM ⟨.m 58 (eM es2),1,[]⟩).rank (rM2:=rM2) (es2:=es2) (Q5 _ _ _) (S.sub.none hM) (fun c r hc hr q=>(S.dom c r hc hr).1 (by rw [q];exact hM))
 have hf2:∀ n,n∈Z5 dn 0 -> ∃ i,UQ es2 n=some i:=fun n hn=>by
  obtain ⟨j,hj,rfl⟩:=QY hn
  exact ⟨_,hf j hj⟩
 simp -dsimp -implicitDefEqProofs (disch:=omega) only [VCA,Nat.reduceEqDiff,Nat.reduceAdd,Nat.reduceLT,↓reduceIte,Z8,exists_eq_left',hk0,hkM,ht4,hd5,hln]
 refine after_put (e:=e) A sm' (D _ (ranks_pw hf)) hf2 hno cT ⟨As,Ls,nvs,Fs,S2,hQ⟩ g17 ?_ ?_ ?_ ?_ ?_ ?_
 ·exact e3
 ·exact e5
 ·exact e6
 ·exact e7
 ·exact e14
 ·exact e17
theorem after_drop {d dn:HDoc} {e:HEdit} {T:List Int} {h HZ h':Q2} {r6 r7 r17 rk rM:Nat} {es:List (Int×Int)} {E:Env} (A:Af h HZ r6 r7) (V:DV d) (sm:DocSm d) (sm':DocSm dn) (V':DV dn) (ord:(Z5 d 0).Pairwise fun a b=>rkI es a<rkI es b)
 (D:∀ rk',((Z5 dn 0).Pairwise fun a b=>rk' a<rk' b)->Edited d dn T (rkI es) rk') (hT:∀ m∈T,inD d m) (hTn:T.Nodup)
 (cT:PCalls (Pg G) 24 [.agg (Q8 d),.agg (Z4 e)] (sl Z6 T)) (X:KL HZ h' rk rM es (fun c=>V5 d c)) (g17:HZ r17=some ⟨.t 24,2,[Q8 dn]⟩)
 (e3:E 3=.pin (Q8 d)) (e5:E 5=.pin (Z4 e)) (e6:E 6=.vp r6 0) (e7:E 7=.vp r7 0) (e14:E 14=.vp rk 0) (e17:E 17=.vp r17 0) :
 vc (Pg G) c7_s9 (KU [.cell 6 2 true,.cell 7 4 true,.tmp 8] (AfK h dn (YT dn) 0)) E h':=by
 have dl:=V.len
 have tl:T.length<=200:=by have:=YK d.nodes.length T hTn fun x hx=>hT x hx;omega
 have cO:=order2_ok (G:=G) dn sm'
 unfold orderD at cO
 rw [if_pos ((WY dn).2 V'),(WY dn).2 V'] at cO
 have t2:(Q8 d).length=2:=rfl
 have t2':List.take 2 (Q8 d)=Q8 d:=rfl
 have t3:(Z4 e).length=12:=rfl
 have t3':List.take 12 (Z4 e)=Z4 e:=rfl
 have hd0:∀ l,List.drop 0 (Q8 dn)=l->l=Q8 dn:=fun l q=>q.symm
 unfold c7_s9
 skip
 simp -dsimp -implicitDefEqProofs (disch:=omega) only [VCA,Nat.reduceEqDiff,↓reduceIte,e3,e5,t2,t2',t3,t3']
 repeat' (first | ((with_reducible refine brC (fun _=>?_) fun _=>?_) <;> try (exfalso;omega)) | (with_reducible apply pcallE.of; · exact cT) | (with_reducible refine And.intro ?_ ?_; · omega) | simp -dsimp -implicitDefEqProofs (disch:=omega) only [VCA,↓reduceIte])
 refine LoopVC.intro (fun m e1 h1=>∃ i:Nat,i<=T.length/\m=T.length-i/\e1 3=.pin (Q8 d)/\e1 5=.pin (Z4 e)/\e1 6=.vp r6 0/\e1 7=.vp r7 0/\e1 14=.vp rk 0/\e1 17=.vp r17 0/\e1 94=sl Z6 T/\e1 95=Q3 T.length/\e1 96=Q3 i/\KL HZ h1 rk rM es (fun c=>dropA d c (T.take i) (V5 d c))) T.length
  (by exact ⟨0,by omega,by omega,e3,e5,e6,e7,e14,e17,rfl,rfl,rfl,X⟩) ?_
 rintro m e1 h1 ⟨i,hi,rfl,f3,f5,f6,f7,f14,f17,f94,f95,f96,Y⟩
 by_cases hlt:i<T.length
 ·have d1:decide ((i:Int)<(T.length:Int))=true:=decide_eq_true (by omega)
  have hin:=hT _ (Y7 hlt)
  have n0:=hin.1
  have n1:=hin.2
  have en:nth d.nodes (nth T i).toNat=nd d (nth T i):=rfl
  have t6:(Q7 (nd d (nth T i))).length=6:=rfl
  have t6':List.take 6 (Q7 (nd d (nth T i)))=Q7 (nd d (nth T i)):=rfl
  have hnx:∀ c,dropW (nth T i) (nth (J7 (nd d (nth T i))) c) (dropA d c (T.take i) (V5 d c))=dropA d c (T.take (i+1)) (V5 d c):=fun c=>by rw [X1 hlt,dropA_snoc]
  have cK:=turnK_ok (G:=G) (f:=26) (fun L w=>dropL L w (nth T i)) (dropW (nth T i)) (fun _=>rfl) (fun W w l=>dropW_snoc _ W w l) Y (nd d (nth T i)) (sm.nd _) (by have:=TU (V.node _ hin) ZJ;omega) (KZ V hin) (nth T i)
   fun c k h2 hc hk L' Z hL=>by
    obtain ⟨P,SM,hP⟩:=drop_half V ord hc (nth T i) (T.take i) k
    have hL:L' c=dropW (nth T i) ((nth (J7 (nd d (nth T i))) c).take k) (dropA d c (T.take i) (V5 d c)):=hL
    have hr:=SM.rows V (X5 V 0 V.zero) (QW V 0 V.zero) hc hP
    rw [<-hL] at SM hr
    exact dropG_ok (G:=G) Z hc SM hr.1 hr.2
  have ed:Q8 d=[sl Q7 d.nodes,.bool d.quirks]:=rfl
  obtain ⟨n,hn⟩:∃ n,nth T i=n:=⟨_,rfl⟩
  rw [hn] at hin n0 n1 en cK hnx t6 t6'
  rw [ed] at f3
  repeat' (first | ((with_reducible refine brC (fun _=>?_) fun _=>?_) <;> try (exfalso;omega)) | (with_reducible refine And.intro ?_ ?_; · omega) | simp -dsimp -implicitDefEqProofs (disch:=omega) only [VCA,Nat.reduceEqDiff,Nat.reduceAdd,Nat.reduceLeDiff,↓reduceIte,Z6,f3,f14,f94,f95,f96,d1,hn,en,t6,t6'])
  refine DCalls.of cK ?_
  rintro v h2 Z
  repeat' (first | ((with_reducible refine brC (fun _=>?_) fun _=>?_) <;> try (exfalso;omega)) | (with_reducible refine And.intro ?_ ?_; · omega) | simp -dsimp -implicitDefEqProofs (disch:=omega) only [VCA,Nat.reduceEqDiff,↓reduceIte,f3,f5,f14,f17,f94,f95,f96])
  refine ⟨_,by omega,i+1,by omega,rfl,by first | rfl | exact ed.symm,f6,f7,by first | rfl | omega,Z.congr fun c hc=>hnx c⟩
 ·obtain rfl:i=T.length:=by omega
  have d1:decide ((T.length:Int)<(T.length:Int))=false:=decide_eq_false (by omega)
  rw [List.take_length] at Y
  have g17':=Y.sub _ _ g17
  unfold Q8 at cO g17'
  repeat' (first | ((with_reducible refine brC (fun _=>?_) fun _=>?_) <;> try (exfalso;omega)) | (with_reducible apply pcallE.of; · exact cO) | (with_reducible refine And.intro ?_ ?_; · omega) | simp -dsimp -implicitDefEqProofs (disch:=omega) only [VCA,Nat.reduceEqDiff,Nat.reduceAdd,Nat.reduceLT,↓reduceIte,exists_eq_left',f17,f95,f96,d1,g17'])
  refine after_rank (e:=e) A sm' V' D cT Y g17 ?_ ?_ ?_ ?_ ?_ ?_ ?_
  ·exact f3
  ·exact f5
  ·exact f6
  ·exact f7
  ·rfl
  ·exact f14
  ·exact f17
def c46:SFun:=⟨.seq (.reg [o 2 (.mv (.c .emp))]) (.seq (.seq (.reg [o 3 (.mv (.t 0)),o 4 (.isnil 0 false (.t 3))]) (.cond (.t 4) (.seq (.reg [o 2 (.mv (.c .emp))]) .ret) .skip)) (.seq (.reg [o 5 (.bldF 87 2 []),o 6 (.mv (.t 0)),o 7 (.app 87 2 40 (.t 5) (.t 6)),o 2 (.mv (.t 7))]) .ret)),[.tmp 2]⟩
theorem hc46:Y3 Tryz.prog {} Tryz.f46=some c46:=by kernel_rfl
theorem cloneR_own {h:Q2} (l:List HRef) (hl:l.length<=1073741824):DCalls (Pg G) 46 [sl X8 l] h (AccK h 87 2 (l.map X8)):=by
 refine Q0 Tryz.func46 (by kernel_rfl) hc46 (by rw [Tryz.ntmps46];simp) (by rw [Tryz.ntmps46];decide) ?_
 simp -dsimp -implicitDefEqProofs (disch:=omega) only [VCA,↓reduceIte,reduceCtorEq,c46]
 intro b hb
 refine Br.intro (fun ht=>?_) (fun hf=>?_)
 ·simp -dsimp -implicitDefEqProofs (disch:=omega) only [VCA,↓reduceIte]
  have:l=[]:=hb (by simpa using ht)
  subst this
  exact ⟨_,Sub.refl _,Acc.nil,Sub.refl _⟩
 ·simp -dsimp -implicitDefEqProofs (disch:=omega) only [VCA,Nat.reduceEqDiff,↓reduceIte,reduceCtorEq,Z7,exists_eq_left]
  refine ⟨by omega,by omega,fun r hr=>?_⟩
  exact ⟨_,Sub.refl _,by simpa using Acc.root (cells:=l.map X8) hr (Q5 _ _ _),(Sub.refl _).upd hr⟩
structure OwnI (h0 h:Q2) (l:List HRef) (rA i:Nat) (nv:Nat->AVal):Prop where
 rows:h rA=some ⟨.t 87,2,ZY l nv⟩
 fA:h0 rA=none
 rest:∀ j,i<=j->j<l.length->nv j=sl Z6 (nth l j).nodes
 own:∀ j,j<i -> ∃ r,nv j=.osl r 1 0 (nth l j).nodes.length/\h r=some ⟨.t 3,1,(nth l j).nodes.map Z6⟩/\h0 r=none
 two:∀ j k,j<i->k<i->j≠k -> ∀ r,Q9 (nv j)=some r->Q9 (nv k)≠some r
 sub:Sim.Sub h0 h
def c22:SFun:=⟨.seq (.reg [o 2 (.mv (.c .emp))]) (.seq (.reg [o 5 (.mv (.t 0)),o 6 (.call (.c (.fn 46 [] [])) [.t 5]),o 3 (.mv (.t 6))]) (.seq (.seq (.reg [o 7 (.mv (.t 3)),o 8 (.len (.t 7)),o 9 (.mv (.c (.int .i64 0)))]) (.block 0 (.loop (.seq (.reg [o 10 (.bin .lss (.t 9) (.t 8))]) (.seq (.cond (.t 10) .skip (.exit 0)) (.seq (.block 1 (.seq (.reg [o 11 (.mv (.t 9)),o 4 (.mv (.t 11))]) (.reg [o 12 (.mv (.t 3)),o 13 (.mv (.t 4)),o 14 (.mv (.t 3)),o 15 (.mv (.t 4)),o 16 (.idxA 2 (.t 14) (.t 15)),o 17 (.fldA 1 (.t 16)),o 18 (.ld 1 false (.t 17)),o 19 (.call (.c (.fn 47 [] [])) [.t 18]),o 20 (.idxA 2 (.t 12) (.t 13)),o 21 (.fldA 1 (.t 20)),⟨none,.st 1 (.t 21) (.t 19),none⟩]))) (.reg [o 22 (.bin .add (.t 9) (.c (.int .i64 1))),o 9 (.mv (.t 22))]))))))) (.seq (.reg [o 23 (.mv (.t 3)),o 2 (.mv (.t 23))]) .ret))),[.tmp 2]⟩
theorem hc22:Y3 Tryz.prog {} Tryz.f22=some c22:=by kernel_rfl
theorem own_ok {h:Q2} (l:List HRef) (hl:l.length<=99999) (hs:∀ x∈l,x.nodes.length<=99999) (hne:∀ x∈l,x.nodes≠[]) :
 DCalls (Pg G) 22 [sl X8 l] h fun a h'=>∃ nv F,RefAt h' a l nv F/\(∀ r,F r->h r=none/\h' r≠none)/\Sim.Sub h h':=by
 have cC:=cloneR_own (G:=G) (h:=h) l (by omega)
 refine Q0 Tryz.func22 (by kernel_rfl) hc22 (by rw [Tryz.ntmps22];simp) (by rw [Tryz.ntmps22];decide) ?_
 simp -dsimp -implicitDefEqProofs (disch:=omega) only [VCA,↓reduceIte,reduceCtorEq,ne_eq,c22]
 refine DCalls.of cC ?_
 rintro a h1 ⟨A,S⟩
 rcases A with ⟨hnil,rfl⟩ | ⟨rA,f0,g0,rfl⟩
 ·have hl0:l=[]:=by simpa using hnil
  subst hl0
  simp -dsimp -implicitDefEqProofs (disch:=omega) only [VCA,↓reduceIte]
  repeat' (first | ((with_reducible refine brC (fun _=>?_) fun _=>?_) <;> try (exfalso;omega)) | (with_reducible refine And.intro ?_ ?_; · omega) | simp -dsimp -implicitDefEqProofs (disch:=omega) only [VCA,pg_gl,↓X6,Nat.reduceEqDiff,Nat.reduceBEq,Nat.reduceAdd,Nat.reduceSub,Nat.reduceMul,Nat.reduceLT,Nat.reduceLeDiff,↓reduceIte,reduceCtorEq,Y8,Z0,SOp.rd,SI.rd,SX.rd,rdL,rdO,rdP,Z7,X4,Y4,K8,X3,Z8,implies_true,forall_const,forall_eq,ne_eq,exists_eq_right_right,exists_eq_right,exists_eq_left,exists_eq_left',J1,Z6,T0,X8,JT])
  refine LoopVC.intro (fun m e h'=>m=0/\e 3=.emp/\e 8=Q3 0/\e 9=Q3 0/\h'=h1) 0 (by exact ⟨rfl,rfl,rfl,rfl,rfl⟩) ?_
  rintro m e h' ⟨rfl,e3,e8,e9,rfl⟩
  repeat' (first | ((with_reducible refine brC (fun _=>?_) fun _=>?_) <;> try (exfalso;omega)) | (with_reducible refine And.intro ?_ ?_; · omega) | simp -dsimp -implicitDefEqProofs (disch:=omega) only [VCA,Nat.reduceEqDiff,↓reduceIte,e3,e8,e9])
  first | exact ⟨_,Sub.refl _,fun _=>.emp,fun _=>False,RefAt.nil _ _ _,fun _ q=>q.elim,S⟩ | trace_state
 ·rw [List.length_map]
  have I0:OwnI h h1 l rA 0 (fun j=>sl Z6 (nth l j).nodes):=by
   refine ⟨?_,f0,fun j _ _=>rfl,fun j hj=>absurd hj (Nat.not_lt_zero j),fun j k hj=>absurd hj (Nat.not_lt_zero j),S⟩
   rw [g0,rows_map];rfl
  simp -dsimp -implicitDefEqProofs (disch:=omega) only [VCA,↓reduceIte]
  repeat' (first | ((with_reducible refine brC (fun _=>?_) fun _=>?_) <;> try (exfalso;omega)) | (with_reducible refine And.intro ?_ ?_; · omega) | simp -dsimp -implicitDefEqProofs (disch:=omega) only [VCA,pg_gl,↓X6,Nat.reduceEqDiff,Nat.reduceBEq,Nat.reduceAdd,Nat.reduceSub,Nat.reduceMul,Nat.reduceLT,Nat.reduceLeDiff,↓reduceIte,reduceCtorEq,Y8,Z0,SOp.rd,SI.rd,SX.rd,rdL,rdO,rdP,Z7,X4,Y4,K8,X3,Z8,implies_true,forall_const,forall_eq,ne_eq,exists_eq_right_right,exists_eq_right,exists_eq_left,exists_eq_left',J1,Z6,T0,X8,JT])
  refine LoopVC.intro (fun m e h'=>∃ (i:Nat) (nv:Nat->AVal),i<=l.length/\m=l.length-i/\e 3=.osl rA 2 0 l.length/\e 8=Q3 l.length/\e 9=Q3 i/\OwnI h h' l rA i nv) l.length
   (by exact ⟨0,_,by omega,by omega,rfl,rfl,rfl,I0⟩) ?_
  rintro m e h' ⟨i,nv,hi,rfl,e3,e8,e9,I⟩
  have gR:=I.rows
  by_cases hlt:i<l.length
  ·have d1:decide ((i:Int)<(l.length:Int))=true:=decide_eq_true (by omega)
   have hrow:(ZY l nv).getD i []=[.str (nth l i).word,sl Z6 (nth l i).nodes]:=by
    rw [List.getD_eq_getElem?_getD,QU hlt]
    unfold rowR
    rw [I.rest i (Nat.le_refl _) hlt];rfl
   have hm:=Y7 hlt
   have hnl:=hs _ hm
   have hnn:=hne _ hm
   have hset:=rowsR_set l nv i hlt (nth l i).nodes
   have hll:l.set i ⟨(nth l i).word,(nth l i).nodes⟩=l:=by
    apply List.ext_getElem?
    intro j
    rw [List.getElem?_set]
    by_cases q:i=j
    ·subst q;rw [if_pos rfl,if_pos hlt,J5 hlt]
    ·rw [if_neg q]
   rw [hll] at hset
   have rl:=J8 l nv
   have cZ:=cloneZ_own (G:=G) (h:=h') (nth l i).nodes (by omega)
   obtain ⟨w,hw⟩:∃ w,(nth l i).word=w:=⟨_,rfl⟩
   obtain ⟨ns,hns⟩:∃ ns,(nth l i).nodes=ns:=⟨_,rfl⟩
   rw [hw] at hset hrow
   rw [hns] at hrow cZ hnn hnl
   repeat' (first | ((with_reducible refine brC (fun _=>?_) fun _=>?_) <;> try (exfalso;omega)) | (with_reducible refine And.intro ?_ ?_; · omega) | simp -dsimp -implicitDefEqProofs (disch:=omega) only [VCA,Nat.reduceEqDiff,Nat.reduceAdd,↓reduceIte,exists_eq_left',e3,e8,e9,d1,gR,hrow,rl])
   refine DCalls.of cZ ?_
   rintro v h2 ⟨Z,S2⟩
   rcases Z with ⟨z1,_⟩ | ⟨rz,z0,z2,rfl⟩
   ·exact absurd (List.map_eq_nil_iff.1 z1) hnn
   rw [List.length_map]
   have gR2:=S2 _ _ gR
   repeat' (first | ((with_reducible refine brC (fun _=>?_) fun _=>?_) <;> try (exfalso;omega)) | (with_reducible refine And.intro ?_ ?_; · omega) | simp -dsimp -implicitDefEqProofs (disch:=omega) only [VCA,Nat.reduceEqDiff,Nat.reduceAdd,↓reduceIte,Z8,exists_eq_left',e3,e8,e9,gR2,hrow,rl])
   have nA:∀ {r:Nat} {es:List (List AVal)},h' r=some ⟨.t 3,1,es⟩->r≠rA:=fun q e=>by rw [e,gR] at q;cases q
   have nz:rz≠rA:=fun e=>by rw [e,gR] at z0;cases z0
   refine ⟨_,by omega,i+1,fun j=>if j=i then .osl rz 1 0 ns.length else nv j,by omega,rfl,by omega,?_,I.fA,fun j h1 h2=>?_,fun j h1=>?_,fun j k h1 h2 hjk r hr=>?_,?_⟩
   ·rw [Q5,<-hset]
   ·rw [if_neg (by omega)];exact I.rest j (by omega) h2
   ·by_cases q:j=i
    ·subst q
     rw [if_pos rfl,hns]
     exact ⟨rz,rfl,by rw [Q4 _ _ nz];exact z2,I.sub.none z0⟩
    ·rw [if_neg q]
     obtain ⟨r,r1,r2,r3⟩:=I.own j (by omega)
     exact ⟨r,r1,by rw [Q4 _ _ (nA r2)];exact S2 _ _ r2,r3⟩
   ·have fresh:∀ k,k<i->Q9 (nv k)≠some rz:=fun k hk e=>by
     obtain ⟨r,r1,r2,_⟩:=I.own k hk
     rw [r1] at e
     have e:r=rz:=Option.some.inj e
     rw [e,z0] at r2;cases r2
    have hr:Q9 (if j=i then .osl rz 1 0 ns.length else nv j)=some r:=hr
    show Q9 (if k=i then .osl rz 1 0 ns.length else nv k)≠some r
    by_cases q:j=i
    ·rw [if_pos q] at hr
     have hr:rz=r:=Option.some.inj hr
     subst hr
     rw [if_neg (fun e=>hjk (q.trans e.symm))]
     exact fresh k (by omega)
    ·rw [if_neg q] at hr
     by_cases q2:k=i
     ·rw [if_pos q2]
      intro e
      have e:rz=r:=Option.some.inj e
      subst e
      exact fresh j (by omega) hr
     ·rw [if_neg q2]
      exact I.two j k (by omega) (by omega) hjk r hr
   ·exact (I.sub.trans S2).upd I.fA
  ·obtain rfl:i=l.length:=by omega
   have d1:decide ((l.length:Int)<(l.length:Int))=false:=decide_eq_false (by omega)
   repeat' (first | ((with_reducible refine brC (fun _=>?_) fun _=>?_) <;> try (exfalso;omega)) | (with_reducible refine And.intro ?_ ?_; · omega) | simp -dsimp -implicitDefEqProofs (disch:=omega) only [VCA,Nat.reduceEqDiff,↓reduceIte,e3,e8,e9,d1])
   have nA:∀ {r:Nat} {es:List (List AVal)},h' r=some ⟨.t 3,1,es⟩->r≠rA:=fun q e=>by rw [e,gR] at q;cases q
   refine ⟨_,Sub.refl _,nv,fun r=>r=rA \/ ∃ j,j<l.length/\Q9 (nv j)=some r,⟨.inr (.inr ⟨rA,_,by rw [J8],gR,by rw [J8];exact Nat.le_refl _,by rw [J8,List.take_of_length_le (by rw [J8];exact Nat.le_refl _)]⟩),(fun es e=>by cases e),(fun r e=>.inl (Option.some.inj e).symm),fun j hj=>?_,fun j k hj hk hjk r hr=>I.two j k hj hk hjk r hr⟩,fun r hr=>?_,I.sub⟩
   ·obtain ⟨r,r1,r2,r3⟩:=I.own j hj
    rw [r1]
    refine ⟨.inr (.inr ⟨r,_,by rw [List.length_map],r2,by rw [List.length_map];exact Nat.le_refl _,by rw [List.length_map,List.take_of_length_le (by rw [List.length_map];exact Nat.le_refl _)]⟩),(fun es e=>by cases e),fun r' e=>?_⟩
    have e:r=r':=Option.some.inj e
    subst e
    exact ⟨.inr ⟨j,hj,by rw [r1];rfl⟩,fun e=>nA r2 (Option.some.inj e).symm⟩
   ·rcases hr with rfl | ⟨j,hj,hr⟩
    ·exact ⟨I.fA,by rw [gR];simp⟩
    ·obtain ⟨r',r1,r2,r3⟩:=I.own j hj
     rw [r1] at hr
     have e:r'=r:=Option.some.inj hr
     subst e
     exact ⟨r3,by rw [r2];simp⟩
theorem Af.add {h HZ:Q2} {r6 r7 r:Nat} (A:Af h HZ r6 r7) (hr:HZ r=none) (o:AObj):Af h (upd HZ r (some o)) r6 r7:=
 ⟨A.s.upd (A.s.none hr),A.f6,A.f7,by rw [Q4 _ _ (fun e=>by have:=A.g6;rw [e,hr] at this;cases this)];exact A.g6,by rw [Q4 _ _ (fun e=>by have:=A.g7;rw [e,hr] at this;cases this)];exact A.g7⟩
theorem vw_noIdx (h:Q2):Vw h (.agg [.emp,.emp,.emp,.emp]) (.agg (QQ noIdx)):=Vw.agg' (.cons .emp (.cons .emp (.cons .emp (.cons .emp .nil))))
def endD (d:HDoc) (e:HEdit) (E:Int):HDoc:=if E=0 then J6 d e else JU
def endX (d:HDoc) (e:HEdit) (E:Int):HIdx:=if E=0 then YT (J6 d e) else noIdx
theorem after_apply {d:HDoc} {e:HEdit} {h HZ h':Q2} {r6 r7 rk rM:Nat} {es:List (Int×Int)} {E:Env} (A:Af h HZ r6 r7) (V:DV d) (sm:DocSm d) (he:EditSm e) (ord:(Z5 d 0).Pairwise fun a b=>rkI es a<rkI es b)
 (X:KL HZ h' rk rM es (fun c=>V5 d c))
 (e3:E 3=.pin (Q8 d)) (e5:E 5=.pin (Z4 e)) (e6:E 6=.vp r6 0) (e7:E 7=.vp r7 0) (e14:E 14=.vp rk 0) :
 vc (Pg G) c7_s7 (KU [.cell 6 2 true,.cell 7 4 true,.tmp 8] (AfK h (endD d e (K3 d e)) (endX d e (K3 d e)) (K3 d e))) E h':=by
 have cA:=apply_ok (G:=G) d sm e he
 have hX:=X.sub
 have k6:=hX _ _ A.g6
 have k7:=hX _ _ A.g7
 have ne:=A.ne
 have n76:¬ r7=r6:=fun e=>ne e.symm
 have t2:(Q8 d).length=2:=rfl
 have t2':List.take 2 (Q8 d)=Q8 d:=rfl
 have t3:(Z4 e).length=12:=rfl
 have t3':List.take 12 (Z4 e)=Z4 e:=rfl
 unfold c7_s7
 skip
 by_cases hE:K3 d e=0
 ·obtain ⟨h0,h1,aD,V'⟩:=applyE_0 V hE
  have d1:(K3 d e != 0)=false:=by simpa using hE
  have sm':DocSm (J6 d e):=by rw [<-aD];exact apply_sm sm he
  rw [aD] at cA
  rw [show endD d e (K3 d e)=J6 d e by unfold endD;rw [if_pos hE],show endX d e (K3 d e)=YT (J6 d e) by unfold endX;rw [if_pos hE]]
  have T:=tcM_in V h0
  have q:=errR_0 h0
  have cT:=touched_ok (G:=G) d V sm e q.2 (fun c6=>q.1 (by omega))
  rw [hE] at d1 cA ⊢
  obtain ⟨dn,hdn⟩:∃ dn,J6 d e=dn:=⟨_,rfl⟩
  rw [hdn] at V' sm' cA ⊢
  have D:=fun rk' hp=>edited_of (rk:=rkI es) (rk':=rk') V hE ord (by rw [hdn];exact hp)
  rw [hdn] at D
  have td:(Q8 dn).length=2:=rfl
  have td':List.take 2 (Q8 dn)=Q8 dn:=rfl
  have td2:List.drop 2 (Q8 dn)=[]:=rfl
  simp -dsimp -implicitDefEqProofs (disch:=omega) only [VCA,Nat.reduceEqDiff,↓reduceIte,e3,e5,t2,t2',t3,t3']
  repeat' (first | ((with_reducible refine brC (fun _=>?_) fun _=>?_) <;> try (exfalso;omega)) | (with_reducible apply pcallE.of; · exact cA) | (with_reducible refine And.intro ?_ ?_; · omega) | simp -dsimp -implicitDefEqProofs (disch:=omega) only [VCA,Nat.reduceEqDiff,Nat.reduceAdd,Nat.reduceLT,↓reduceIte,Z8,exists_eq_left',d1,td])
  intro r hr
  refine after_drop (e:=e) (A.add (hX.none hr) ⟨24,2,[Q8 dn]⟩) V sm sm' V' ord D T.1 T.2 cT (X.add hr _) (Q5 _ _ _) ?_ ?_ ?_ ?_ ?_ ?_
  ·exact e3
  ·exact e5
  ·exact e6
  ·exact e7
  ·exact e14
  ·rfl
 ·have d1:(K3 d e != 0)=true:=by simpa using hE
  have aD:V7 d e=JU:=by unfold V7;rw [if_neg hE]
  rw [aD] at cA
  rw [show endD d e (K3 d e)=JU by unfold endD;rw [if_neg hE],show endX d e (K3 d e)=noIdx by unfold endX;rw [if_neg hE]]
  have td:(Q8 JU).length=2:=rfl
  have td':List.take 2 (Q8 JU)=Q8 JU:=rfl
  have td2:List.drop 2 (Q8 JU)=[]:=rfl
  simp -dsimp -implicitDefEqProofs (disch:=omega) only [VCA,Nat.reduceEqDiff,↓reduceIte,e3,e5,t2,t2',t3,t3']
  repeat' (first | ((with_reducible refine brC (fun _=>?_) fun _=>?_) <;> try (exfalso;omega)) | (with_reducible apply pcallE.of; · exact cA) | (with_reducible refine And.intro ?_ ?_; · omega) | simp -dsimp -implicitDefEqProofs (disch:=omega) only [VCA,Nat.reduceEqDiff,Nat.reduceAdd,Nat.reduceLT,↓reduceIte,K8,X3,Z8,exists_eq_left',e6,e7,d1,td,k6,k7,ne,n76])
  intro r hr
  have n6:¬ r6=r:=fun e=>by rw [<-e,k6] at hr;cases hr
  have n7:¬ r7=r:=fun e=>by rw [<-e,k7] at hr;cases hr
  simp -dsimp -implicitDefEqProofs (disch:=omega) only [VCA,Nat.reduceAdd,Nat.reduceLT,↓reduceIte,exists_eq_left',n6,n7]
  exact ⟨_,Sub.refl _,(((A.s.trans hX).upd (A.s.none (hX.none hr))).upd A.f6).upd A.f7,.tup' (.cons (vw_noDoc _) (.cons (vw_noIdx _) (.cons (.refl _) .nil)))⟩
def lstX (x:HIdx):List (List HRef):=[x.ids,x.classes,x.tags,x.names]
theorem lstX_D (d:HDoc) {c:Nat} (hc:c<4):nth (lstX (YT d)) c=V5 d c:=by
 rcases (show c=0\/c=1\/c=2\/c=3 by omega) with rfl | rfl | rfl | rfl <;> rfl
theorem lstX_eq {x y:HIdx} (h:∀ c,c<4->nth (lstX x) c=nth (lstX y) c):x=y:=by
 cases x;cases y
 simp only [HIdx.mk.injEq]
 exact ⟨h 0 (by decide),h 1 (by decide),h 2 (by decide),h 3 (by decide)⟩
theorem eIdx_drop (x:HIdx) {c:Nat} (hc:c<4):∃ rest,List.drop c (QQ x)=sl X8 (nth (lstX x) c) :: rest:=by
 rcases (show c=0\/c=1\/c=2\/c=3 by omega) with rfl | rfl | rfl | rfl <;> exact ⟨_,rfl⟩
def pinX (x:HIdx):List (List AVal):=[[.pin [sl X8 x.ids,sl X8 x.classes,sl X8 x.tags,sl X8 x.names]],[.pin [sl X8 x.classes,sl X8 x.tags,sl X8 x.names]],[.pin [sl X8 x.tags,sl X8 x.names]],[.pin [sl X8 x.names]]]
theorem pin_cell (x:HIdx) {c:Nat} (hc:c<4):∃ rest,(pinX x).getD c []=[.pin (sl X8 (nth (lstX x) c) :: rest)]:=by
 rcases (show c=0\/c=1\/c=2\/c=3 by omega) with rfl | rfl | rfl | rfl <;> exact ⟨_,rfl⟩
theorem pinX_len (x:HIdx):(pinX x).length=4:=rfl
theorem after_same {d:HDoc} {x:HIdx} {e:HEdit} {h HZ h':Q2} {r6 r7 r11 rk rM:Nat} {es:List (Int×Int)} {E:Env} (A:Af h HZ r6 r7) (V:DV d) (sm:DocSm d) (he:EditSm e) (hx:IdxSm x) (ord:(Z5 d 0).Pairwise fun a b=>rkI es a<rkI es b)
 (X:KL HZ h' rk rM es (fun _=>[])) (g11:HZ r11=some ⟨.t 27,4,[QQ (YT d)]⟩)
 (e3:E 3=.pin (Q8 d)) (e5:E 5=.pin (Z4 e)) (e6:E 6=.vp r6 0) (e7:E 7=.vp r7 0) (e12:E 12=.slc [[.vp r11 0],[.vp r11 1],[.vp r11 2],[.vp r11 3]])
 (e13:E 13=.slc (pinX x)) (e14:E 14=.vp rk 0) (F:Int) (hF:F=if x=YT d then K3 d e else 9) :
 vc (Pg G) c7_s6 (KU [.cell 6 2 true,.cell 7 4 true,.tmp 8] (AfK h (endD d e F) (endX d e F) F)) E h':=by
 have hX:=X.sub
 have k6:=hX _ _ A.g6
 have k7:=hX _ _ A.g7
 have ne:=A.ne
 have n76:¬ r7=r6:=fun e=>ne e.symm
 have hxs:∀ c,c<4->RefsSm (nth (lstX x) c):=fun c hc=>by
  rcases (show c=0\/c=1\/c=2\/c=3 by omega) with rfl | rfl | rfl | rfl
  ·exact hx.ids
  ·exact hx.classes
  ·exact hx.tags
  ·exact hx.names
 have hids:∀ c,c<4->(V5 d c).length<=99999/\(∀ y∈V5 d c,y.nodes.length<=99999) /\ ∀ y∈V5 d c,y.nodes≠[]:=fun c hc=>by
  have SM:=specM_of V (X5 V 0 V.zero) hc ord
  have hr:=SM.rows V (X5 V 0 V.zero) (QW V 0 V.zero) hc (fun w n h=>h)
  refine ⟨hr.1,fun y hy=>?_,fun y hy=>?_⟩
  ·obtain ⟨j,hj,rfl⟩:=QY hy;exact hr.2 j hj
  ·obtain ⟨j,hj,rfl⟩:=QY hy;exact (SM.row j hj).1
 unfold c7_s6
 skip
 simp -dsimp -implicitDefEqProofs (disch:=omega) only [VCA,↓reduceIte,e14]
 refine DCalls.of lists_ok ?_
 rintro v h1 ⟨rfl,rfl⟩
 simp -dsimp -implicitDefEqProofs (disch:=omega) only [VCA,Nat.reduceAdd,↓reduceIte]
 refine LoopVC.intro (fun m e1 h1=>∃ c:Nat,c<=4/\m=4-c/\e1 3=.pin (Q8 d)/\e1 5=.pin (Z4 e)/\e1 6=.vp r6 0/\e1 7=.vp r7 0/\e1 12=.slc [[.vp r11 0],[.vp r11 1],[.vp r11 2],[.vp r11 3]]/\e1 13=.slc (pinX x)/\e1 14=.vp rk 0 /\
  e1 47=.slc [[.vp rk 0],[.vp rk 1],[.vp rk 2],[.vp rk 3]]/\e1 48=Q3 4/\e1 49=Q3 c/\KL HZ h1 rk rM es (fun j=>if j<c then V5 d j else []) /\ ∀ j,j<c->nth (lstX x) j=V5 d j) 4
  (by exact ⟨0,by omega,by omega,e3,e5,e6,e7,e12,e13,e14,rfl,rfl,rfl,X.congr fun j _=>by rw [if_neg (Nat.not_lt_zero j)],fun j hj=>absurd hj (Nat.not_lt_zero j)⟩) ?_
 rintro m e1 h2 ⟨c,hc,rfl,f3,f5,f6,f7,f12,f13,f14,f47,f48,f49,Y,hj⟩
 have hpl:=pinX_len x
 have hY:=Y.sub
 have y6:=hY _ _ A.g6
 have y7:=hY _ _ A.g7
 have y11:=hY _ _ g11
 by_cases hlt:c<4
 ·have d1:decide ((c:Int)<4)=true:=decide_eq_true (by omega)
  have c47:([[.vp rk 0],[.vp rk 1],[.vp rk 2],[.vp rk 3]]:List (List AVal)).getD c []=[.vp rk c]:=by
   rcases (show c=0\/c=1\/c=2\/c=3 by omega) with rfl | rfl | rfl | rfl <;> rfl
  have c12:([[.vp r11 0],[.vp r11 1],[.vp r11 2],[.vp r11 3]]:List (List AVal)).getD c []=[.vp r11 c]:=by
   rcases (show c=0\/c=1\/c=2\/c=3 by omega) with rfl | rfl | rfl | rfl <;> rfl
  obtain ⟨rest,c13⟩:=pin_cell x hlt
  obtain ⟨rst,c11⟩:=eIdx_drop (YT d) hlt
  rw [lstX_D d hlt] at c11
  have l4:(QQ (YT d)).length=4:=rfl
  have hS:=hxs c hlt
  have hI:=hids c hlt
  obtain ⟨y,hy⟩:∃ y,nth (lstX x) c=y:=⟨_,rfl⟩
  rw [hy] at hS c13
  have cS:=same_ok (G:=G) (V5 d c) y (by omega) hS.len (fun r hr=>by have:=hI.2.1 r hr;omega) (fun r hr=>(hS.each r hr).nodes)
  by_cases heq:V5 d c=y
  ·rw [show (V5 d c==y)=true by simpa using heq] at cS
   repeat' (first | ((with_reducible refine brC (fun _=>?_) fun _=>?_) <;> try (exfalso;omega)) | (with_reducible apply pcallE.of; · exact cS) | (with_reducible refine And.intro ?_ ?_; · omega) | simp -dsimp -implicitDefEqProofs (disch:=omega) only [VCA,Nat.reduceEqDiff,Nat.reduceAdd,Nat.reduceLT,Nat.reduceLeDiff,↓reduceIte,Y8,Z0,exists_eq_left',J1,f12,f13,f47,f48,f49,d1,c47,c12,c13,c11,hpl,y11,l4])
   have cO:=own_ok (G:=G) (h:=h2) y (by rw [<-heq];exact hI.1) (fun r hr=>hI.2.1 r (by rw [heq];exact hr)) (fun r hr=>hI.2.2 r (by rw [heq];exact hr))
   obtain ⟨As,Ls,nvs,Fs,S,hQ⟩:=Y
   refine DCalls.of cO ?_
   rintro a h3 ⟨nv,F0,R,hF0,hs⟩
   have hkp:h3 rk=some ⟨.t 61,5,[As++[.mpr rM]]⟩:=hs _ _ S.kp
   have hcell:∀ v:AVal,List.take c (As++[.mpr rM])++[v]++List.drop (c+1) (As++[.mpr rM])=As.set c v++[.mpr rM]:=fun v=>by
    have:=S.len
    rw [List.take_append_of_le_length (by omega),List.drop_append_of_le_length (by omega),List.set_eq_take_append_cons_drop,if_pos (by omega)]
    simp
   have hln:c+1<=(As++[AVal.mpr rM]).length:=by rw [List.length_append,S.len,List.length_singleton];omega
   have iv:=R.own.isV
   have hkF:¬ F0 rk:=fun q=>by have h1:=(hF0 rk q).1;rw [S.kp] at h1;cases h1
   have Y2:=KL.next S hQ hlt (h':=upd h3 rk (some (kpO (As.set c a) rM))) (Q5 _ _ _) (R.keep fun r o hr ho=>by rw [Q4 _ _ (fun e=>hkF (by rw [<-e];exact hr))];exact ho) (fun r hr=>.inr (hF0 r hr).1) (fun t o q1 _ q3=>by rw [Q4 _ _ q3];exact hs _ _ q1)
   have hjn:∀ j,j<c+1->nth (lstX x) j=V5 d j:=fun j hj2=>by
    by_cases q:j=c
    ·rw [q,hy,heq]
    ·exact hj j (by omega)
   repeat' (first | ((with_reducible refine brC (fun _=>?_) fun _=>?_) <;> try (exfalso;omega)) | (with_reducible refine And.intro ?_ ?_; · omega) | simp -dsimp -implicitDefEqProofs (disch:=omega) only [VCA,Nat.reduceEqDiff,Nat.reduceLT,↓reduceIte,Z8,exists_eq_left',f12,f13,f14,f47,f48,f49,hkp,hcell,iv.1,iv.2])
   refine ⟨_,by omega,c+1,by omega,rfl,f3,f5,f6,f7,by first | rfl | omega,Y2.congr fun j hj2=>?_,hjn⟩
   by_cases q:j=c
   ·rw [q];simp only [if_pos (Nat.lt_succ_self c)];exact heq.symm
   ·by_cases q2:j<c
    ·simp only [if_neg q,if_pos q2,if_pos (show j<c+1 by omega)]
    ·simp only [if_neg q,if_neg q2,if_neg (show ¬ j<c+1 by omega)]
  ·rw [show (V5 d c==y)=false by simpa using heq] at cS
   have hne:x≠YT d:=fun q=>heq (by rw [<-hy,q,lstX_D d hlt])
   rw [if_neg hne] at hF
   repeat' (first | ((with_reducible refine brC (fun _=>?_) fun _=>?_) <;> try (exfalso;omega)) | (with_reducible apply pcallE.of; · exact cS) | (with_reducible refine And.intro ?_ ?_; · omega) | simp -dsimp -implicitDefEqProofs (disch:=omega) only [VCA,Nat.reduceEqDiff,Nat.reduceAdd,Nat.reduceLT,Nat.reduceLeDiff,↓reduceIte,Y8,Z0,K8,X3,Z8,exists_eq_left',J1,f6,f7,f12,f13,f47,f48,f49,d1,c47,c12,c13,c11,hpl,y11,l4,y6,y7,ne,n76])
   rw [hF]
   exact ⟨_,Sub.refl _,((A.s.trans hY).upd A.f6).upd A.f7,.tup' (.cons (vw_noDoc _) (.cons (vw_noIdx _) (.cons (.refl _) .nil)))⟩
 ·obtain rfl:c=4:=by omega
  have d1:decide ((4:Int)<4)=false:=rfl
  have heq:x=YT d:=lstX_eq fun j hj2=>by rw [hj j hj2,lstX_D d hj2]
  rw [if_pos heq] at hF
  subst hF
  repeat' (first | ((with_reducible refine brC (fun _=>?_) fun _=>?_) <;> try (exfalso;omega)) | (with_reducible refine And.intro ?_ ?_; · omega) | simp -dsimp -implicitDefEqProofs (disch:=omega) only [VCA,Nat.reduceSub,↓reduceIte,f48,f49])
  refine after_apply A V sm he ord (Y.congr fun j hj2=>by rw [if_pos hj2]) ?_ ?_ ?_ ?_ ?_
  ·exact f3
  ·exact f5
  ·exact f6
  ·exact f7
  ·exact f14
def afE (d:HDoc) (x:HIdx) (e:HEdit):Int:=if YU d=0 then (if x=YT d then K3 d e else 9) else YU d
theorem after_ok (d:HDoc) (sm:DocSm d) (x:HIdx) (hx:IdxSm x) (e:HEdit) (he:EditSm e) :
 PCalls (Pg G) 7 [.agg (Q8 d),.agg (QQ x),.agg (Z4 e)] (.tup [.agg (Q8 (endD d e (afE d x e))),.agg (QQ (endX d e (afE d x e))),Q3 (afE d x e)]):=PCalls.outV fun h=>by
 have cO:=order2_ok (G:=G) d sm
 unfold orderD at cO
 have t2:(Q8 d).length=2:=rfl
 have t2':List.take 2 (Q8 d)=Q8 d:=rfl
 have t2'':List.drop 2 (Q8 d)=[]:=rfl
 have t3:(Z4 e).length=12:=rfl
 have t3':List.take 12 (Z4 e)=Z4 e:=rfl
 have t4:(QQ x).length=4:=rfl
 by_cases h0:YU d=0
 ·have V:=docE_DV h0
  have cA:=anew_ok (G:=G) d V sm
  rw [if_pos h0,h0] at cO
  have d1:((0:Int) != 0)=false:=rfl
  have hF:afE d x e=if x=YT d then K3 d e else 9:=by unfold afE;rw [if_pos h0]
  obtain ⟨F,hFe⟩:∃ F,afE d x e=F:=⟨_,rfl⟩
  rw [hFe] at hF ⊢
  have t5:(QQ (YT d)).length=4:=rfl
  have t5':List.take 4 (QQ (YT d))=QQ (YT d):=rfl
  have t5'':List.drop 4 (QQ (YT d))=[]:=rfl
  refine Q0 Tryz.func7 hn7 hc7 (by rw [Tryz.ntmps7];simp) (by rw [Tryz.ntmps7];decide) ?_
  simp -dsimp -implicitDefEqProofs (disch:=omega) only [VCA,↓X6,Nat.reduceEqDiff,↓reduceIte,ne_eq,c7,t2,t2',t3,t4]
  intro r6 h6 r7 h7
  repeat' (first | ((with_reducible refine brC (fun _=>?_) fun _=>?_) <;> try (exfalso;omega)) | (with_reducible apply pcallE.of; · exact cO) | (with_reducible apply pcallE.of; · exact cA) | (with_reducible refine And.intro ?_ ?_; · omega) | simp -dsimp -implicitDefEqProofs (disch:=omega) only [VCA,↓X6,Nat.reduceEqDiff,Nat.reduceAdd,Nat.reduceLT,↓reduceIte,Z8,ne_eq,exists_eq_left',t2,t2',d1,t5])
  intro r11 h11
  obtain ⟨HZ,hHZ⟩:∃ HZ,upd (upd (upd h r6 (some ⟨.t 24,2,[[.emp,.bool false]]⟩)) r7 (some ⟨.t 27,4,[[.emp,.emp,.emp,.emp]]⟩)) r11 (some ⟨.t 27,4,[QQ (YT d)]⟩)=HZ:=⟨_,rfl⟩
  rw [hHZ]
  have A:Af h HZ r6 r7:=by
   rw [<-hHZ]
   refine ⟨(((Sub.refl h).upd h6).upd h7.2).upd h11.2.2,h6,h7.2,?_,?_⟩
   ·rw [Q4 _ _ (fun e=>h11.2.1 e.symm),Q4 _ _ (fun e=>h7.1 e.symm),Q5]
   ·rw [Q4 _ _ (fun e=>h11.1 e.symm),Q5]
  have g11:HZ r11=some ⟨.t 27,4,[QQ (YT d)]⟩:=by rw [<-hHZ,Q5]
  clear hHZ
  have bl:=XV V V.zero
  have vl:=V.len
  refine DCalls.of lists_ok ?_
  rintro v h1 ⟨rfl,rfl⟩
  simp -dsimp -implicitDefEqProofs (disch:=omega) only [VCA,Nat.reduceEqDiff,↓reduceIte]
  refine PCalls.of (listsP_ok (sl X8 x.ids) (sl X8 x.classes) (sl X8 x.tags) (sl X8 x.names)) ?_
  simp -dsimp -implicitDefEqProofs (disch:=omega) only [VCA,Nat.reduceEqDiff,↓reduceIte]
  refine DCalls.of (ranked_ok (Z5 d 0) (by omega)) ?_
  rintro v h2 ⟨rM,es,rfl,hM,rfl,hf,_⟩
  have hf:=hf (QW V 0 V.zero)
  simp -dsimp -implicitDefEqProofs (disch:=omega) only [VCA,↓X6,Nat.reduceAdd,↓reduceIte,K8,X3,ne_eq]
  intro rk hk
  have hkA:=hk.2
  have hne:=hk.1
  have X:KL h1 (upd (upd h1 rM (some ⟨.m 58 (eM es),1,[]⟩)) rk (some ⟨.t 61,5,[[.emp,.emp,.emp,.emp,.mpr rM]]⟩)) rk rM es (fun _=>[]):=
   ⟨[.emp,.emp,.emp,.emp],[[],[],[],[]],fun _ _=>.emp,fun _ _=>False,⟨rfl,rfl,Q5 _ _ _,by rw [Q4 _ _ (fun e=>hne e.symm)];exact Q5 _ _ _,hkA,hM,fun c hc=>⟨.emp,by
     rcases (show c=0\/c=1\/c=2\/c=3 by omega) with rfl | rfl | rfl | rfl <;> rfl,by
     have:nth ([[],[],[],[]]:List (List HRef)) c=[]:=by rcases (show c=0\/c=1\/c=2\/c=3 by omega) with rfl | rfl | rfl | rfl <;> rfl
     rw [this];exact .nil _ _ _⟩,fun c r hc hf=>hf.elim,fun c d r hc hd hne hf=>hf.elim,((Sub.refl h1).upd hM).upd hkA⟩,fun c hc=>by
     rcases (show c=0\/c=1\/c=2\/c=3 by omega) with rfl | rfl | rfl | rfl <;> rfl⟩
  refine after_same (x:=x) A V sm he hx (ranks_pw hf) X g11 ?_ ?_ ?_ ?_ ?_ ?_ ?_ F hF
  all_goals rfl
 ·have d1:(YU d != 0)=true:=by simpa using h0
  rw [if_neg h0] at cO
  have hF:afE d x e=YU d:=by unfold afE;rw [if_neg h0]
  rw [hF,show endD d e (YU d)=JU by unfold endD;rw [if_neg h0],show endX d e (YU d)=noIdx by unfold endX;rw [if_neg h0]]
  refine Q0 Tryz.func7 hn7 hc7 (by rw [Tryz.ntmps7];simp) (by rw [Tryz.ntmps7];decide) ?_
  simp -dsimp -implicitDefEqProofs (disch:=omega) only [VCA,↓X6,Nat.reduceEqDiff,↓reduceIte,ne_eq,c7,t2,t2',t3,t4]
  intro r6 h6 r7 h7
  repeat' (first | ((with_reducible refine brC (fun _=>?_) fun _=>?_) <;> try (exfalso;omega)) | (with_reducible apply pcallE.of; · exact cO) | (with_reducible refine And.intro ?_ ?_; · omega) | simp -dsimp -implicitDefEqProofs (disch:=omega) only [VCA,Nat.reduceEqDiff,Nat.reduceAdd,Nat.reduceLT,↓reduceIte,K8,X3,Z8,exists_eq_left',d1])
  have n67:¬ r6=r7:=fun e=>h7.1 e.symm
  have n76:=h7.1
  simp -dsimp -implicitDefEqProofs (disch:=omega) only [VCA,Nat.reduceAdd,Nat.reduceLT,↓reduceIte,exists_eq_left',n67,n76]
  exact ⟨_,Sub.refl _,((((Sub.refl h).upd h6).upd h7.2).upd h6).upd h7.2,.tup' (.cons (vw_noDoc _) (.cons (vw_noIdx _) (.cons (.refl _) .nil)))⟩
structure Mn (ok:List UInt8->Bool) (ws:List (List UInt8)) (next:List UInt8) (found:Bool):Prop where
 no:found=false -> ∀ w∈ws,ok w=false
 yes:found=true->next∈ws/\ok next=true /\ ∀ w∈ws,ok w=true->ltS w next=false
theorem Mn.nil (ok:List UInt8->Bool) (n:List UInt8):Mn ok [] n false:=⟨(fun _ w hw=>by cases hw),(fun h=>by cases h)⟩
theorem Mn.skip {ok:List UInt8->Bool} {ws:List (List UInt8)} {next w:List UInt8} {found:Bool} (M:Mn ok ws next found) (h:ok w=false\/(found=true/\ltS w next=false)):Mn ok (ws++[w]) next found:=by
 refine ⟨fun hf v hv=>?_,fun hf=>?_⟩
 ·rcases List.mem_append.1 hv with hv | hv
  ·exact M.no hf v hv
  ·rw [List.mem_singleton] at hv
   subst hv
   rcases h with h | h
   ·exact h
   ·rw [hf] at h;cases h.1
 ·obtain ⟨h1,h2,h3⟩:=M.yes hf
  refine ⟨List.mem_append_left _ h1,h2,fun v hv hk=>?_⟩
  rcases List.mem_append.1 hv with hv | hv
  ·exact h3 v hv hk
  ·rw [List.mem_singleton] at hv
   subst hv
   rcases h with h | h
   ·rw [hk] at h;cases h
   ·exact h.2
theorem Mn.take {ok:List UInt8->Bool} {ws:List (List UInt8)} {next w:List UInt8} {found:Bool} (M:Mn ok ws next found) (h:ok w=true) (h2:found=true->ltS w next=true):Mn ok (ws++[w]) w true:=by
 refine ⟨(fun hf=>by cases hf),fun _=>⟨List.mem_append_right _ (List.mem_singleton.2 rfl),h,fun v hv hk=>?_⟩⟩
 rcases List.mem_append.1 hv with hv | hv
 ·cases hf:found with
  | false=>rw [M.no hf v hv] at hk;cases hk
  | true=>
    have h3:=(M.yes hf).2.2 v hv hk
    cases hq:ltS v w with
    | false=>rfl
    | true=>rw [ltS_trans _ _ _ hq (h2 hf)] at h3;cases h3
 ·rw [List.mem_singleton] at hv
  subst hv;exact YQ _
def c16:SFun:=⟨.seq (.reg [o 2 (.boxF 24 2 (.t 0)),o 4 (.mv (.c .emp))]) (.seq (.reg [o 5 (.mv (.c .emp))]) (.seq (.reg [o 18 (.ld 2 true (.t 2)),o 19 (.pcall 39 [.t 18,.c (.int .i64 0)]),o 6 (.mv (.t 19))]) (.seq (.reg [o 7 (.mv (.c (.str []))),o 8 (.mv (.c (.bool false)))]) (.block 0 (.loop (.block 1 (.seq (.reg [o 9 (.mv (.c (.str []))),o 10 (.mv (.c (.bool false)))]) (.seq (.seq (.reg [o 11 (.mv (.c (.int .i64 0)))]) (.block 2 (.loop (.seq (.seq (.reg [o 20 (.mv (.t 11)),o 21 (.mv (.t 6)),o 22 (.len (.t 21)),o 23 (.bin .lss (.t 20) (.t 22))]) (.cond (.t 23) .skip (.exit 2))) (.seq (.block 3 (.seq (.dreg [(o 26 (.fldA 0 (.t 2)),none),(o 27 (.ld 1 false (.t 26)),none),(o 28 (.mv (.t 6)),none),(o 29 (.mv (.t 11)),none),(o 30 (.idxA 1 (.t 28) (.t 29)),none),(o 31 (.ld 1 false (.t 30)),none),(o 32 (.idxA 6 (.t 27) (.t 31)),none),(o 33 (.ld 6 true (.t 32)),none),(o 34 (.mv (.t 1)),none),(o 35 (.pcall 40 [.t 33,.t 34]),none),(o 12 (.mv (.t 35)),none)]) (.seq (.reg [o 13 (.mv (.c (.int .i64 0)))]) (.block 4 (.loop (.seq (.seq (.reg [o 36 (.mv (.t 13)),o 37 (.mv (.t 12)),o 38 (.len (.t 37)),o 39 (.bin .lss (.t 36) (.t 38))]) (.cond (.t 39) .skip (.exit 4))) (.seq (.block 5 (.seq (.reg [o 42 (.mv (.t 8)),o 43 (.un .not (.t 42)),o 44 (.mv (.t 43)),⟨some 45,.mv (.t 12),some (44,false)⟩,⟨some 46,.mv (.t 13),some (44,false)⟩,⟨some 47,.idxA 1 (.t 45) (.t 46),some (44,false)⟩,⟨some 48,.ld 1 false (.t 47),some (44,false)⟩,⟨some 49,.mv (.t 7),some (44,false)⟩,⟨some 50,.bin .gtr (.t 48) (.t 49),some (44,false)⟩,o 51 (.pick (.t 44) (.c (.bool true)) (.t 50)),o 52 (.mv (.t 51)),⟨some 53,.mv (.t 10),some (52,true)⟩,⟨some 54,.un .not (.t 53),some (52,true)⟩,⟨some 55,.mv (.t 54),some (52,true)⟩,⟨some 56,.mv (.t 12),some (55,false)⟩,⟨some 57,.mv (.t 13),some (55,false)⟩,⟨some 58,.idxA 1 (.t 56) (.t 57),some (55,false)⟩,⟨some 59,.ld 1 false (.t 58),some (55,false)⟩,⟨some 60,.mv (.t 9),some (55,false)⟩,⟨some 61,.bin .lss (.t 59) (.t 60),some (55,false)⟩,⟨some 62,.pick (.t 55) (.c (.bool true)) (.t 61),some (52,true)⟩,o 63 (.pick (.t 52) (.t 62) (.c (.bool false)))]) (.cond (.t 63) (.reg [o 64 (.mv (.t 12)),o 65 (.mv (.t 13)),o 66 (.idxA 1 (.t 64) (.t 65)),o 67 (.ld 1 false (.t 66)),o 9 (.mv (.t 67)),o 10 (.mv (.c (.bool true)))]) .skip))) (.reg [o 40 (.mv (.t 13)),o 41 (.bin .add (.t 40) (.c (.int .i64 1))),o 13 (.mv (.t 41))])))))))) (.reg [o 24 (.mv (.t 11)),o 25 (.bin .add (.t 24) (.c (.int .i64 1))),o 11 (.mv (.t 25))])))))) (.seq (.seq (.reg [o 68 (.mv (.t 10)),o 69 (.un .not (.t 68))]) (.cond (.t 69) (.seq (.reg [o 70 (.mv (.t 5)),o 4 (.mv (.t 70))]) .ret) .skip)) (.seq (.reg [o 71 (.mv (.t 9)),o 72 (.bld [.str [],.emp] [(0,(1,(.t 71)))]),o 14 (.new 87 2 [.str [],.emp]),⟨none,.st 2 (.t 14) (.t 72),none⟩]) (.seq (.seq (.reg [o 15 (.mv (.c (.int .i64 0)))]) (.block 6 (.loop (.seq (.seq (.reg [o 73 (.mv (.t 15)),o 74 (.mv (.t 6)),o 75 (.len (.t 74)),o 76 (.bin .lss (.t 73) (.t 75))]) (.cond (.t 76) .skip (.exit 6))) (.seq (.block 7 (.seq (.dreg [(o 79 (.fldA 0 (.t 2)),none),(o 80 (.ld 1 false (.t 79)),none),(o 81 (.mv (.t 6)),none),(o 82 (.mv (.t 15)),none),(o 83 (.idxA 1 (.t 81) (.t 82)),none),(o 84 (.ld 1 false (.t 83)),none),(o 85 (.idxA 6 (.t 80) (.t 84)),none),(o 86 (.ld 6 true (.t 85)),none),(o 87 (.mv (.t 1)),none),(o 88 (.pcall 40 [.t 86,.t 87]),none),(o 16 (.mv (.t 88)),none)]) (.seq (.reg [o 17 (.mv (.c (.int .i64 0)))]) (.block 8 (.loop (.seq (.seq (.reg [o 89 (.mv (.t 17)),o 90 (.mv (.t 16)),o 91 (.len (.t 90)),o 92 (.bin .lss (.t 89) (.t 91))]) (.cond (.t 92) .skip (.exit 8))) (.seq (.block 9 (.seq (.reg [o 95 (.mv (.t 16)),o 96 (.mv (.t 17)),o 97 (.idxA 1 (.t 95) (.t 96)),o 98 (.ld 1 false (.t 97)),o 99 (.mv (.t 9)),o 100 (.bin .eql (.t 98) (.t 99))]) (.cond (.t 100) (.dreg [(o 101 (.fldA 1 (.t 14)),none),(o 102 (.ld 1 false (.t 101)),none),(o 103 (.mv (.t 6)),none),(o 104 (.mv (.t 15)),none),(o 105 (.idxA 1 (.t 103) (.t 104)),none),(o 106 (.ld 1 false (.t 105)),none),(o 107 (.bldF 3 1 [.t 106]),none),(o 108 (.app 3 1 8 (.t 102) (.t 107)),(some [102,106])),(o 109 (.fldA 1 (.t 14)),none),(⟨none,.st 1 (.t 109) (.t 108),none⟩,(some [102,106]))]) .skip))) (.reg [o 93 (.mv (.t 17)),o 94 (.bin .add (.t 93) (.c (.int .i64 1))),o 17 (.mv (.t 94))])))))))) (.reg [o 77 (.mv (.t 15)),o 78 (.bin .add (.t 77) (.c (.int .i64 1))),o 15 (.mv (.t 78))])))))) (.seq (.reg [o 110 (.mv (.t 5)),o 111 (.ld 2 true (.t 14)),o 112 (.bldF 87 2 [.t 111]),o 113 (.app 87 2 40 (.t 110) (.t 112)),o 5 (.mv (.t 113))]) (.reg [o 114 (.mv (.t 9)),o 7 (.mv (.t 114)),o 8 (.mv (.c (.bool true)))]))))))))))))),[.tmp 4]⟩
theorem hc16:Y3 Tryz.prog {pure:=[39,40]} Tryz.f16=some c16:=by kernel_rfl
def refB:SCode:=cB (cB (cB (cR (cR (cR (cR c16.code))))))
def fstC:SCode:=cR (cL (cR refB))
def putC:SCode:=cR (cL (cR (cR (cR (cR refB)))))
def Fi (e0 e:Env):Prop:=∀ t,t<=8->e t=e0 t
theorem Fi.refl (e:Env):Fi e e:=fun _ _=>rfl
theorem Fi.put {e0 e:Env} (F:Fi e0 e) {k:Nat} (hk:9<=k) (v:AVal):Fi e0 (upd e k v):=fun t h1=>by
 rw [Q4 _ _ (by omega)];exact F t h1
def okW (begun:Bool) (last w:List UInt8):Bool:=!begun||ltS last w
structure RD (d:HDoc) (l:List Int):Prop where
 sm:DocSm d
 V:DV d
 ll:l.length<=200
 mem:∀ n∈l,inD d n
theorem gtS_is (a b:List UInt8):(!(Op.bytesLess a b||a==b))=ltS b a:=by
 rcases ltS_tri a b with h | h | h
 ·have h':Op.bytesLess a b=true:=h
  rw [h',ltS_asym h];rfl
 ·subst h
  have h':Op.bytesLess a a=false:=YQ a
  rw [h'];simp [YQ]
 ·have h':Op.bytesLess a b=false:=ltS_asym h
  have h2:(a==b)=false:=by
   rw [beq_eq_false_iff_ne];intro e;subst e;rw [YQ] at h;cases h
  rw [h',h2,h];rfl
theorem fst_ok {d:HDoc} {l:List Int} (R:RD d l) {c:Nat} (hc:c<4) {e:Env} {h:Q2} {K:SExit->Env->Q2->Prop} {last:List UInt8} {begun:Bool} (e1:e 1=Q3 ((c:Int)+1)) (e2:e 2=.pin (Q8 d)) (e6:e 6=sl Z6 l) (e7:e 7=.str last) (e8:e 8=.bool begun) (e9:e 9=.str []) (e10:e 10=.bool false) (e11:e 11=Q3 0)
 (hK:∀ (e':Env) next found,Fi e e'->e' 9=.str next->e' 10=.bool found->Mn (okW begun last) ((ZK d l c).map (·.1)) next found->K .normal e' h):vc (Pg G) fstC K e h:=by
 have hdl:=R.V.len
 have hll:=R.ll
 skip
 simp -dsimp -implicitDefEqProofs (disch:=omega) only [VCA,fstC,refB,cL,cR,cB,c16]
 refine LoopVC.intro (fun m e' h'=>∃ (i:Nat) (next:List UInt8) (found:Bool),i<=l.length/\m=l.length-i/\Fi e e'/\e' 9=.str next/\e' 10=.bool found/\e' 11=Q3 i/\h'=h/\Mn (okW begun last) ((ZK d (l.take i) c).map (·.1)) next found) l.length
  (by exact ⟨0,[],false,by omega,by omega,.refl e,e9,e10,e11,rfl,.nil _ _⟩) ?_
 rintro m e' h' ⟨i,next,found,hi,rfl,hp,e9',e10',e11',rfl,M⟩
 have e1':=(hp 1 (by omega)).trans e1
 have e2':=(hp 2 (by omega)).trans e2
 have e6':=(hp 6 (by omega)).trans e6
 simp -dsimp -implicitDefEqProofs (disch:=omega) only [VCA,Nat.reduceEqDiff,↓reduceIte,e6',e11']
 refine Br.dec (fun hlt=>?_) (fun hge=>?_)
 ·have hi':i<l.length:=by omega
  have hn:=R.mem _ (Y7 hi')
  have n0:=hn.1
  have n1:=hn.2
  have hW:=KZ R.V hn
  have hx:=TU (R.V.node _ hn) ZJ
  have cW:=refWordsOf_ok (G:=G) (nd d (nth l i)) (R.sm.nd _) (by omega) c hc
  have en:nth d.nodes (nth l i).toNat=nd d (nth l i):=rfl
  have hwl:=hW.le c hc
  obtain ⟨W,hWe⟩:∃ W,nth (J7 (nd d (nth l i))) c=W:=⟨_,rfl⟩
  have hts:ZK d (l.take (i+1)) c=ZK d (l.take i) c++prs W (nth l i):=by rw [X1 hi',prsD_snoc,hWe]
  have hsn:(ZK d (l.take (i+1)) c).map (·.1)=(ZK d (l.take i) c).map (·.1)++W:=by
   rw [hts,List.map_append]
   congr 1
   unfold prs
   rw [List.map_map]
   exact List.map_id' _
  rw [hWe] at cW hwl
  unfold Q7 at cW
  repeat' (first | ((with_reducible refine brC (fun _=>?_) fun _=>?_) <;> try (exfalso;omega)) | (with_reducible apply pcallE.of; · exact cW) | (with_reducible refine And.intro ?_ ?_; · omega) | simp -dsimp -implicitDefEqProofs (disch:=omega) only [VCA,Nat.reduceEqDiff,Nat.reduceAdd,Nat.reduceLeDiff,↓reduceIte,Y8,Z0,J1,Z6,Q7,e1',e2',e6',e11',Q8,en])
  refine LoopVC.intro (fun m e2 h2=>∃ (k:Nat) (next:List UInt8) (found:Bool),k<=W.length/\m=W.length-k/\Fi e e2/\e2 9=.str next/\e2 10=.bool found/\e2 11=Q3 i/\e2 12=sl T0 W/\e2 13=Q3 k/\h2=h'/\Mn (okW begun last) ((ZK d (l.take i) c).map (·.1)++W.take k) next found) W.length
   (by exact ⟨0,next,found,by omega,by omega,by repeat' (first | exact hp | refine Fi.put ?_ (by omega) _),e9',e10',e11',rfl,rfl,rfl,by rw [List.take_zero,List.append_nil];exact M⟩) ?_
  clear M
  rintro m e2 h2 ⟨k,next,found,hk,rfl,hp2,f9,f10,f11,f12,f13,rfl,M⟩
  have f7:=(hp2 7 (by omega)).trans e7
  have f8:=(hp2 8 (by omega)).trans e8
  simp -dsimp -implicitDefEqProofs (disch:=omega) only [VCA,Nat.reduceEqDiff,↓reduceIte,f12,f13]
  refine Br.dec (fun hlt2=>?_) (fun hge2=>?_)
  ·have hk':k<W.length:=by omega
   have hg:=gtS_is (nth W k) last
   have tk:W.take (k+1)=W.take k++[nth W k]:=X1 hk'
   have fin:∀ {nx fd},Mn (okW begun last) ((ZK d (l.take i) c).map (·.1)++W.take k++[nth W k]) nx fd->Mn (okW begun last) ((ZK d (l.take i) c).map (·.1)++W.take (k+1)) nx fd:=fun q=>by rw [tk,<-List.append_assoc];exact q
   cases hb:begun <;> rw [hb] at f8 M fin
   ·have ok:okW false last (nth W k)=true:=rfl
    cases hf:found <;> rw [hf] at f10 M
    ·repeat' (first | ((with_reducible refine brC (fun _=>?_) fun _=>?_) <;> try (exfalso;omega)) | (with_reducible refine And.intro ?_ ?_; · omega) | simp -dsimp -implicitDefEqProofs (disch:=omega) only [↓Q1 44,↓Q1 52,↓Q1 55,VCA,Nat.reduceEqDiff,↓reduceIte,T0,f8,f10,f11,f12,f13])
     exact ⟨_,by omega,k+1,_,_,by omega,rfl,by repeat' (first | exact hp2 | refine Fi.put ?_ (by omega) _),rfl,rfl,by omega,fin (M.take ok fun h=>by cases h)⟩
    ·cases hl:ltS (nth W k) next
     ·have hl':Op.bytesLess (nth W k) next=false:=hl
      repeat' (first | ((with_reducible refine brC (fun _=>?_) fun _=>?_) <;> try (exfalso;omega)) | (with_reducible refine And.intro ?_ ?_; · omega) | simp -dsimp -implicitDefEqProofs (disch:=omega) only [↓Q1 44,↓Q1 52,↓Q1 55,VCA,Nat.reduceEqDiff,↓reduceIte,T0,f8,f9,f10,f11,f12,f13,hl'])
      exact ⟨_,by omega,k+1,_,_,by omega,rfl,by repeat' (first | exact hp2 | refine Fi.put ?_ (by omega) _),rfl,rfl,by omega,fin (M.skip (.inr ⟨rfl,hl⟩))⟩
     ·have hl':Op.bytesLess (nth W k) next=true:=hl
      repeat' (first | ((with_reducible refine brC (fun _=>?_) fun _=>?_) <;> try (exfalso;omega)) | (with_reducible refine And.intro ?_ ?_; · omega) | simp -dsimp -implicitDefEqProofs (disch:=omega) only [↓Q1 44,↓Q1 52,↓Q1 55,VCA,Nat.reduceEqDiff,↓reduceIte,T0,f8,f9,f10,f11,f12,f13,hl'])
      exact ⟨_,by omega,k+1,_,_,by omega,rfl,by repeat' (first | exact hp2 | refine Fi.put ?_ (by omega) _),rfl,rfl,by omega,fin (M.take ok fun _=>hl)⟩
   ·cases hg2:ltS last (nth W k) <;> rw [hg2] at hg
    ·have ok:okW true last (nth W k)=false:=hg2
     repeat' (first | ((with_reducible refine brC (fun _=>?_) fun _=>?_) <;> try (exfalso;omega)) | (with_reducible refine And.intro ?_ ?_; · omega) | simp -dsimp -implicitDefEqProofs (disch:=omega) only [↓Q1 44,↓Q1 52,↓Q1 55,VCA,Nat.reduceEqDiff,↓reduceIte,T0,f7,f8,f9,f10,f11,f12,f13,hg])
     exact ⟨_,by omega,k+1,_,_,by omega,rfl,by repeat' (first | exact hp2 | refine Fi.put ?_ (by omega) _),rfl,rfl,by omega,fin (M.skip (.inl ok))⟩
    ·have ok:okW true last (nth W k)=true:=hg2
     cases hf:found <;> rw [hf] at f10 M
     ·repeat' (first | ((with_reducible refine brC (fun _=>?_) fun _=>?_) <;> try (exfalso;omega)) | (with_reducible refine And.intro ?_ ?_; · omega) | simp -dsimp -implicitDefEqProofs (disch:=omega) only [↓Q1 44,↓Q1 52,↓Q1 55,VCA,Nat.reduceEqDiff,↓reduceIte,T0,f7,f8,f10,f11,f12,f13,hg])
      exact ⟨_,by omega,k+1,_,_,by omega,rfl,by repeat' (first | exact hp2 | refine Fi.put ?_ (by omega) _),rfl,rfl,by omega,fin (M.take ok fun h=>by cases h)⟩
     ·cases hl:ltS (nth W k) next
      ·have hl':Op.bytesLess (nth W k) next=false:=hl
       repeat' (first | ((with_reducible refine brC (fun _=>?_) fun _=>?_) <;> try (exfalso;omega)) | (with_reducible refine And.intro ?_ ?_; · omega) | simp -dsimp -implicitDefEqProofs (disch:=omega) only [↓Q1 44,↓Q1 52,↓Q1 55,VCA,Nat.reduceEqDiff,↓reduceIte,T0,f7,f8,f9,f10,f11,f12,f13,hg,hl'])
       exact ⟨_,by omega,k+1,_,_,by omega,rfl,by repeat' (first | exact hp2 | refine Fi.put ?_ (by omega) _),rfl,rfl,by omega,fin (M.skip (.inr ⟨rfl,hl⟩))⟩
      ·have hl':Op.bytesLess (nth W k) next=true:=hl
       repeat' (first | ((with_reducible refine brC (fun _=>?_) fun _=>?_) <;> try (exfalso;omega)) | (with_reducible refine And.intro ?_ ?_; · omega) | simp -dsimp -implicitDefEqProofs (disch:=omega) only [↓Q1 44,↓Q1 52,↓Q1 55,VCA,Nat.reduceEqDiff,↓reduceIte,T0,f7,f8,f9,f10,f11,f12,f13,hg,hl'])
       exact ⟨_,by omega,k+1,_,_,by omega,rfl,by repeat' (first | exact hp2 | refine Fi.put ?_ (by omega) _),rfl,rfl,by omega,fin (M.take ok fun _=>hl)⟩
  ·obtain rfl:k=W.length:=by omega
   rw [List.take_length,<-hsn] at M
   simp -dsimp -implicitDefEqProofs (disch:=omega) only [VCA,Nat.reduceEqDiff,↓reduceIte,f11]
   exact ⟨_,by omega,i+1,next,found,by omega,rfl,by repeat' (first | exact hp2 | refine Fi.put ?_ (by omega) _),f9,f10,by omega,M⟩
 ·obtain rfl:i=l.length:=by omega
  rw [List.take_length] at M
  simp -dsimp -implicitDefEqProofs (disch:=omega) only [VCA,↓reduceIte]
  exact hK _ _ _ (by repeat' (first | exact hp | refine Fi.put ?_ (by omega) _)) e9' e10' M
def Fj (e0 e:Env):Prop:=∀ t,t<=10\/t=14->e t=e0 t
theorem Fj.refl (e:Env):Fj e e:=fun _ _=>rfl
theorem Fj.put {e0 e:Env} (F:Fj e0 e) {k:Nat} (hk:15<=k) (v:AVal):Fj e0 (upd e k v):=fun t h1=>by
 rw [Q4 _ _ (by omega)];exact F t h1
structure Rw (h h':Q2) (r:Nat) (w:List UInt8) (ns:List Int) (a:AVal):Prop where
 row:h' r=some ⟨.t 87,2,[[.str w,a]]⟩
 acc:Acc (del h r) 3 1 (ns.map Z6) a h'
 sub:Sim.Sub (del h r) h'
 ne:Q9 a≠some r
theorem put2_ok {d:HDoc} {l:List Int} (R:RD d l) {c:Nat} (hc:c<4) {e:Env} {h:Q2} {K:SExit->Env->Q2->Prop} {w:List UInt8} {r:Nat} (e1:e 1=Q3 ((c:Int)+1)) (e2:e 2=.pin (Q8 d)) (e6:e 6=sl Z6 l) (e9:e 9=.str w) (e14:e 14=.vp r 0) (e15:e 15=Q3 0) (hr:h r=some ⟨.t 87,2,[[.str w,.emp]]⟩)
 (hK:∀ (e':Env) h' a,Fj e e'->Rw h h' r w (K5 (ZK d l c) w) a->K .normal e' h'):vc (Pg G) putC K e h:=by
 have hdl:=R.V.len
 have hll:=R.ll
 skip
 simp -dsimp -implicitDefEqProofs (disch:=omega) only [VCA,putC,refB,cL,cR,cB,c16]
 refine LoopVC.intro (fun m e' h'=>∃ (i:Nat) (a:AVal),i<=l.length/\m=l.length-i/\Fj e e'/\e' 15=Q3 i/\Rw h h' r w (K5 (ZK d (l.take i) c) w) a) l.length
  (by exact ⟨0,.emp,by omega,by omega,.refl e,e15,hr,.nil,fun t o ht=>by
    unfold del at ht;split at ht
    ·cases ht
    ·exact ht,fun q=>by cases q⟩) ?_
 rintro m e' h' ⟨i,a,hi,rfl,hp,e15',W0⟩
 have e1':=(hp 1 (by omega)).trans e1
 have e2':=(hp 2 (by omega)).trans e2
 have e6':=(hp 6 (by omega)).trans e6
 simp -dsimp -implicitDefEqProofs (disch:=omega) only [VCA,Nat.reduceEqDiff,↓reduceIte,e6',e15']
 refine Br.dec (fun hlt=>?_) (fun hge=>?_)
 ·have hi':i<l.length:=by omega
  have hn:=R.mem _ (Y7 hi')
  have n0:=hn.1
  have n1:=hn.2
  have hW:=KZ R.V hn
  have hx:=TU (R.V.node _ hn) ZJ
  have cW:=refWordsOf_ok (G:=G) (nd d (nth l i)) (R.sm.nd _) (by omega) c hc
  have en:nth d.nodes (nth l i).toNat=nd d (nth l i):=rfl
  have hwl:=hW.le c hc
  obtain ⟨W,hWe⟩:∃ W,nth (J7 (nd d (nth l i))) c=W:=⟨_,rfl⟩
  have hts:ZK d (l.take (i+1)) c=ZK d (l.take i) c++prs W (nth l i):=by rw [X1 hi',prsD_snoc,hWe]
  have hpl:=prsD_len R.V (l:=l.take i) (fun n hn=>R.mem n (List.mem_of_mem_take hn)) hc
  have hpl2:(l.take i).length=i:=by rw [List.length_take];omega
  rw [hpl2] at hpl
  obtain ⟨P,hP⟩:∃ P,ZK d (l.take i) c=P:=⟨_,rfl⟩
  rw [hP] at W0 hts hpl
  rw [hWe] at cW hwl
  unfold Q7 at cW
  repeat' (first | ((with_reducible refine brC (fun _=>?_) fun _=>?_) <;> try (exfalso;omega)) | (with_reducible apply pcallE.of; · exact cW) | (with_reducible refine And.intro ?_ ?_; · omega) | simp -dsimp -implicitDefEqProofs (disch:=omega) only [VCA,Nat.reduceEqDiff,Nat.reduceAdd,Nat.reduceLeDiff,↓reduceIte,Y8,Z0,J1,Z6,Q7,e1',e2',e6',e15',Q8,en])
  refine LoopVC.intro (fun m e2 h2=>∃ (k:Nat) (a:AVal),k<=W.length/\m=W.length-k/\Fj e e2/\e2 15=Q3 i/\e2 16=sl T0 W/\e2 17=Q3 k/\Rw h h2 r w (K5 (P++prs (W.take k) (nth l i)) w) a) W.length
   (by exact ⟨0,a,by omega,by omega,by repeat' (first | exact hp | refine Fj.put ?_ (by omega) _),e15',rfl,rfl,by rw [List.take_zero];show Rw h h' r w (K5 (P++[]) w) a;rw [List.append_nil];exact W0⟩) ?_
  clear W0
  rintro m e2 h2 ⟨k,a,hk,rfl,hp2,f15,f16,f17,W1⟩
  have f9:=(hp2 9 (by omega)).trans e9
  have f6:=(hp2 6 (by omega)).trans e6
  have f14:=(hp2 14 (by omega)).trans e14
  have hrow:=W1.row
  simp -dsimp -implicitDefEqProofs (disch:=omega) only [VCA,Nat.reduceEqDiff,↓reduceIte,f16,f17]
  refine Br.dec (fun hlt2=>?_) (fun hge2=>?_)
  ·have hk':k<W.length:=by omega
   have tk:P++prs (W.take (k+1)) (nth l i)=(P++prs (W.take k) (nth l i))++[(nth W k,nth l i)]:=by
    rw [X1 hk',List.append_assoc];unfold prs;rw [List.map_append];rfl
   by_cases hw:nth W k=w
   ·have d1:(nth W k==w)=true:=by simpa using hw
    have hln:=nodesOf_len (P++prs (W.take k) (nth l i)) w
    rw [List.length_append,prs_len,List.length_take] at hln
    have ns:K5 (P++prs (W.take (k+1)) (nth l i)) w=K5 (P++prs (W.take k) (nth l i)) w++[nth l i]:=by
     rw [tk,QT,JV,if_pos hw]
    simp -dsimp -implicitDefEqProofs (disch:=omega) only [VCA,Nat.reduceEqDiff,Nat.reduceAdd,Nat.reduceLT,↓reduceIte,Y8,Z0,Z7,forall_eq,exists_eq_left,exists_eq_left',J1,Z6,T0,f6,f9,f14,f15,f16,f17,d1,hrow]
    refine ⟨⟨by omega,by omega⟩,⟨by omega,by omega⟩,W1.acc.appW W1.sub (by simp only [List.length_map,List.length_cons,List.length_nil];omega) (by simp only [List.length_map,List.length_cons,List.length_nil];omega) fun a' h3 A' S' kp=>?_⟩
    obtain ⟨k1,k2⟩:=kp r _ hrow W1.ne
    refine ⟨fun p hp hc=>?_,?_⟩
    ·rw [List.mem_singleton] at hp;subst hp;simp [SOp.rd] at hc
    have iv:=(OwnS.of_acc A').1.isV
    simp -dsimp -implicitDefEqProofs (disch:=omega) only [VCA,Nat.reduceEqDiff,Nat.reduceBEq,Nat.reduceAdd,Nat.reduceLT,↓reduceIte,Y8,Z0,SOp.rd,SI.rd,SX.rd,Z8,exists_eq_left',J1,f14,f15,f16,f17,k1]
    refine ⟨iv.1,by rw [iv.2];rfl,_,by omega,k+1,a',by omega,rfl,by repeat' (first | exact hp2 | refine Fj.put ?_ (by omega) _),by omega,?_⟩
    rw [ns]
    refine ⟨?_,?_,?_,k2⟩
    ·rw [Q5,iv.2];rfl
    ·rw [List.map_append]
     exact A'.keepA k2 _
    ·exact S'.upd (by unfold del;rw [if_pos rfl])
   ·have d1:(nth W k==w)=false:=by simpa using hw
    have ns:K5 (P++prs (W.take (k+1)) (nth l i)) w=K5 (P++prs (W.take k) (nth l i)) w:=by
     rw [tk,QT,JV,if_neg hw,List.append_nil]
    rw [<-ns] at W1
    simp -dsimp -implicitDefEqProofs (disch:=omega) only [VCA,Nat.reduceEqDiff,↓reduceIte,T0,f9,f16,f17,d1]
    exact ⟨⟨by omega,by omega⟩,_,by omega,k+1,a,by omega,rfl,by repeat' (first | exact hp2 | refine Fj.put ?_ (by omega) _),f15,by omega,W1⟩
  ·obtain rfl:k=W.length:=by omega
   rw [List.take_length,<-hts] at W1
   simp -dsimp -implicitDefEqProofs (disch:=omega) only [VCA,Nat.reduceEqDiff,↓reduceIte,f15]
   exact ⟨_,by omega,i+1,a,by omega,rfl,by repeat' (first | exact hp2 | refine Fj.put ?_ (by omega) _),by omega,W1⟩
 ·obtain rfl:i=l.length:=by omega
  rw [List.take_length] at W0
  simp -dsimp -implicitDefEqProofs (disch:=omega) only [VCA,↓reduceIte]
  exact hK _ _ _ (by repeat' (first | exact hp | refine Fj.put ?_ (by omega) _)) W0
structure RA (h0 h:Q2) (L:List HRef) (a:AVal) (nv:Nat->AVal):Prop where
 acc:Acc h0 87 2 (ZY L nv) a h
 sub:Sim.Sub h0 h
 num:∀ j,j<L.length->OwnS h 3 1 ((nth L j).nodes.map Z6) (nv j) /\ ∀ r,Q9 (nv j)=some r->h0 r=none/\Q9 a≠some r
theorem RA.nil (h:Q2):RA h h [] .emp fun _=>.emp:=⟨.nil,Sub.refl _,fun j hj=>absurd hj (Nat.not_lt_zero j)⟩
theorem RA.vwN {h0 h:Q2} {L:List HRef} {a:AVal} {nv:Nat->AVal} (R:RA h0 h L a nv):Vw (newH h0 h) a (sl X8 L):=by
 obtain ⟨O,hf,M⟩:=OwnS.of_acc R.acc
 exact spine_vwN O M hf fun j hj=>⟨(R.num j hj).1,fun r hr=>((R.num j hj).2 r hr).1⟩
theorem rowsR_snoc (l:List HRef) (nv:Nat->AVal) (x:HRef) (v:AVal):ZY (l++[x]) (fun j=>if j<l.length then nv j else v)=ZY l nv++[[.str x.word,v]]:=by
 unfold ZY
 rw [List.length_append,List.length_singleton,List.range_succ,List.map_append]
 congr 1
 ·refine List.map_congr_left fun j hj=>?_
  have hj:=List.mem_range.1 hj
  have e1:nth (l++[x]) j=nth l j:=by
   unfold nth
   rw [List.getD_eq_getElem?_getD,List.getD_eq_getElem?_getD,List.getElem?_append_left hj]
  unfold rowR
  simp only [if_pos hj,e1]
 ·have e1:nth (l++[x]) l.length=x:=by
   unfold nth
   rw [List.getD_eq_getElem?_getD,List.getElem?_append_right (Nat.le_refl _),Nat.sub_self];rfl
  unfold rowR
  simp only [List.map_cons,List.map_nil,if_neg (Nat.lt_irrefl _),e1]
theorem RA.keep {h0 h h2:Q2} {L:List HRef} {a:AVal} {nv:Nat->AVal} (A:RA h0 h L a nv) (hs:Sim.Sub h h2):RA h0 h2 L a nv:=
 ⟨A.acc.re fun r o h1 h3=>⟨h1,hs r o h3⟩,fun r o hr=>hs r o (A.sub r o hr),fun j hj=>⟨(A.num j hj).1.keep fun r o _ ho=>hs r o ho,(A.num j hj).2⟩⟩
theorem RA.snoc {h0 h h2:Q2} {L:List HRef} {a a2 v:AVal} {nv:Nat->AVal} {x:HRef} (A:RA h0 h L a nv) (O:OwnS h 3 1 (x.nodes.map Z6) v) (hv:∀ r,Q9 v=some r->h0 r=none/\Q9 a≠some r)
 (A2:Acc h0 87 2 (ZY L nv++[[.str x.word,v]]) a2 h2) (S2:Sim.Sub h0 h2) (kp:∀ r o,h r=some o->Q9 a≠some r->h2 r=some o/\Q9 a2≠some r):RA h0 h2 (L++[x]) a2 (fun j=>if j<L.length then nv j else v):=by
 refine ⟨by rw [rowsR_snoc];exact A2,S2,fun j hj=>?_⟩
 have one:∀ {ns:List Int} {b:AVal},OwnS h 3 1 (ns.map Z6) b->(∀ r,Q9 b=some r->h0 r=none/\Q9 a≠some r)->OwnS h2 3 1 (ns.map Z6) b /\ ∀ r,Q9 b=some r->h0 r=none/\Q9 a2≠some r:=fun O hb=>
  ⟨O.keep fun r o hr ho=>(kp r o ho (hb r hr).2).1,fun r hr=>by
    obtain ⟨o,ho⟩:=O.root hr
    exact ⟨(hb r hr).1,(kp r o ho (hb r hr).2).2⟩⟩
 by_cases q:j<L.length
 ·simp only [if_pos q]
  have e1:nth (L++[x]) j=nth L j:=by
   unfold nth
   rw [List.getD_eq_getElem?_getD,List.getD_eq_getElem?_getD,List.getElem?_append_left q]
  rw [e1]
  exact one (A.num j q).1 (A.num j q).2
 ·simp only [if_neg q]
  rw [List.length_append,List.length_singleton] at hj
  have e0:j=L.length:=by omega
  have e1:nth (L++[x]) j=x:=by
   unfold nth
   rw [e0,List.getD_eq_getElem?_getD,List.getElem?_append_right (Nat.le_refl _),Nat.sub_self];rfl
  rw [e1]
  exact one O hv
theorem next_is {L:List HRef} {P:YV} (S:Spec L P) {k:Nat} (hk:k<=L.length) {last next:List UInt8} {found:Bool} (hl:0<k->last=(nth L (k-1)).word) (M:Mn (okW (decide (0<k)) last) (P.map (·.1)) next found) :
 (found=true->k<L.length/\next=(nth L k).word)/\(found=false->k=L.length):=by
 have mem:∀ w,w∈P.map (·.1) ↔ ∃ j,j<L.length/\(nth L j).word=w:=fun w=>by
  constructor
  ·intro h
   obtain ⟨⟨v,m⟩,hm,rfl⟩:=List.mem_map.1 h
   exact S.all v fun e=>by have:=mem_nodesOf.2 hm;rw [e] at this;cases this
  ·rintro ⟨j,hj,rfl⟩
   obtain ⟨m,hm⟩:=List.exists_mem_of_ne_nil _ (S.row j hj).2
   exact List.mem_map.2 ⟨_,mem_nodesOf.1 hm,rfl⟩
 have ok:∀ j,j<L.length->(okW (decide (0<k)) last (nth L j).word=true↔k<=j):=fun j hj=>by
  unfold okW
  by_cases h0:0<k
  ·rw [decide_eq_true h0,hl h0]
   show (false||ltS _ _)=true↔_
   rw [Bool.false_or]
   constructor
   ·intro h
    refine Classical.byContradiction fun hc=>?_
    by_cases e:j=k-1
    ·rw [e,YQ] at h;cases h
    ·have:=S.rise.lt (show j<k-1 by omega) (by omega)
     rw [ltS_asym this] at h;cases h
   ·intro h;exact S.rise.lt (by omega) hj
  ·rw [decide_eq_false h0]
   exact ⟨fun _=>by omega,fun _=>rfl⟩
 refine ⟨fun hf=>?_,fun hf=>?_⟩
 ·obtain ⟨h1,h2,h3⟩:=M.yes hf
  obtain ⟨j,hj,rfl⟩:=(mem _).1 h1
  have hkj:=(ok j hj).1 h2
  have hkl:k<L.length:=by omega
  refine ⟨hkl,?_⟩
  have h4:=h3 _ ((mem _).2 ⟨k,hkl,rfl⟩) ((ok k hkl).2 (Nat.le_refl _))
  by_cases e:j=k
  ·rw [e]
  ·rw [S.rise.lt (show k<j by omega) hj] at h4;cases h4
 ·refine Classical.byContradiction fun hc=>?_
  have hkl:k<L.length:=by omega
  have:=M.no hf _ ((mem _).2 ⟨k,hkl,rfl⟩)
  rw [(ok k hkl).2 (Nat.le_refl _)] at this;cases this
theorem refs_ok (d:HDoc) (V:DV d) (sm:DocSm d) {c:Nat} (hc:c<4):PCalls (Pg G) 16 [.agg (Q8 d),Q3 ((c:Int)+1)] (sl X8 (V5 d c)):=PCalls.outV fun h=>by
 have h0:=V.zero
 have cB:=below_ok (G:=G) d V sm 0 h0
 have RDl:RD d (Z5 d 0):=⟨sm,V,by have:=XV V h0;have:=V.len;omega,X5 V 0 h0⟩
 have S:=idxC_is d c
 have hLl:=idxL_len (ZK d (Z5 d 0) c)
 have hpl:=prsD_len V (l:=Z5 d 0) (X5 V 0 h0) hc
 have hll:=RDl.ll
 obtain ⟨L,hL⟩:∃ L,V5 d c=L:=⟨_,rfl⟩
 rw [show idxL (ZK d (Z5 d 0) c)=V5 d c from rfl,hL] at hLl
 rw [hL] at S ⊢
 obtain ⟨l,hl⟩:∃ l,Z5 d 0=l:=⟨_,rfl⟩
 rw [hl] at cB RDl S hpl hll hLl
 unfold Q8 at cB
 refine Q0 Tryz.func16 (by kernel_rfl) hc16 (by rw [Tryz.ntmps16];simp) (by rw [Tryz.ntmps16];decide) ?_
 simp -dsimp -implicitDefEqProofs (disch:=omega) only [VCA,Nat.reduceEqDiff,Nat.reduceAdd,↓reduceIte,c16,Q8]
 repeat' (first | ((with_reducible refine brC (fun _=>?_) fun _=>?_) <;> try (exfalso;omega)) | (with_reducible apply pcallE.of; · exact cB) | (with_reducible refine And.intro ?_ ?_; · omega) | simp -dsimp -implicitDefEqProofs (disch:=omega) only [VCA,↓reduceIte])
 refine LoopVC.intro (fun m e h'=>∃ (k:Nat) (nv:Nat->AVal) (last:List UInt8),k<=L.length/\m=L.length-k/\e 1=Q3 ((c:Int)+1)/\e 2=.pin (Q8 d)/\e 6=sl Z6 l/\e 7=.str last/\e 8=.bool (decide (0<k))/\RA h h' (L.take k) (e 5) nv/\(0<k->last=(nth L (k-1)).word)) L.length
  (by exact ⟨0,_,[],by omega,by omega,rfl,rfl,rfl,rfl,rfl,RA.nil h,fun h=>absurd h (Nat.lt_irrefl 0)⟩) ?_
 rintro m e h' ⟨k,nv,last,hk,rfl,e1,e2,e6,e7,e8,A,hlast⟩
 simp -dsimp -implicitDefEqProofs (disch:=omega) only [VCA]
 refine fst_ok (G:=G) RDl hc (last:=last) (begun:=decide (0<k)) ?_ ?_ ?_ ?_ ?_ ?_ ?_ ?_ ?_
 ·exact e1
 ·exact e2
 ·exact e6
 ·exact e7
 ·exact e8
 ·rfl
 ·rfl
 ·rfl
 intro e' next found hp f9 f10 M
 obtain ⟨N1,N2⟩:=next_is S hk hlast M
 have g1:=(hp 1 (by omega)).trans e1
 have g2:=(hp 2 (by omega)).trans e2
 have g5:=hp 5 (by omega)
 have g6:=(hp 6 (by omega)).trans e6
 cases hf:found
 ·obtain rfl:=N2 hf
  rw [hf] at f10
  rw [List.take_length] at A
  simp -dsimp -implicitDefEqProofs (disch:=omega) only [VCA,Nat.reduceEqDiff,↓reduceIte,f10,g5]
  exact ⟨_,Sub.refl _,A.sub,.one _ _ A.vwN⟩
 ·obtain ⟨hk',hw⟩:=N1 hf
  rw [hf] at f10
  have hS:=(S.row k hk').1
  rw [<-hw] at hS
  have hln:=nodesOf_len (ZK d l c) next
  simp -dsimp -implicitDefEqProofs (disch:=omega) only [VCA,Nat.reduceEqDiff,Nat.reduceAdd,Nat.reduceLT,Nat.reduceLeDiff,↓reduceIte,K8,X3,Z8,exists_eq_left',f9,f10]
  intro r hr
  refine put2_ok (G:=G) RDl hc (w:=next) (r:=r) ?_ ?_ ?_ ?_ ?_ ?_ ?_ ?_
  ·exact g1
  ·exact g2
  ·exact g6
  ·exact f9
  ·rfl
  ·rfl
  ·exact Q5 _ _ _
  intro e2 h3 a hq W
  have q9:e2 9=.str next:=(hq 9 (by omega)).trans f9
  have q1:e2 1=_:=(hq 1 (by omega)).trans g1
  have q2:e2 2=_:=(hq 2 (by omega)).trans g2
  have q5:e2 5=e 5:=(hq 5 (by omega)).trans g5
  have q6:e2 6=_:=(hq 6 (by omega)).trans g6
  have q14:e2 14=.vp r 0:=hq 14 (by omega)
  have hrow:=W.row
  have hs:Sim.Sub h' h3:=fun t o ht=>W.sub t o (by
   have hne:t≠r:=fun e=>by rw [e,hr] at ht;cases ht
   unfold del;rw [if_neg hne,Q4 _ _ hne];exact ht)
  have A3:=A.keep hs
  obtain ⟨O,hfr,M2⟩:=OwnS.of_acc W.acc
  rw [<-hS] at O
  have iv:=O.isV
  have hv:∀ t,Q9 a=some t->h t=none/\Q9 (e 5)≠some t:=fun t ht=>by
   have h1:=hfr t ht
   have hne:t≠r:=fun e=>W.ne (by rw [ht,e])
   unfold del at h1
   rw [if_neg hne,Q4 _ _ hne] at h1
   refine ⟨A.sub.none h1,fun e=>?_⟩
   obtain ⟨o,ho⟩:=(OwnS.of_acc A.acc).1.root e
   rw [h1] at ho;cases ho
  have hll2:(L.take k).length=k:=by rw [List.length_take];omega
  simp -dsimp -implicitDefEqProofs (disch:=omega) only [VCA,Nat.reduceEqDiff,Nat.reduceAdd,Nat.reduceLT,↓reduceIte,Z7,forall_eq,exists_eq_left,exists_eq_left',q5,q14,hrow]
  refine A3.acc.appW A3.sub (by rw [J8,hll2];simp only [List.length_cons,List.length_nil];omega) (by rw [J8,hll2];simp only [List.length_cons,List.length_nil];omega) fun a2 h4 A4 S4 kp=>?_
  rw [hw] at A4
  have A5:=A3.snoc (x:=nth L k) O hv A4 S4 kp
  rw [<-X1 hk'] at A5
  simp -dsimp -implicitDefEqProofs (disch:=omega) only [VCA,Nat.reduceEqDiff,↓reduceIte,q9]
  refine ⟨_,by omega,k+1,_,next,by omega,rfl,q1,q2,q6,rfl,?_,A5,fun _=>?_⟩
  ·congr 1
  ·rw [Nat.add_sub_cancel];exact hw
def c6:SFun:=⟨.seq (.reg [o 1 (.boxF 24 2 (.t 0)),o 2 (.new 27 4 [.emp,.emp,.emp,.emp])]) (.seq (.dreg [(o 3 (.ld 2 true (.t 1)),none),(o 4 (.pcall 16 [.t 3,.c (.int .i64 1)]),none),(o 5 (.ld 2 true (.t 1)),none),(o 6 (.pcall 16 [.t 5,.c (.int .i64 2)]),none),(o 7 (.ld 2 true (.t 1)),none),(o 8 (.pcall 16 [.t 7,.c (.int .i64 3)]),none),(o 9 (.ld 2 true (.t 1)),none),(o 10 (.pcall 16 [.t 9,.c (.int .i64 4)]),none),(o 11 (.bld [.emp,.emp,.emp,.emp] [(0,(1,(.t 4))),(1,(1,(.t 6))),(2,(1,(.t 8))),(3,(1,(.t 10)))]),none),(⟨none,.st 4 (.t 2) (.t 11),none⟩,(some [9,7,5,3]))]) .ret),[.cell 2 4 true]⟩
theorem hc6:Y3 Tryz.prog {pure:=[16]} Tryz.f6=some c6:=by kernel_rfl
theorem refIndexOf_ok (d:HDoc) (V:DV d) (sm:DocSm d):PCalls (Pg G) 6 [.agg (Q8 d)] (.agg (QQ (YT d))):=PCalls.outV fun h=>by
 have c1:PCalls (Pg G) 16 [.agg (Q8 d),Q3 1] (sl X8 (V5 d 0)):=refs_ok d V sm (c:=0) (by decide)
 have c2:PCalls (Pg G) 16 [.agg (Q8 d),Q3 2] (sl X8 (V5 d 1)):=refs_ok d V sm (c:=1) (by decide)
 have c3:PCalls (Pg G) 16 [.agg (Q8 d),Q3 3] (sl X8 (V5 d 2)):=refs_ok d V sm (c:=2) (by decide)
 have c4:PCalls (Pg G) 16 [.agg (Q8 d),Q3 4] (sl X8 (V5 d 3)):=refs_ok d V sm (c:=3) (by decide)
 unfold YT QQ
 unfold Q8 at c1 c2 c3 c4
 obtain ⟨x0,h0⟩:∃ x,V5 d 0=x:=⟨_,rfl⟩
 obtain ⟨x1,h1⟩:∃ x,V5 d 1=x:=⟨_,rfl⟩
 obtain ⟨x2,h2⟩:∃ x,V5 d 2=x:=⟨_,rfl⟩
 obtain ⟨x3,h3⟩:∃ x,V5 d 3=x:=⟨_,rfl⟩
 rw [h0] at c1 ⊢
 rw [h1] at c2 ⊢
 rw [h2] at c3 ⊢
 rw [h3] at c4 ⊢
 refine Q0 Tryz.func6 (by kernel_rfl) hc6 (by rw [Tryz.ntmps6];simp) (by rw [Tryz.ntmps6];decide) ?_
 simp -dsimp -implicitDefEqProofs (disch:=omega) only [VCA,Nat.reduceEqDiff,Nat.reduceAdd,↓reduceIte,Y8,Z0,J1,c6,Q8]
 intro r hr
 repeat' (first | ((with_reducible refine brC (fun _=>?_) fun _=>?_) <;> try (exfalso;omega)) | (with_reducible apply pcallE.of; · exact c1) | (with_reducible apply pcallE.of; · exact c2) | (with_reducible apply pcallE.of; · exact c3) | (with_reducible apply pcallE.of; · exact c4) | (with_reducible refine And.intro ?_ ?_; · omega) | simp -dsimp -implicitDefEqProofs (disch:=omega) only [VCA,Nat.reduceEqDiff,Nat.reduceAdd,Nat.reduceLT,Nat.reduceLeDiff,↓reduceIte,Y8,Z0,SOp.rd,SI.rd,SX.rd,K8,X3,Z8,exists_eq_left',J1])
 exact ⟨_,Sub.refl _,(Sub.refl h).upd hr,.one _ _ (.refl _)⟩
end Go.Proofs.K
end
section
set_option linter.unusedSimpArgs false
set_option linter.unusedVariables false
namespace Go.Proofs.K
open Go Go.Sim Go.Proofs
variable {G:YZ}
def formD:HDoc:=⟨[⟨1,[],[],[],-1,[1]⟩,⟨2,[102,111,114,109],[],[],0,[2]⟩,⟨2,[105,110,112,117,116],[⟨[110,97,109,101],[113]⟩,⟨[118,97,108,117,101],[97,32,98]⟩],[],1,[]⟩],false⟩
theorem formD_sm:DocSm formD:=⟨by decide,by
 intro x hx
 have:x=⟨1,[],[],[],-1,[1]⟩\/x=⟨2,[102,111,114,109],[],[],0,[2]⟩\/x=⟨2,[105,110,112,117,116],[⟨[110,97,109,101],[113]⟩,⟨[118,97,108,117,101],[97,32,98]⟩],[],1,[]⟩:=by simpa [formD] using hx
 rcases this with rfl | rfl | rfl <;> exact ⟨by decide,by decide,by decide,by decide,by decide⟩⟩
def c33:SFun:=⟨.seq (.reg [o 0 (.new 24 2 [.emp,.bool false])]) (.seq (.reg [o 1 (.bldF 3 1 [.c (.int .i64 1)]),o 2 (.bld [.int .i64 0,.str [],.emp,.str [],.int .i64 0,.emp] [(0,(1,(.c (.int .i64 1)))),(4,(1,(.c (.int .i64 (-1))))),(5,(1,(.t 1)))]),o 3 (.bldF 3 1 [.c (.int .i64 2)]),o 4 (.bld [.int .i64 0,.str [],.emp,.str [],.int .i64 0,.emp] [(0,(1,(.c (.int .i64 2)))),(1,(1,(.c (.str [102,111,114,109])))),(5,(1,(.t 3)))]),o 5 (.bld [.str [],.str []] [(0,(1,(.c (.str [110,97,109,101])))),(1,(1,(.c (.str [113]))))]),o 6 (.bld [.str [],.str []] [(0,(1,(.c (.str [118,97,108,117,101])))),(1,(1,(.c (.str [97,32,98]))))]),o 7 (.bldF 72 2 [.t 5,.t 6]),o 8 (.bld [.int .i64 0,.str [],.emp,.str [],.int .i64 0,.emp] [(0,(1,(.c (.int .i64 2)))),(1,(1,(.c (.str [105,110,112,117,116])))),(4,(1,(.c (.int .i64 1)))),(2,(1,(.t 7)))]),o 9 (.bldF 31 6 [.t 2,.t 4,.t 8]),o 10 (.bld [.emp,.bool false] [(0,(1,(.t 9)))]),⟨none,.st 2 (.t 0) (.t 10),none⟩]) .ret),[.cell 0 2 true]⟩
theorem hc33:Y3 Tryz.prog {} Tryz.f33=some c33:=by kernel_rfl
theorem oneForm_ok:PCalls (Pg G) 33 [] (.agg (Q8 formD)):=fun h=>by
 refine DCalls.res (K:=fun a h'=>a=.agg [.slc [[.int .i64 1,.str [],.emp,.str [],.int .i64 (-1),.slc [[.int .i64 1]]],[.int .i64 2,.str [102,111,114,109],.emp,.str [],.int .i64 0,.slc [[.int .i64 2]]],[.int .i64 2,.str [105,110,112,117,116],.slc [[.str [110,97,109,101],.str [113]],[.str [118,97,108,117,101],.str [97,32,98]]],.str [],.int .i64 1,.emp]],.bool false]/\h'=h) ?_ ?_
 ·refine Q0 Tryz.func33 (by kernel_rfl) hc33 (by rw [Tryz.ntmps33];simp) (by rw [Tryz.ntmps33];decide) ?_
  simp -dsimp -implicitDefEqProofs (disch:=omega) only [VCA,Nat.reduceEqDiff,Nat.reduceAdd,Nat.reduceLT,Nat.reduceLeDiff,↓reduceIte,reduceCtorEq,Z7,K8,X3,Z8,exists_eq_right_right,exists_eq_left',c33]
  intro r hr
  exact (Sub.refl _).upd hr
 ·rintro a h' ⟨rfl,rfl⟩
  exact ⟨_,Wk.agg' (.cons (Wk.slc' (.cons (.cons (.refl _) (.cons (.refl _) (.cons .emp (.cons (.refl _) (.cons (.refl _) (.cons (.refl _) .nil)))))) (.cons (.cons (.refl _) (.cons (.refl _) (.cons .emp (.cons (.refl _) (.cons (.refl _) (.cons (.refl _) .nil)))))) (.cons (.cons (.refl _) (.cons (.refl _) (.cons (.refl _) (.cons (.refl _) (.cons (.refl _) (.cons .emp .nil)))))) .nil)))) (.cons (.refl _) .nil)),rfl,rfl⟩
end Go.Proofs.K
end
section
set_option linter.unusedSimpArgs false
set_option linter.unusedVariables false
namespace Go.Proofs.K
open Go Go.Sim Go.Proofs Go.Shelf
variable {G:YZ}
theorem addW_mem {F:List (List UInt8)}:∀ {L:List (List UInt8)} {w:List UInt8},w∈F.foldl WK L->w∈L\/w∈F:=by
 induction F with
 | nil=>exact fun h=>.inl h
 | cons x r ih=>
   intro L w h
   rcases ih h with h | h
   ·unfold WK at h
    split at h
    ·exact .inl h
    ·rcases List.mem_append.1 h with h | h
     ·exact .inl h
     ·rw [List.mem_singleton] at h
      exact .inr (by rw [h];exact List.mem_cons_self)
   ·exact .inr (List.mem_cons_of_mem _ h)
theorem wordsM_le (s:List UInt8):∀ w∈XU s,w.length<=s.length:=fun w hw=>by
 rcases addW_mem hw with h | h
 ·cases h
 ·obtain ⟨x,hx,rfl⟩:=List.mem_map.1 h
  have h2:=(spansM_is s).2 x hx
  have:=seg_len (s:=s) (a:=x.1) (b:=x.2) h2.2
  omega
theorem one1_le {s w:List UInt8} (h:w∈one1 s):w=s:=by
 unfold one1 at h
 split at h
 ·cases h
 ·exact List.mem_singleton.1 h
theorem words4_le {x:HNode} (h:V8 x=0) {c:Nat} (hc:c<4):∀ w∈nth (J7 x) c,w.length<=400:=fun w hw=>by
 have hn:=((W5 _).1 h).2.2.2.2.2
 have c0:∀ (a b c d:List (List UInt8)),nth [a,b,c,d] 0=a:=fun _ _ _ _=>rfl
 have c1:∀ (a b c d:List (List UInt8)),nth [a,b,c,d] 1=b:=fun _ _ _ _=>rfl
 have c2:∀ (a b c d:List (List UInt8)),nth [a,b,c,d] 2=c:=fun _ _ _ _=>rfl
 have c3:∀ (a b c d:List (List UInt8)),nth [a,b,c,d] 3=d:=fun _ _ _ _=>rfl
 unfold J7 at hw
 rcases (show c=0\/c=1\/c=2\/c=3 by omega) with rfl | rfl | rfl | rfl <;> split at hw <;> simp only [c0,c1,c2,c3] at hw
 ·cases hw
 ·rw [one1_le hw];exact TU h _
 ·cases hw
 ·exact Nat.le_trans (wordsM_le _ w hw) (TU h _)
 ·cases hw
 ·rw [List.mem_singleton.1 hw];exact hn
 ·cases hw
 ·rw [one1_le hw];exact TU h _
theorem prsD_sm {d:HDoc} (V:DV d) {l:List Int} (hl:∀ n∈l,inD d n) {c:Nat} (hc:c<4):∀ w m,(w,m)∈ZK d l c->w.length<=400:=fun w m h=>by
 obtain ⟨n,hn,h2⟩:=List.mem_flatMap.1 h
 exact words4_le (V.node n (hl n hn)) hc w (mem_prs h2).1
theorem idxC_sm {d:HDoc} (V:DV d) {c:Nat} (hc:c<4):RefsSm (V5 d c):=by
 have S:=idxC_is d c
 have hb:=X5 V 0 V.zero
 have hpl:=prsD_len V (l:=Z5 d 0) hb hc
 have hbl:=XV V V.zero
 have hdl:=V.len
 have h1:=idxL_len (ZK d (Z5 d 0) c)
 have hL:(V5 d c).length<=(ZK d (Z5 d 0) c).length:=h1
 refine ⟨by omega,fun x hx=>?_⟩
 obtain ⟨j,hj,rfl⟩:=QY hx
 obtain ⟨r1,r2⟩:=S.row j hj
 have h2:=nodesOf_len (ZK d (Z5 d 0) c) (nth (V5 d c) j).word
 obtain ⟨m,hm⟩:=List.exists_mem_of_ne_nil _ r2
 have h3:=prsD_sm V hb hc _ m (mem_nodesOf.1 hm)
 exact ⟨by omega,by rw [r1];omega⟩
theorem noIdx_sm:IdxSm noIdx:=⟨⟨by decide,fun x hx=>by cases hx⟩,⟨by decide,fun x hx=>by cases hx⟩,⟨by decide,fun x hx=>by cases hx⟩,⟨by decide,fun x hx=>by cases hx⟩⟩
theorem idxD_sm {d:HDoc} (V:DV d):IdxSm (YT d):=⟨idxC_sm V (by decide),idxC_sm V (by decide),idxC_sm V (by decide),idxC_sm V (by decide)⟩
def formI:HIdx:=⟨[],[],[⟨[102,111,114,109],[1]⟩,⟨[105,110,112,117,116],[2]⟩],[⟨[113],[2]⟩]⟩
theorem formI_is:ofD formD=formI:=by decide +kernel
theorem formE:YU formD=0:=by decide +kernel
def c10:SFun:=⟨.seq (.reg [o 0 (.mv (.c (.bool false)))]) (.seq (.reg [o 6 (.pcall 33 []),o 7 (.pcall 32 [.t 6]),o 5 (.mv (.t 7)),o 8 (.ext (.t 5) 0),o 9 (.ext (.t 5) 1),o 1 (.new 27 4 [.emp,.emp,.emp,.emp]),⟨none,.st 4 (.t 1) (.t 8),none⟩,o 2 (.mv (.t 9))]) (.seq (.reg [o 11 (.fldA 3 (.t 1)),o 12 (.ld 1 false (.t 11)),o 13 (.pcall 34 [.t 12,.c (.str [113])]),o 10 (.mv (.t 13)),o 14 (.ext (.t 10) 0),o 15 (.ext (.t 10) 1),o 3 (.mv (.t 14)),o 4 (.mv (.t 15))]) (.seq (.reg [o 16 (.mv (.t 2)),o 17 (.bin .eql (.t 16) (.c (.int .i64 0))),o 18 (.mv (.t 17)),⟨some 19,.mv (.t 3),some (18,true)⟩,⟨some 20,.bin .eql (.t 19) (.c (.int .i64 2)),some (18,true)⟩,o 21 (.pick (.t 18) (.t 20) (.c (.bool false))),o 22 (.mv (.t 21)),⟨some 23,.mv (.t 4),some (22,true)⟩,o 24 (.pick (.t 22) (.t 23) (.c (.bool false))),o 25 (.mv (.t 24)),⟨some 26,.fldA 2 (.t 1),some (25,true)⟩,⟨some 27,.ld 1 false (.t 26),some (25,true)⟩,⟨some 28,.len (.t 27),some (25,true)⟩,⟨some 29,.bin .eql (.t 28) (.c (.int .i64 2)),some (25,true)⟩,o 30 (.pick (.t 25) (.t 29) (.c (.bool false))),o 31 (.mv (.t 30)),⟨some 32,.pcall 35 [.c (.str [32,97,32,98,32,97])],some (31,true)⟩,⟨some 33,.len (.t 32),some (31,true)⟩,⟨some 34,.bin .eql (.t 33) (.c (.int .i64 2)),some (31,true)⟩,o 35 (.pick (.t 31) (.t 34) (.c (.bool false))),o 0 (.mv (.t 35))]) .ret))),[.tmp 0]⟩
theorem hc10:Y3 Tryz.prog {pure:=[32,34,35,33]} Tryz.f10=some c10:=by kernel_rfl
theorem indexBegun_ok:PCalls (Pg G) 10 [] (.bool true):=fun h=>by
 have cO:=ixOf_ok (G:=G) formD formD_sm
 rw [formI_is,formE] at cO
 have cF:=oneForm_ok (G:=G)
 have cN:=ixFirst_ok (G:=G) [⟨[113],[2]⟩] [113] (by decide) (fun x hx=>by rw [List.mem_singleton] at hx;subst hx;exact ⟨by decide,by decide⟩) (by decide)
 have hr:refN [⟨[113],[2]⟩] [113]=[2]:=by decide
 rw [hr] at cN
 have cW:=words_ok (G:=G) [32,97,32,98,32,97] (by decide)
 have hw:XU [32,97,32,98,32,97]=[[97],[98]]:=by decide +kernel
 rw [hw] at cW
 have ei:QQ formI=[sl X8 [],sl X8 [],sl X8 [⟨[102,111,114,109],[1]⟩,⟨[105,110,112,117,116],[2]⟩],sl X8 [⟨[113],[2]⟩]]:=rfl
 have hd2:([2]:List Int).headD 0=2:=rfl
 have hdd:decide (([2]:List Int)≠[])=true:=rfl
 rw [hd2,hdd] at cN
 rw [ei] at cO
 refine Q0 Tryz.func10 (by kernel_rfl) hc10 (by rw [Tryz.ntmps10];simp) (by rw [Tryz.ntmps10];decide) ?_
 simp -dsimp -implicitDefEqProofs (disch:=omega) only [VCA,c10]
 have z0:((0:Int)==0)=true:=rfl
 have z2:((2:Int)==2)=true:=rfl
 repeat' (first | ((with_reducible refine brC (fun _=>?_) fun _=>?_) <;> try (exfalso;omega)) | (with_reducible apply pcallE.of; · exact cF) | (with_reducible apply pcallE.of; · exact cO) | ((intro r hr)) | (with_reducible apply pcallE.of; · exact cN) | (with_reducible apply pcallE.of; · exact cW) | (with_reducible refine And.intro ?_ ?_; · omega) | simp -dsimp -implicitDefEqProofs (disch:=omega) only [↓Q1 18,↓Q1 22,↓Q1 25,↓Q1 31,VCA,Nat.reduceEqDiff,Nat.reduceAdd,Nat.reduceLT,Nat.reduceLeDiff,↓reduceIte,Z8,exists_eq_right_right,exists_eq_left',z0,z2])
 all_goals exact ⟨(Sub.refl h).upd hr,by decide⟩
def c3_s10:SCode:=(.seq (.reg [o 56 (.pcall 10 []),o 57 (.mv (.t 56)),⟨some 58,.ld 2 true (.t 10),some (57,true)⟩,⟨some 59,.ld 2 true (.t 13),some (57,true)⟩,⟨some 60,.pcall 11 [.t 58,.t 59],some (57,true)⟩,o 61 (.pick (.t 57) (.t 60) (.c (.bool false))),o 62 (.mv (.t 61)),⟨some 63,.ld 4 true (.t 11),some (62,true)⟩,⟨some 64,.ld 4 true (.t 14),some (62,true)⟩,⟨some 65,.pcall 8 [.t 63,.t 64],some (62,true)⟩,o 66 (.pick (.t 62) (.t 65) (.c (.bool false))),o 67 (.mv (.t 66)),⟨some 68,.mv (.t 12),some (67,true)⟩,⟨some 69,.mv (.t 9),some (67,true)⟩,⟨some 70,.bin .eql (.t 68) (.t 69),some (67,true)⟩,o 71 (.pick (.t 67) (.t 70) (.c (.bool false))),o 8 (.mv (.t 71))]) .ret)
def c3_s8:SCode:=(.seq (.seq (.reg [o 43 (.mv (.t 9)),o 44 (.bin .eql (.t 43) (.c (.int .i64 0)))]) (.cond (.t 44) (.reg [o 46 (.ld 2 true (.t 4)),o 47 (.ld 12 true (.t 7)),o 48 (.pcall 9 [.t 46,.t 47]),o 45 (.mv (.t 48)),o 49 (.ext (.t 45) 0),o 50 (.ext (.t 45) 1),o 51 (.ext (.t 45) 2),⟨none,.st 2 (.t 13) (.t 49),none⟩,o 9 (.mv (.t 51))]) .skip)) (.seq (.seq (.reg [o 52 (.mv (.t 9)),o 53 (.bin .eql (.t 52) (.c (.int .i64 0)))]) (.cond (.t 53) (.reg [o 54 (.ld 2 true (.t 13)),o 55 (.pcall 6 [.t 54]),⟨none,.st 4 (.t 14) (.t 55),none⟩]) .skip)) c3_s10))
def c3_s7:SCode:=(.seq (.seq (.dreg [(o 34 (.mv (.t 9)),none),(o 35 (.bin .eql (.t 34) (.c (.int .i64 0))),none),(o 36 (.mv (.t 35)),none),(⟨some 37,.ld 4 true (.t 5),some (36,true)⟩,none),(⟨some 38,.ld 2 true (.t 4),some (36,true)⟩,none),(⟨some 39,.pcall 6 [.t 38],some (36,true)⟩,none),(⟨some 40,.pcall 8 [.t 37,.t 39],some (36,true)⟩,none),(⟨some 41,.un .not (.t 40),some (36,true)⟩,none),(o 42 (.pick (.t 36) (.t 41) (.c (.bool false))),none)]) (.cond (.t 42) (.reg [o 9 (.mv (.c (.int .i64 9)))]) .skip)) c3_s8)
def c3_s4:SCode:=(.seq (.reg [o 27 (.ld 2 true (.t 4)),o 28 (.ld 4 true (.t 5)),o 29 (.ld 12 true (.t 7)),o 30 (.pcall 7 [.t 27,.t 28,.t 29]),o 26 (.mv (.t 30)),o 31 (.ext (.t 26) 0),o 32 (.ext (.t 26) 1),o 33 (.ext (.t 26) 2),o 10 (.new 24 2 [.emp,.bool false]),o 11 (.new 27 4 [.emp,.emp,.emp,.emp]),⟨none,.st 2 (.t 10) (.t 31),none⟩,⟨none,.st 4 (.t 11) (.t 32),none⟩,o 12 (.mv (.t 33))]) (.seq (.reg [o 13 (.new 24 2 [.emp,.bool false])]) (.seq (.reg [o 14 (.new 27 4 [.emp,.emp,.emp,.emp])]) c3_s7)))
def c3:SFun:=⟨.seq (.reg [o 4 (.box 24 2 (.t 0)),o 5 (.box 27 4 (.t 1)),o 7 (.boxF 33 12 (.t 3)),o 8 (.mv (.c (.bool false)))]) (.seq (.reg [o 15 (.ld 2 true (.t 4)),o 16 (.pcall 4 [.t 15,.c (.int .i64 50)]),⟨none,.st 2 (.t 4) (.t 16),none⟩]) (.seq (.reg [o 17 (.ld 2 true (.t 4)),o 18 (.pcall 5 [.t 17]),o 9 (.mv (.t 18))]) (.seq (.seq (.reg [o 19 (.mv (.t 2)),o 20 (.mv (.t 19)),⟨some 21,.mv (.t 9),some (20,true)⟩,⟨some 22,.bin .eql (.t 21) (.c (.int .i64 0)),some (20,true)⟩,o 23 (.pick (.t 20) (.t 22) (.c (.bool false)))]) (.cond (.t 23) (.reg [o 24 (.ld 2 true (.t 4)),o 25 (.pcall 6 [.t 24]),⟨none,.st 4 (.t 5) (.t 25),none⟩]) .skip)) c3_s4))),[.tmp 8]⟩
theorem hc3:Y3 Tryz.prog {pure:=[4,5,10,7,6,8,9,11],how:=[(4,6),(5,6)]} Tryz.f3=some c3:=by kernel_rfl
theorem turns_end {h0 h:Q2} {r10 r11 r13 r14:Nat} {D:HDoc} {X:HIdx} {c13 c14:List AVal} {F:Int} {E:Env} (S:Sim.Sub h0 h) (e9:E 9=Q3 F) (e12:E 12=Q3 F) (e10:E 10=.vp r10 0) (e11:E 11=.vp r11 0) (e13:E 13=.vp r13 0) (e14:E 14=.vp r14 0)
 (g10:h r10=some ⟨.t 24,2,[Q8 D]⟩) (g11:h r11=some ⟨.t 27,4,[QQ X]⟩) (g13:h r13=some ⟨.t 24,2,[c13]⟩) (g14:h r14=some ⟨.t 27,4,[c14]⟩) (l13:c13.length=2) (l14:c14.length=4)
 (cD:PCalls (Pg G) 11 [.agg (Q8 D),.agg c13] (.bool true)) (cX:PCalls (Pg G) 8 [.agg (QQ X),.agg c14] (.bool true)) :
 vc (Pg G) c3_s10 (KU [.tmp 8] fun a h'=>a=.bool true/\h'=h0) E h:=by
 have cB:=indexBegun_ok (G:=G)
 have ff:(F==F)=true:=by simp
 have t1:(Q8 D).length=2:=rfl
 have t1':List.take 2 (Q8 D)=Q8 D:=rfl
 have t2:(QQ X).length=4:=rfl
 have t2':List.take 4 (QQ X)=QQ X:=rfl
 have t3:List.take 2 c13=c13:=List.take_of_length_le (by omega)
 have t4:List.take 4 c14=c14:=List.take_of_length_le (by omega)
 unfold c3_s10
 skip
 simp -dsimp -implicitDefEqProofs (disch:=omega) only [VCA]
 repeat' (first | ((with_reducible refine brC (fun _=>?_) fun _=>?_) <;> try (exfalso;omega)) | (with_reducible apply pcallE.of; · exact cB) | (with_reducible apply pcallE.of; · exact cD) | (with_reducible apply pcallE.of; · exact cX) | (with_reducible refine And.intro ?_ ?_; · omega) | simp -dsimp -implicitDefEqProofs (disch:=omega) only [↓Q1 57,↓Q1 62,↓Q1 67,VCA,Nat.reduceEqDiff,Nat.reduceLT,↓reduceIte,exists_eq_right,exists_eq_left',e9,e12,e10,e11,e13,e14,g10,g11,g13,g14,l13,l14,ff,t1,t1',t2,t2',t3,t4])
 exact S
theorem noDoc_sm:DocSm JU:=⟨by decide,fun x hx=>by cases hx⟩
theorem same_noDoc2:PCalls (Pg G) 11 [.agg (Q8 JU),.agg (Q8 JU)] (.bool true):=sameDoc_ok (G:=G) JU JU noDoc_sm noDoc_sm
theorem same_noDoc:PCalls (Pg G) 11 [.agg (Q8 JU),.agg [.emp,.bool false]] (.bool true):=
 (same_noDoc2 (G:=G)).wk (.cons (.refl _) (.cons (Wk.agg' (.cons .emp (.cons (.refl _) .nil))) .nil))
theorem same_noIdx:PCalls (Pg G) 8 [.agg (QQ noIdx),.agg [.emp,.emp,.emp,.emp]] (.bool true):=by
 have h:=sameIndex_ok (G:=G) noIdx noIdx noIdx_sm noIdx_sm
 rw [decide_eq_true rfl] at h
 exact h.wk (.cons (.refl _) (.cons (Wk.agg' (.cons .emp (.cons .emp (.cons .emp (.cons .emp .nil))))) .nil))
structure TS (h0 h:Q2) (d:HDoc) (D:HDoc) (X:HIdx) (F:Int) (e:HEdit) (r4 r10 r11 r13 r14:Nat) (c13 c14:List AVal) (E:Env):Prop where
 s:Sim.Sub h0 h
 e4:E 4=.vp r4 0
 e7:E 7=.pin (Z4 e)
 e10:E 10=.vp r10 0
 e11:E 11=.vp r11 0
 e12:E 12=Q3 F
 e13:E 13=.vp r13 0
 e14:E 14=.vp r14 0
 g4:h r4=some ⟨.t 24,2,[Q8 d]⟩
 g10:h r10=some ⟨.t 24,2,[Q8 D]⟩
 g11:h r11=some ⟨.t 27,4,[QQ X]⟩
 g13:h r13=some ⟨.t 24,2,[c13]⟩
 g14:h r14=some ⟨.t 27,4,[c14]⟩
 f13:h0 r13=none
 f14:h0 r14=none
 a1:¬ r10=r13
 a2:¬ r10=r14
 a3:¬ r11=r13
 a4:¬ r11=r14
 a5:¬ r13=r14
theorem turns_8 {h0 h:Q2} {r4 r10 r11 r13 r14:Nat} {d:HDoc} {e:HEdit} {F W:Int} {E:Env} (he:EditSm e) (sm:DocSm d) (T:TS h0 h d (endD d e F) (endX d e F) F e r4 r10 r11 r13 r14 [.emp,.bool false] [.emp,.emp,.emp,.emp] E) (e9:E 9=Q3 W)
 (hW0:W=0->DV d/\F=K3 d e) (hW:W≠0->F=W) :
 vc (Pg G) c3_s8 (KU [.tmp 8] fun a h'=>a=.bool true/\h'=h0) E h:=by
 obtain ⟨S,e4,e7,e10,e11,e12,e13,e14,g4,g10,g11,g13,g14,f13,f14,a1,a2,a3,a4,a5⟩:=T
 have t3:(Z4 e).length=12:=rfl
 have t3':List.take 12 (Z4 e)=Z4 e:=rfl
 have u1:∀ D:HDoc,(Q8 D).length=2:=fun _=>rfl
 have u1':∀ D:HDoc,List.take 2 (Q8 D)=Q8 D:=fun _=>rfl
 have u1'':∀ D:HDoc,List.drop 2 (Q8 D)=[]:=fun _=>rfl
 have u2:∀ X:HIdx,(QQ X).length=4:=fun _=>rfl
 have u2'':∀ X:HIdx,List.drop 4 (QQ X)=[]:=fun _=>rfl
 have a5':¬ r14=r13:=fun e=>a5 e.symm
 unfold c3_s8
 skip
 by_cases hw:W=0
 ·obtain ⟨V,hF⟩:=hW0 hw
  have cE:=edited_ok (G:=G) d V sm e he
  unfold edR at cE
  have z0:(W==0)=true:=by simpa using hw
  by_cases hE:K3 d e=0
  ·obtain ⟨h0',h1,aD,V'⟩:=applyE_0 V hE
   have sm':DocSm (J6 d e):=by rw [<-aD];exact apply_sm sm he
   have cI:=refIndexOf_ok (G:=G) (J6 d e) V' sm'
   rw [aD,<-hF] at cE
   rw [<-hF] at hE
   have z1:(F==0)=true:=by simpa using hE
   rw [show endD d e F=J6 d e by unfold endD;rw [if_pos hE]] at g10
   rw [show endX d e F=YT (J6 d e) by unfold endX;rw [if_pos hE]] at g11
   have cD:PCalls (Pg G) 11 [.agg (Q8 (J6 d e)),.agg (Q8 (J6 d e))] (.bool true):=by
    have h:=sameDoc_ok (G:=G) (J6 d e) (J6 d e) sm' sm'
    rwa [show (J6 d e==J6 d e)=true by simp] at h
   have cX:=sameIndex_ok (G:=G) (YT (J6 d e)) (YT (J6 d e)) (idxD_sm V') (idxD_sm V')
   rw [decide_eq_true rfl] at cX
   generalize J6 d e=dn at *
   simp -dsimp -implicitDefEqProofs (disch:=omega) only [VCA,Nat.reduceEqDiff,Nat.reduceLT,↓reduceIte,exists_eq_left',e4,e7,e9,g4,u1,u1',t3,t3',z0]
   repeat' (first | ((with_reducible refine brC (fun _=>?_) fun _=>?_) <;> try (exfalso;omega)) | (with_reducible apply pcallE.of; · exact cE) | (with_reducible refine And.intro ?_ ?_; · omega) | simp -dsimp -implicitDefEqProofs (disch:=omega) only [VCA,Nat.reduceEqDiff,Nat.reduceAdd,Nat.reduceLT,↓reduceIte,Z8,exists_eq_left',e13,g13,u1,u1',z1])
   repeat' (first | ((with_reducible refine brC (fun _=>?_) fun _=>?_) <;> try (exfalso;omega)) | (with_reducible apply pcallE.of; · exact cI) | (with_reducible refine And.intro ?_ ?_; · omega) | simp -dsimp -implicitDefEqProofs (disch:=omega) only [VCA,Nat.reduceEqDiff,Nat.reduceAdd,Nat.reduceLT,↓reduceIte,Z8,exists_eq_left',e14,g14,a5',u2])
   refine turns_end (D:=dn) (X:=YT dn) (F:=F) (r10:=r10) (r11:=r11) (r13:=r13) (r14:=r14) (c13:=Q8 dn) (c14:=QQ (YT dn)) ((S.upd f13).upd f14) ?_ ?_ ?_ ?_ ?_ ?_ ?_ ?_ ?_ ?_ rfl rfl cD cX
   ·rfl
   ·exact e12
   ·exact e10
   ·exact e11
   ·exact e13
   ·exact e14
   ·rw [Q4 _ _ a2,Q4 _ _ a1];exact g10
   ·rw [Q4 _ _ a4,Q4 _ _ a3];exact g11
   ·rw [Q4 _ _ a5];exact Q5 _ _ _
   ·exact Q5 _ _ _
  ·have aD:V7 d e=JU:=by unfold V7;rw [if_neg hE]
   rw [aD,<-hF] at cE
   rw [<-hF] at hE
   have z1:(F==0)=false:=by simpa using hE
   rw [show endD d e F=JU by unfold endD;rw [if_neg hE]] at g10
   rw [show endX d e F=noIdx by unfold endX;rw [if_neg hE]] at g11
   simp -dsimp -implicitDefEqProofs (disch:=omega) only [VCA,Nat.reduceEqDiff,Nat.reduceLT,↓reduceIte,exists_eq_left',e4,e7,e9,g4,u1,u1',t3,t3',z0]
   repeat' (first | ((with_reducible refine brC (fun _=>?_) fun _=>?_) <;> try (exfalso;omega)) | (with_reducible apply pcallE.of; · exact cE) | (with_reducible refine And.intro ?_ ?_; · omega) | simp -dsimp -implicitDefEqProofs (disch:=omega) only [VCA,Nat.reduceEqDiff,Nat.reduceAdd,Nat.reduceLT,↓reduceIte,Z8,exists_eq_left',e13,g13,u1,z1])
   refine turns_end (D:=JU) (X:=noIdx) (F:=F) (r10:=r10) (r11:=r11) (r13:=r13) (r14:=r14) (c13:=Q8 JU) (c14:=[.emp,.emp,.emp,.emp]) (S.upd f13) ?_ ?_ ?_ ?_ ?_ ?_ ?_ ?_ ?_ ?_ rfl rfl same_noDoc2 same_noIdx
   ·rfl
   ·exact e12
   ·exact e10
   ·exact e11
   ·exact e13
   ·exact e14
   ·rw [Q4 _ _ a1];exact g10
   ·rw [Q4 _ _ a3];exact g11
   ·exact Q5 _ _ _
   ·rw [Q4 _ _ (fun e=>a5 e.symm)];exact g14
 ·obtain rfl:=hW hw
  have z0:(F==0)=false:=by simpa using hw
  rw [show endD d e F=JU by unfold endD;rw [if_neg hw]] at g10
  rw [show endX d e F=noIdx by unfold endX;rw [if_neg hw]] at g11
  simp -dsimp -implicitDefEqProofs (disch:=omega) only [VCA,Nat.reduceEqDiff,↓reduceIte,e9,z0]
  repeat' (first | ((with_reducible refine brC (fun _=>?_) fun _=>?_) <;> try (exfalso;omega)) | (with_reducible refine And.intro ?_ ?_; · omega) | simp -dsimp -implicitDefEqProofs (disch:=omega) only [↓Q1 20,↓T5 20,↓Q1 36,↓T5 36,↓Q1 57,↓T5 57,↓Q1 62,↓T5 62,↓Q1 67,↓T5 67,VCA,pg_gl,↓X6,Nat.reduceEqDiff,Nat.reduceBEq,Nat.reduceAdd,Nat.reduceSub,Nat.reduceMul,Nat.reduceLT,Nat.reduceLeDiff,↓reduceIte,reduceCtorEq,Y8,Z0,SOp.rd,SI.rd,SX.rd,rdL,rdO,rdP,Z7,X4,Y4,K8,X3,Z8,implies_true,forall_const,forall_eq,ne_eq,exists_eq_right_right,exists_eq_right,exists_eq_left,exists_eq_left',J1,Z6,T0,JT,e4,e9,z0])
  exact turns_end S e9 e12 e10 e11 e13 e14 g10 g11 g13 g14 rfl rfl same_noDoc same_noIdx
theorem turns_7 {h0 h:Q2} {r4 r5 r10 r11 r13 r14:Nat} {d:HDoc} {x:HIdx} {e:HEdit} {E:Env} (he:EditSm e) (sm:DocSm d) (hx:IdxSm x) (T:TS h0 h d (endD d e (afE d x e)) (endX d e (afE d x e)) (afE d x e) e r4 r10 r11 r13 r14 [.emp,.bool false] [.emp,.emp,.emp,.emp] E)
 (e5:E 5=.vp r5 0) (e9:E 9=Q3 (YU d)) (g5:h r5=some ⟨.t 27,4,[QQ x]⟩) :
 vc (Pg G) c3_s7 (KU [.tmp 8] fun a h'=>a=.bool true/\h'=h0) E h:=by
 have e4:=T.e4
 have g4:=T.g4
 have u1:∀ D:HDoc,(Q8 D).length=2:=fun _=>rfl
 have u1':∀ D:HDoc,List.take 2 (Q8 D)=Q8 D:=fun _=>rfl
 have u2:∀ X:HIdx,(QQ X).length=4:=fun _=>rfl
 have u2':∀ X:HIdx,List.take 4 (QQ X)=QQ X:=fun _=>rfl
 unfold c3_s7
 skip
 obtain ⟨Z,hZ⟩:∃ Z,YU d=Z:=⟨_,rfl⟩
 rw [hZ] at e9
 by_cases h0':Z=0
 ·have V:=docE_DV (hZ.trans h0')
  have cI:=refIndexOf_ok (G:=G) d V sm
  have cS:=sameIndex_ok (G:=G) x (YT d) hx (idxD_sm V)
  have z0:(Z==0)=true:=by simpa using h0'
  by_cases hxe:x=YT d
  ·rw [decide_eq_true hxe] at cS
   have q1:afE d x e=K3 d e:=by unfold afE;rw [if_pos (hZ.trans h0'),if_pos hxe]
   simp -dsimp -implicitDefEqProofs (disch:=omega) only [↓T5 36,VCA,Nat.reduceEqDiff,↓reduceIte,Y8,Z0,J1,e9,z0]
   repeat' (first | ((with_reducible refine brC (fun _=>?_) fun _=>?_) <;> try (exfalso;omega)) | (with_reducible apply pcallE.of; · exact cI) | (with_reducible apply pcallE.of; · exact cS) | (with_reducible refine And.intro ?_ ?_; · omega) | simp -dsimp -implicitDefEqProofs (disch:=omega) only [VCA,Nat.reduceEqDiff,Nat.reduceLT,↓reduceIte,Y8,Z0,exists_eq_left',J1,e4,e5,g4,g5,u1,u1',u2,u2'])
   exact turns_8 (W:=Z) he sm ⟨T.s,T.e4,T.e7,T.e10,T.e11,T.e12,T.e13,T.e14,T.g4,T.g10,T.g11,T.g13,T.g14,T.f13,T.f14,T.a1,T.a2,T.a3,T.a4,T.a5⟩ e9 (fun _=>⟨V,q1⟩) (fun q=>absurd h0' q)
  ·rw [decide_eq_false hxe] at cS
   have q1:afE d x e=9:=by unfold afE;rw [if_pos (hZ.trans h0'),if_neg hxe]
   simp -dsimp -implicitDefEqProofs (disch:=omega) only [↓T5 36,VCA,Nat.reduceEqDiff,↓reduceIte,Y8,Z0,J1,e9,z0]
   repeat' (first | ((with_reducible refine brC (fun _=>?_) fun _=>?_) <;> try (exfalso;omega)) | (with_reducible apply pcallE.of; · exact cI) | (with_reducible apply pcallE.of; · exact cS) | (with_reducible refine And.intro ?_ ?_; · omega) | simp -dsimp -implicitDefEqProofs (disch:=omega) only [VCA,Nat.reduceEqDiff,Nat.reduceLT,↓reduceIte,Y8,Z0,exists_eq_left',J1,e4,e5,g4,g5,u1,u1',u2,u2'])
   exact turns_8 (W:=9) he sm ⟨T.s,T.e4,T.e7,T.e10,T.e11,T.e12,T.e13,T.e14,T.g4,T.g10,T.g11,T.g13,T.g14,T.f13,T.f14,T.a1,T.a2,T.a3,T.a4,T.a5⟩ rfl (fun q=>by cases q) (fun _=>q1)
 ·have z0:(Z==0)=false:=by simpa using h0'
  have q1:afE d x e=Z:=by unfold afE;rw [if_neg (by rw [hZ];exact h0'),hZ]
  simp -dsimp -implicitDefEqProofs (disch:=omega) only [↓T5 36,VCA,Nat.reduceEqDiff,↓reduceIte,Y8,Z0,J1,e9,z0]
  repeat' (first | ((with_reducible refine brC (fun _=>?_) fun _=>?_) <;> try (exfalso;omega)) | (with_reducible refine And.intro ?_ ?_; · omega) | simp -dsimp -implicitDefEqProofs (disch:=omega) only [↓Q1 20,↓T5 20,↓Q1 36,↓T5 36,↓Q1 57,↓T5 57,↓Q1 62,↓T5 62,↓Q1 67,↓T5 67,VCA,pg_gl,↓X6,Nat.reduceEqDiff,Nat.reduceBEq,Nat.reduceAdd,Nat.reduceSub,Nat.reduceMul,Nat.reduceLT,Nat.reduceLeDiff,↓reduceIte,reduceCtorEq,Y8,Z0,SOp.rd,SI.rd,SX.rd,rdL,rdO,rdP,Z7,X4,Y4,K8,X3,Z8,implies_true,forall_const,forall_eq,ne_eq,exists_eq_right_right,exists_eq_right,exists_eq_left,exists_eq_left',J1,Z6,T0,JT,e9,z0])
  exact turns_8 (W:=Z) he sm ⟨T.s,T.e4,T.e7,T.e10,T.e11,T.e12,T.e13,T.e14,T.g4,T.g10,T.g11,T.g13,T.g14,T.f13,T.f14,T.a1,T.a2,T.a3,T.a4,T.a5⟩ e9 (fun q=>absurd q h0') (fun _=>q1)
theorem turns_4 {h0 h:Q2} {r4 r5:Nat} {d:HDoc} {x:HIdx} {e:HEdit} {E:Env} (S:Sim.Sub h0 h) (sm:DocSm d) (hx:IdxSm x) (he:EditSm e) (e4:E 4=.vp r4 0) (e5:E 5=.vp r5 0) (e7:E 7=.pin (Z4 e)) (e9:E 9=Q3 (YU d))
 (g4:h r4=some ⟨.t 24,2,[Q8 d]⟩) (g5:h r5=some ⟨.t 27,4,[QQ x]⟩) :
 vc (Pg G) c3_s4 (KU [.tmp 8] fun a h'=>a=.bool true/\h'=h0) E h:=by
 have cA:=after_ok (G:=G) d sm x hx e he
 have T7:=fun r10 r11 r13 r14 h2 E2=>turns_7 (G:=G) (h0:=h0) (h:=h2) (r4:=r4) (r5:=r5) (r10:=r10) (r11:=r11) (r13:=r13) (r14:=r14) (E:=E2) (d:=d) (x:=x) he sm hx
 have t3:(Z4 e).length=12:=rfl
 have t3':List.take 12 (Z4 e)=Z4 e:=rfl
 have u1:∀ D:HDoc,(Q8 D).length=2:=fun _=>rfl
 have u1':∀ D:HDoc,List.take 2 (Q8 D)=Q8 D:=fun _=>rfl
 have u1'':∀ D:HDoc,List.drop 2 (Q8 D)=[]:=fun _=>rfl
 have u2:∀ X:HIdx,(QQ X).length=4:=fun _=>rfl
 have u2':∀ X:HIdx,List.take 4 (QQ X)=QQ X:=fun _=>rfl
 have u2'':∀ X:HIdx,List.drop 4 (QQ X)=[]:=fun _=>rfl
 have n4:∀ r,h r=none->¬ r4=r:=fun r q1 q2=>by rw [<-q2,g4] at q1;cases q1
 have n5:∀ r,h r=none->¬ r5=r:=fun r q1 q2=>by rw [<-q2,g5] at q1;cases q1
 obtain ⟨F,hF⟩:∃ F,afE d x e=F:=⟨_,rfl⟩
 rw [hF] at cA T7
 generalize endD d e F=D at *
 generalize endX d e F=X at *
 unfold c3_s4
 skip
 simp -dsimp -implicitDefEqProofs (disch:=omega) only [VCA,Nat.reduceEqDiff,Nat.reduceLT,↓reduceIte,exists_eq_left',e4,e5,e7,g4,g5,u1,u1',u2,u2',t3,t3']
 repeat' (first | ((with_reducible refine brC (fun _=>?_) fun _=>?_) <;> try (exfalso;omega)) | (with_reducible apply pcallE.of; · exact cA) | (with_reducible refine And.intro ?_ ?_; · omega) | simp -dsimp -implicitDefEqProofs (disch:=omega) only [VCA,↓X6,Nat.reduceEqDiff,Nat.reduceAdd,Nat.reduceLT,↓reduceIte,Z8,ne_eq,u1,u2])
 intro r10 h10 r11 h11
 obtain ⟨a2,h11⟩:=h11
 have a1:¬ r10=r11:=fun e=>a2 e.symm
 repeat' (first | ((with_reducible refine brC (fun _=>?_) fun _=>?_) <;> try (exfalso;omega)) | (with_reducible refine And.intro ?_ ?_; · omega) | simp -dsimp -implicitDefEqProofs (disch:=omega) only [VCA,Nat.reduceAdd,Nat.reduceLT,↓reduceIte,exists_eq_left',a1,a2])
 intro r13 h13 r14 h14
 obtain ⟨a3,a4,_,_,h13⟩:=h13
 obtain ⟨a5,a6,a7,_,_,h14⟩:=h14
 have a3':¬ r11=r13:=fun e=>a3 e.symm
 have a4':¬ r10=r13:=fun e=>a4 e.symm
 have a5':¬ r13=r14:=fun e=>a5 e.symm
 have a6':¬ r11=r14:=fun e=>a6 e.symm
 have a7':¬ r10=r14:=fun e=>a7 e.symm
 have b1:=n4 _ h10
 have b2:=n4 _ h11
 have b3:=n4 _ h13
 have b4:=n4 _ h14
 have b5:=n5 _ h10
 have b6:=n5 _ h11
 have b7:=n5 _ h13
 have b8:=n5 _ h14
 refine T7 r10 r11 r13 r14 _ _ ⟨(((((S.upd (S.none h10)).upd (S.none h11)).upd (S.none h10)).upd (S.none h11)).upd (S.none h13)).upd (S.none h14),e4,e7,rfl,rfl,rfl,rfl,rfl,?_,?_,?_,?_,?_,S.none h13,S.none h14,a4',a7',a3',a6',a5'⟩ e5 e9 ?_
 iterate 5
  first
   | exact Q5 _ _ _
   | (repeat rw [Q4 _ _ (by assumption)])
     first | exact Q5 _ _ _ | exact g4
 (repeat rw [Q4 _ _ (by assumption)])
 exact g5
theorem indexTurns_ok (d:HDoc) (sm:DocSm d) (x:HIdx) (hx:IdxSm x) (own:Bool) (e:HEdit) (he:EditSm e):PCalls (Pg G) 3 [.agg (Q8 d),.agg (QQ x),.bool own,.agg (Z4 e)] (.bool true):=fun h=>by
 have hF:PCalls (Pg G) 4 [.agg (Q8 d),.int .i64 50] (.agg (Q8 ⟨d.nodes.take 50,d.quirks⟩)):=few_ok (G:=G) d 50 sm
 have fs:=sm.few 50
 generalize (⟨d.nodes.take 50,d.quirks⟩:HDoc)=f at *
 have cD:=docErr_ok (G:=G) f fs
 have u1:∀ D:HDoc,(Q8 D).length=2:=fun _=>rfl
 have u1':∀ D:HDoc,List.take 2 (Q8 D)=Q8 D:=fun _=>rfl
 have u1'':∀ D:HDoc,List.drop 2 (Q8 D)=[]:=fun _=>rfl
 have u2:∀ X:HIdx,(QQ X).length=4:=fun _=>rfl
 have u2':∀ X:HIdx,List.take 4 (QQ X)=QQ X:=fun _=>rfl
 have u2'':∀ X:HIdx,List.drop 4 (QQ X)=[]:=fun _=>rfl
 have t3:(Z4 e).length=12:=rfl
 have t3':List.take 12 (Z4 e)=Z4 e:=rfl
 obtain ⟨Z,hZ⟩:∃ Z,YU f=Z:=⟨_,rfl⟩
 rw [hZ] at cD
 by_cases hc:own=true/\Z=0
 ·obtain ⟨rfl,h0⟩:=hc
  have V:=docE_DV (hZ.trans h0)
  have cI:=refIndexOf_ok (G:=G) f V fs
  have z0:(Z==0)=true:=by simpa using h0
  refine Q0 Tryz.func3 (by kernel_rfl) hc3 (by rw [Tryz.ntmps3];simp) (by rw [Tryz.ntmps3];decide) ?_
  simp -dsimp -implicitDefEqProofs (disch:=omega) only [VCA,↓X6,Nat.reduceEqDiff,↓reduceIte,ne_eq,c3,u1,u2,t3]
  intro r4 h4 r5 h5
  have a2:=h5.1
  have a1:¬ r4=r5:=fun e=>a2 e.symm
  repeat' (first | ((with_reducible refine brC (fun _=>?_) fun _=>?_) <;> try (exfalso;omega)) | (with_reducible apply pcallE.of; · exact hF) | (with_reducible apply pcallE.of; · exact cD) | (with_reducible apply pcallE.of; · exact cI) | (with_reducible refine And.intro ?_ ?_; · omega) | simp -dsimp -implicitDefEqProofs (disch:=omega) only [↓Q1 20,VCA,Nat.reduceEqDiff,Nat.reduceLT,↓reduceIte,Z8,exists_eq_left',u1,u1',u1'',u2,u2'',a1,a2,z0])
  refine turns_4 (G:=G) (r4:=r4) (r5:=r5) (x:=YT f) ((((Sub.refl h).upd h4).upd h5.2).upd h4 |>.upd h5.2) fs (idxD_sm V) he ?_ ?_ ?_ ?_ ?_ ?_
  ·rfl
  ·rfl
  ·rfl
  ·rw [hZ];rfl
  ·(repeat rw [Q4 _ _ (by assumption)])
   exact Q5 _ _ _
  ·exact Q5 _ _ _
 ·have z1:(own&&(Z==0))=false:=by
   cases own
   ·rfl
   ·simpa using fun q=>hc ⟨rfl,q⟩
  cases own
  all_goals
   refine Q0 Tryz.func3 (by kernel_rfl) hc3 (by rw [Tryz.ntmps3];simp) (by rw [Tryz.ntmps3];decide) ?_
   simp -dsimp -implicitDefEqProofs (disch:=omega) only [VCA,↓X6,Nat.reduceEqDiff,↓reduceIte,ne_eq,c3,u1,u2,t3]
   intro r4 h4 r5 h5
   have a2:=h5.1
   have a1:¬ r4=r5:=fun e=>a2 e.symm
   repeat' (first | ((with_reducible refine brC (fun _=>?_) fun _=>?_) <;> try (exfalso;omega)) | (with_reducible apply pcallE.of; · exact hF) | (with_reducible apply pcallE.of; · exact cD) | (with_reducible refine And.intro ?_ ?_; · omega) | simp -dsimp -implicitDefEqProofs (disch:=omega) only [↓Q1 20,VCA,Nat.reduceEqDiff,Nat.reduceLT,↓reduceIte,Z8,exists_eq_left',u1,u1',u1'',a1])
   all_goals first
    | exact absurd ⟨rfl,by assumption⟩ hc
    | (refine turns_4 (G:=G) (r4:=r4) (r5:=r5) (x:=x) (((Sub.refl h).upd h4).upd h5.2 |>.upd h4) fs hx he ?_ ?_ ?_ ?_ ?_ ?_
       ·rfl
       ·rfl
       ·rfl
       ·rw [hZ];rfl
       ·exact Q5 _ _ _
       ·(repeat rw [Q4 _ _ (by assumption)])
        exact Q5 _ _ _)
end Go.Proofs.K
end
