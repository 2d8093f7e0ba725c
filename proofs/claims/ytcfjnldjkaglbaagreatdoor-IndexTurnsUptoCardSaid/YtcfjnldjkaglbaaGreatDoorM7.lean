/- Texts of this claim, one behind the other. -/
import Derived.Test.YtcfjnldjkaglbaaGreatDoorM6
import Derived.Test.YtcfjnldjkaglbaaGreatDoorM5
set_option maxHeartbeats 4000000
set_option maxRecDepth 100000
section
set_option linter.unusedSimpArgs false
set_option linter.unusedVariables false
namespace Go.Proofs.K
open Go Go.Sim Go.Proofs
variable {G:YZ}
def c31:SFun:=⟨.seq (.reg [o 4 (.mv (.c .emp))]) (.seq (.dreg [(o 5 (.bldF 3 1 []),none),(o 6 (.mv (.t 0)),none),(o 7 (.mv (.t 1)),none),(o 8 (.slA 1 (.t 6) none (some (.t 7))),none),(o 10 (.mv (.t 0)),none),(o 11 (.mv (.t 1)),none),(o 12 (.bin .add (.t 11) (.c (.int .i64 1))),none),(o 13 (.slA 1 (.t 10) (some (.t 12)) none),none),(o 9 (.app 3 1 8 (.t 5) (.t 8)),(some [])),(o 14 (.app 3 1 8 (.t 9) (.t 13)),(some [])),(o 4 (.mv (.t 14)),none)]) .ret),[.tmp 4]⟩
theorem hc31:Y3 Tryz.prog {} Tryz.f31=some c31:=by kernel_rfl
theorem without_ok (l:List Int) (i:Nat) (hi:i<l.length) (hl:l.length<=1073741824):PCalls (Pg G) 31 [sl Z6 l,Q3 i] (sl Z6 (l.take i++l.drop (i+1))):=PCalls.acc (ty:=3) (sz:=1) fun h=>by
 refine Q0 Tryz.func31 (by kernel_rfl) hc31 (by rw [Tryz.ntmps31];simp) (by rw [Tryz.ntmps31];decide) ?_
 simp -dsimp -implicitDefEqProofs (disch:=omega) only [VCA,Nat.reduceEqDiff,↓reduceIte,reduceCtorEq,Y8,Z0,SOp.rd,SI.rd,SX.rd,Z7,exists_eq_left,exists_eq_left',J1,c31]
 refine ⟨by omega,by omega,by rw [List.length_take];omega,by rw [List.length_take];omega,fun r hr=>⟨by rw [List.length_take,List.length_drop];omega,by rw [List.length_take,List.length_drop];omega,fun r' hr'=>?_⟩⟩
 have dd:∀ x,del (upd h r (some x)) r=h:=fun x=>by
  funext t
  by_cases e:t=r
  ·subst e;rw [hr];simp [del]
  ·simp [del,upd,e]
 rw [dd] at hr' ⊢
 refine ⟨_,Sub.refl _,?_,(Sub.refl h).upd hr'⟩
 have A:=Acc.root (ty:=3) (sz:=1) (cells:=(l.take i++l.drop (i+1)).map Z6) hr' (Q5 h r' (some ⟨.t 3,1,(l.take i++l.drop (i+1)).map Z6⟩))
 rw [List.length_map,List.length_append] at A
 rw [<-List.map_append]
 exact A
structure Fresh (h h':Q2) (ty sz:Nat) (cells:List (List AVal)) (a:AVal):Prop where
 acc:Acc h ty sz cells a h'
theorem Fresh.own {h h':Q2} {ty sz:Nat} {cells:List (List AVal)} {a:AVal} (F:Fresh h h' ty sz cells a):OwnS h' ty sz cells a:=(OwnS.of_acc F.acc).1
theorem Fresh.live {h h':Q2} {ty sz:Nat} {cells:List (List AVal)} {a:AVal} (F:Fresh h h' ty sz cells a):Mut a:=(OwnS.of_acc F.acc).2.2
theorem Fresh.new {h h':Q2} {ty sz:Nat} {cells:List (List AVal)} {a:AVal} (F:Fresh h h' ty sz cells a):∀ r,Q9 a=some r->h r=none:=(OwnS.of_acc F.acc).2.1
theorem Fresh.keep {h h' h2:Q2} {ty sz:Nat} {cells:List (List AVal)} {a:AVal} (F:Fresh h h' ty sz cells a) (hk:∀ r o,Q9 a=some r->h' r=some o->h2 r=some o):Fresh h h2 ty sz cells a:=⟨by
 rcases F.acc with h1 | ⟨r,h0,h1,h2⟩
 ·exact .inl h1
 ·exact .inr ⟨r,h0,hk r _ (by rw [h2];rfl) h1,h2⟩⟩
def c30:SFun:=⟨.seq (.reg [o 1 (.boxF 24 2 (.t 0)),o 2 (.new 24 2 [.emp,.bool false])]) (.seq (.reg [o 6 (.fldA 1 (.t 1)),o 7 (.ld 1 false (.t 6)),o 8 (.bld [.emp,.bool false] [(1,(1,(.t 7)))]),o 3 (.new 24 2 [.emp,.bool false]),⟨none,.st 2 (.t 3) (.t 8),none⟩]) (.seq (.seq (.reg [o 4 (.mv (.c (.int .i64 0)))]) (.block 0 (.loop (.seq (.seq (.reg [o 9 (.mv (.t 4)),o 10 (.fldA 0 (.t 1)),o 11 (.ld 1 false (.t 10)),o 12 (.len (.t 11)),o 13 (.bin .lss (.t 9) (.t 12))]) (.cond (.t 13) .skip (.exit 0))) (.seq (.block 1 (.seq (.reg [o 16 (.fldA 0 (.t 1)),o 17 (.ld 1 false (.t 16)),o 18 (.mv (.t 4)),o 19 (.idxA 6 (.t 17) (.t 18)),o 20 (.ld 6 true (.t 19)),o 5 (.new 31 6 [.int .i64 0,.str [],.emp,.str [],.int .i64 0,.emp]),⟨none,.st 6 (.t 5) (.t 20),none⟩]) (.seq (.reg [o 21 (.bldF 72 2 []),o 22 (.fldA 2 (.t 5)),o 23 (.ld 1 false (.t 22)),o 24 (.appF 72 2 32 (.t 21) (.t 23)),o 25 (.fldA 2 (.t 5)),⟨none,.st 1 (.t 25) (.t 24),none⟩]) (.seq (.reg [o 26 (.bldF 3 1 []),o 27 (.fldA 5 (.t 5)),o 28 (.ld 1 false (.t 27)),o 29 (.appF 3 1 8 (.t 26) (.t 28)),o 30 (.fldA 5 (.t 5)),⟨none,.st 1 (.t 30) (.t 29),none⟩]) (.reg [o 31 (.fldA 0 (.t 3)),o 32 (.ld 1 false (.t 31)),o 33 (.ld 6 true (.t 5)),o 34 (.bldF 31 6 [.t 33]),o 35 (.app 31 6 96 (.t 32) (.t 34)),o 36 (.fldA 0 (.t 3)),⟨none,.st 1 (.t 36) (.t 35),none⟩]))))) (.reg [o 14 (.mv (.t 4)),o 15 (.bin .add (.t 14) (.c (.int .i64 1))),o 4 (.mv (.t 15))])))))) (.seq (.reg [o 37 (.ld 2 true (.t 3)),⟨none,.st 2 (.t 2) (.t 37),none⟩]) .ret))),[.cell 2 2 true]⟩
theorem hc30:Y3 Tryz.prog {how:=[(24,8),(29,8)]} Tryz.f30=some c30:=by kernel_rfl
theorem copyDoc_ok (d:HDoc) (sm:DocSm d) (h:Q2):DCalls (Pg G) 30 [.agg (Q8 d)] h fun a h'=>∃ b,a=.agg [b,.bool d.quirks]/\Fresh h h' 31 6 (d.nodes.map Q7) b/\Sub h h':=by
 have hl:=sm.len
 refine Q0 Tryz.func30 (by kernel_rfl) hc30 (by rw [Tryz.ntmps30];simp) (by rw [Tryz.ntmps30];decide) ?_
 simp -dsimp -implicitDefEqProofs (disch:=omega) only [VCA,↓X6,Nat.reduceEqDiff,Nat.reduceAdd,Nat.reduceLT,↓reduceIte,K8,X3,Z8,ne_eq,exists_eq_left',Q8,c30,Q8]
 intro r2 hr2 r3 hr3
 have S0:∀ x y,Sim.Sub h (upd (upd h r2 (some x)) r3 (some y)):=fun x y=>((Sub.refl h).upd hr2).upd hr3.2
 have g2:∀ x y,(upd (upd h r2 (some x)) r3 (some y)) r2=some x:=fun x y=>by rw [Q4 _ _ (fun e=>hr3.1 e.symm),Q5]
 refine LoopVC.intro (fun m e h'=>∃ (k:Nat) (a:AVal),k<=d.nodes.length/\m=d.nodes.length-k/\e 1=.pin (Q8 d)/\e 2=.vp r2 0/\e 3=.vp r3 0/\e 4=Q3 k/\Fresh h h' 31 6 ((d.nodes.take k).map Q7) a/\Sim.Sub h h' /\
  h' r2=some ⟨.t 24,2,[[.emp,.bool false]]⟩/\h' r3=some ⟨.t 24,2,[[a,.bool d.quirks]]⟩/\Q9 a≠some r2/\Q9 a≠some r3) d.nodes.length
  ⟨0,.emp,by omega,by omega,rfl,rfl,rfl,rfl,⟨.inl ⟨rfl,rfl⟩⟩,S0 _ _,g2 _ _,Q5 _ _ _,(fun e=>by cases e),(fun e=>by cases e)⟩ ?_
 rintro m e h' ⟨k,a,hk,rfl,he1,he2,he3,he4,A,S,k2,k3,n2,n3⟩
 simp -dsimp -implicitDefEqProofs (disch:=omega) only [VCA,Nat.reduceEqDiff,Nat.reduceAdd,Nat.reduceLeDiff,↓reduceIte,ne_eq,Q8,he1,he4]
 refine Br.dec (fun hlt=>?_) (fun hge=>?_)
 ·have hk':k<d.nodes.length:=by omega
  have sx:=sm.nth k
  have sa:=sx.attrs
  have sk:=sx.kids
  simp -dsimp -implicitDefEqProofs (disch:=omega) only [VCA,Nat.reduceEqDiff,Nat.reduceAdd,Nat.reduceLT,Nat.reduceLeDiff,↓reduceIte,Z7,Z8,forall_eq,exists_eq_left,exists_eq_left',Q8,he1,he3,he4,k3,Q7]
  refine ⟨by omega,fun r5 hr5=>⟨by omega,by omega,by omega,by omega,?_⟩⟩
  have n53:¬ r3=r5:=fun e=>by rw [<-e,k3] at hr5;cases hr5
  have n52:¬ r2=r5:=fun e=>by rw [<-e,k2] at hr5;cases hr5
  have n35:¬ r5=r3:=fun e=>n53 e.symm
  have n25:¬ r5=r2:=fun e=>n52 e.symm
  simp -dsimp -implicitDefEqProofs (disch:=omega) only [VCA,Nat.reduceAdd,Nat.reduceLT,Nat.reduceLeDiff,↓reduceIte,exists_eq_left',n53]
  have O5:=A.own.keep (h2:=upd h' r5 (some ⟨.t 31,6,[Q7 (nth d.nodes k)]⟩)) fun r o hr ho=>by rw [Q4 _ _ (fun e=>by rw [e,hr5] at ho;cases ho)];exact ho
  have ll:((d.nodes.take k).map Q7).length=k:=by rw [List.length_map,List.length_take];omega
  refine O5.app A.live (by rw [ll,List.length_singleton];omega) (by rw [ll,List.length_singleton];omega) fun r' h2 q1 q2 q3=>?_
  rw [ll,List.length_singleton]
  have k5:=fun r o (hr:h' r=some o) (hn:Q9 a≠some r)=>q3 r o (by rw [Q4 _ _ (fun e=>by rw [e,hr5] at hr;cases hr)];exact hr) hn
  have k32:=k5 _ _ k3 n3
  have k22:=k5 _ _ k2 n2
  have hr':h r'=none:=by
   rcases q2 with e | e
   ·exact A.new _ e
   ·by_cases e5:r'=r5
    ·rw [e5];exact S.none hr5
    ·rw [Q4 _ _ e5] at e;exact S.none e
  have m3:¬ r'=r3:=fun e=>by
   rcases q2 with e' | e'
   ·exact n3 (by rw [e',e])
   ·rw [e,Q4 _ _ n53,k3] at e';cases e'
  have m2:¬ r'=r2:=fun e=>by
   rcases q2 with e' | e'
   ·exact n2 (by rw [e',e])
   ·rw [e,Q4 _ _ n52,k2] at e';cases e'
  simp -dsimp -implicitDefEqProofs (disch:=omega) only [VCA,Nat.reduceEqDiff,Nat.reduceAdd,Nat.reduceLT,Nat.reduceLeDiff,↓reduceIte,Z8,exists_eq_left',Q8,he1,he2,he3,he4,k32,k22]
  have em:(d.nodes.take (k+1)).map Q7=(d.nodes.take k).map Q7++[Q7 (nth d.nodes k)]:=by rw [X1 hk',List.map_append];rfl
  have el:((d.nodes.take (k+1)).map Q7).length=k+1:=by rw [List.length_map,List.length_take];omega
  refine ⟨_,by omega,k+1,.osl r' 6 0 (k+1),by omega,rfl,by omega,⟨.inr ⟨r',hr',?_,by rw [el]⟩⟩,?_,?_,?_,?_⟩
  ·rw [Q4 _ _ m3,em];exact q1
  ·refine Sub.upd (fun t o ht=>?_) hr3.2
   exact k5 t o (S _ _ ht) (fun e=>by rw [A.new t e] at ht;cases ht)
  ·rw [if_neg (fun e=>hr3.1 e.symm)]
  ·rfl
  ·exact ⟨fun e=>m2 (by cases e;rfl),fun e=>m3 (by cases e;rfl)⟩
 ·simp -dsimp -implicitDefEqProofs (disch:=omega) only [VCA,Nat.reduceEqDiff,Nat.reduceAdd,Nat.reduceLT,↓reduceIte,Z8,exists_eq_left',he2,he3,k2,k3]
  obtain rfl:k=d.nodes.length:=by omega
  rw [List.take_length] at A
  refine ⟨_,Sub.refl _,_,rfl,A.keep fun r o hr ho=>by rw [Q4 _ _ (fun e=>n2 (by rw [hr,e]))];exact ho,S.upd hr2⟩
theorem betwD_ok (n a b:Int):PCalls (Pg G) 13 [Q3 n,Q3 a,Q3 b] (.bool (decide (a<=n/\n<=b))):=by
 have h:=betw_ok (G:=G) n a b
 have e:(decide (a<=n)&&decide (n<=b))=decide (a<=n/\n<=b):=by simp
 rwa [e] at h
theorem errR_4 {d:HDoc} {e:HEdit} (h4:e.do'=4):JK d e=if 0<(e.node.kids.length:Int) then 3 else if e.node.kind=1 then 7 else V8 e.node:=by
 unfold JK
 rw [if_neg (by omega),if_pos h4]
 by_cases hk:e.node.kids=[]
 ·rw [if_neg (by simpa using hk),if_neg (c:=0<(e.node.kids.length:Int)) (by rw [hk];simp)]
 ·rw [if_pos hk,if_pos]
  have:=List.length_pos_iff.2 hk
  omega
theorem errR_in {d:HDoc} {e:HEdit} (h1:1<=e.do') (h6:e.do'<=6) (h4:e.do'≠4) (hi:¬ inD d e.at'\/(e.do'=5/\¬ inD d e.into)):JK d e=5:=by
 unfold JK
 rw [if_neg (by omega),if_neg h4,if_pos hi]
theorem errR_1 {d:HDoc} {e:HEdit} (h:e.do'=1) (ha:inD d e.at'):JK d e=if (nd d e.at').kind≠2 then 7 else if (!K4 false e.name)=true then 3 else 0:=by
 unfold JK
 rw [if_neg (by omega),if_neg (by omega),if_neg (by simp [ha];omega),if_pos h]
 cases K4 false e.name <;> simp
theorem errR_2 {d:HDoc} {e:HEdit} (h:e.do'=2) (ha:inD d e.at'):JK d e=if (nd d e.at').kind≠2 then 7 else if ¬ 0<=J9 (nd d e.at').attrs e.name then 5 else 0:=by
 unfold JK
 rw [if_neg (by omega),if_neg (by omega),if_neg (by simp [ha];omega),if_neg (by omega),if_pos h]
theorem errR_3 {d:HDoc} {e:HEdit} (h:e.do'=3) (ha:inD d e.at'):JK d e=if (nd d e.at').kind≠3/\(nd d e.at').kind≠4 then 7 else 0:=by
 unfold JK
 rw [if_neg (by omega),if_neg (by omega),if_neg (by simp [ha];omega),if_neg (by omega),if_neg (by omega),if_pos h]
theorem errR_6 {d:HDoc} {e:HEdit} (h:e.do'=6) (ha:inD d e.at'):JK d e=if e.at'=0 then 7 else if (nd d e.at').parent<0 then 5 else 0:=by
 unfold JK
 rw [if_neg (by omega),if_neg (by omega),if_neg (by simp [ha];omega),if_neg (by omega),if_neg (by omega),if_neg (by omega),if_pos h]
theorem errR_5 {d:HDoc} {e:HEdit} (h:e.do'=5) (ha:inD d e.at') (ht:inD d e.into):JK d e=if 2<(nd d e.at').kind\/e.into=0\/(e.at'=0/\(nd d e.into).kind=3) then 7 else if 0<=(nd d e.into).parent then 9
 else if e.before ≠ -1/\U8 (· == e.before) (nd d e.at').kids<0 then 5 else if decide (e.into∈X7 d e.at')=true then 8 else 0:=by
 have im:=idx_mem (nd d e.at').kids e.before
 unfold JK
 rw [if_neg (by omega),if_neg (by omega),if_neg (by simp [ha,ht]),if_neg (by omega),if_neg (by omega),if_neg (by omega),if_neg (by omega)]
 have:(e.before∉(nd d e.at').kids)=(U8 (· == e.before) (nd d e.at').kids<0):=by rw [<-im];exact propext (by omega)
 simp only [this,decide_eq_true_eq]
def c29_s7:SCode:=(.seq (.seq (.reg [o 65 (.fldA 0 (.t 3)),o 66 (.ld 1 false (.t 65))]) (.block 0 (.seq (.reg [o 112 (.bin .eql (.t 66) (.c (.int .i64 1))),o 111 (.mv (.t 112))]) (.cond (.t 111) (.seq (.seq (.reg [o 113 (.fldA 0 (.t 6)),o 114 (.ld 1 false (.t 113)),o 115 (.bin .neq (.t 114) (.c (.int .i64 2)))]) (.cond (.t 115) (.seq (.reg [o 4 (.mv (.c (.int .i64 7)))]) .ret) .skip)) (.seq (.reg [o 116 (.fldA 4 (.t 3)),o 117 (.ld 1 false (.t 116)),o 118 (.pcall 37 [.t 117,.c (.bool false)]),o 119 (.un .not (.t 118))]) (.cond (.t 119) (.seq (.reg [o 4 (.mv (.c (.int .i64 3)))]) .ret) .skip))) (.seq (.reg [o 121 (.bin .eql (.t 66) (.c (.int .i64 2))),o 120 (.mv (.t 121))]) (.cond (.t 120) (.seq (.seq (.reg [o 122 (.fldA 0 (.t 6)),o 123 (.ld 1 false (.t 122)),o 124 (.bin .neq (.t 123) (.c (.int .i64 2)))]) (.cond (.t 124) (.seq (.reg [o 4 (.mv (.c (.int .i64 7)))]) .ret) .skip)) (.seq (.reg [o 125 (.mv (.t 8)),o 126 (.un .not (.t 125))]) (.cond (.t 126) (.seq (.reg [o 4 (.mv (.c (.int .i64 5)))]) .ret) .skip))) (.seq (.reg [o 128 (.bin .eql (.t 66) (.c (.int .i64 3))),o 127 (.mv (.t 128))]) (.cond (.t 127) (.seq (.reg [o 129 (.fldA 0 (.t 6)),o 130 (.ld 1 false (.t 129)),o 131 (.bin .neq (.t 130) (.c (.int .i64 3))),o 132 (.mv (.t 131)),⟨some 133,.fldA 0 (.t 6),some (132,true)⟩,⟨some 134,.ld 1 false (.t 133),some (132,true)⟩,⟨some 135,.bin .neq (.t 134) (.c (.int .i64 4)),some (132,true)⟩,o 136 (.pick (.t 132) (.t 135) (.c (.bool false)))]) (.cond (.t 136) (.seq (.reg [o 4 (.mv (.c (.int .i64 7)))]) .ret) .skip)) (.seq (.reg [o 138 (.bin .eql (.t 66) (.c (.int .i64 6))),o 137 (.mv (.t 138))]) (.cond (.t 137) (.seq (.seq (.reg [o 139 (.fldA 1 (.t 3)),o 140 (.ld 1 false (.t 139)),o 141 (.bin .eql (.t 140) (.c (.int .i64 0)))]) (.cond (.t 141) (.seq (.reg [o 4 (.mv (.c (.int .i64 7)))]) .ret) .skip)) (.seq (.reg [o 142 (.fldA 4 (.t 6)),o 143 (.ld 1 false (.t 142)),o 144 (.bin .lss (.t 143) (.c (.int .i64 0)))]) (.cond (.t 144) (.seq (.reg [o 4 (.mv (.c (.int .i64 5)))]) .ret) .skip))) (.seq (.reg [o 67 (.fldA 0 (.t 2)),o 68 (.ld 1 false (.t 67)),o 69 (.fldA 2 (.t 3)),o 70 (.ld 1 false (.t 69)),o 71 (.idxA 6 (.t 68) (.t 70)),o 72 (.ld 6 true (.t 71)),o 9 (.new 31 6 [.int .i64 0,.str [],.emp,.str [],.int .i64 0,.emp]),⟨none,.st 6 (.t 9) (.t 72),none⟩]) (.seq (.seq (.reg [o 73 (.fldA 0 (.t 6)),o 74 (.ld 1 false (.t 73)),o 75 (.bin .gtr (.t 74) (.c (.int .i64 2))),o 76 (.mv (.t 75)),⟨some 77,.fldA 2 (.t 3),some (76,false)⟩,⟨some 78,.ld 1 false (.t 77),some (76,false)⟩,⟨some 79,.bin .eql (.t 78) (.c (.int .i64 0)),some (76,false)⟩,o 80 (.pick (.t 76) (.c (.bool true)) (.t 79)),o 81 (.mv (.t 80)),⟨some 82,.fldA 1 (.t 3),some (81,false)⟩,⟨some 83,.ld 1 false (.t 82),some (81,false)⟩,⟨some 84,.bin .eql (.t 83) (.c (.int .i64 0)),some (81,false)⟩,⟨some 85,.mv (.t 84),some (81,false)⟩,⟨some 86,.fldA 0 (.t 9),some (85,true)⟩,⟨some 87,.ld 1 false (.t 86),some (85,true)⟩,⟨some 88,.bin .eql (.t 87) (.c (.int .i64 3)),some (85,true)⟩,⟨some 89,.pick (.t 85) (.t 88) (.c (.bool false)),some (81,false)⟩,o 90 (.pick (.t 81) (.c (.bool true)) (.t 89))]) (.cond (.t 90) (.seq (.reg [o 4 (.mv (.c (.int .i64 7)))]) .ret) .skip)) (.seq (.seq (.reg [o 91 (.fldA 4 (.t 9)),o 92 (.ld 1 false (.t 91)),o 93 (.bin .geq (.t 92) (.c (.int .i64 0)))]) (.cond (.t 93) (.seq (.reg [o 4 (.mv (.c (.int .i64 9)))]) .ret) .skip)) (.seq (.seq (.reg [o 94 (.fldA 3 (.t 3)),o 95 (.ld 1 false (.t 94)),o 96 (.bin .neq (.t 95) (.c (.int .i64 (-1)))),o 97 (.mv (.t 96)),⟨some 98,.fldA 5 (.t 6),some (97,true)⟩,⟨some 99,.ld 1 false (.t 98),some (97,true)⟩,⟨some 100,.fldA 3 (.t 3),some (97,true)⟩,⟨some 101,.ld 1 false (.t 100),some (97,true)⟩,⟨some 102,.pcall 14 [.t 99,.t 101],some (97,true)⟩,⟨some 103,.bin .lss (.t 102) (.c (.int .i64 0)),some (97,true)⟩,o 104 (.pick (.t 97) (.t 103) (.c (.bool false)))]) (.cond (.t 104) (.seq (.reg [o 4 (.mv (.c (.int .i64 5)))]) .ret) .skip)) (.seq (.reg [o 105 (.ld 2 true (.t 2)),o 106 (.fldA 1 (.t 3)),o 107 (.ld 1 false (.t 106)),o 108 (.fldA 2 (.t 3)),o 109 (.ld 1 false (.t 108)),o 110 (.pcall 62 [.t 105,.t 107,.t 109])]) (.cond (.t 110) (.seq (.reg [o 4 (.mv (.c (.int .i64 8)))]) .ret) .skip)))))))))))))))) (.seq (.reg [o 4 (.mv (.c (.int .i64 0)))]) .ret))
def c29_s4:SCode:=(.seq (.seq (.reg [o 32 (.fldA 1 (.t 3)),o 33 (.ld 1 false (.t 32)),o 34 (.mv (.t 5)),o 35 (.bin .sub (.t 34) (.c (.int .i64 1))),o 36 (.pcall 13 [.t 33,.c (.int .i64 0),.t 35]),o 37 (.un .not (.t 36)),o 38 (.mv (.t 37)),⟨some 39,.fldA 0 (.t 3),some (38,false)⟩,⟨some 40,.ld 1 false (.t 39),some (38,false)⟩,⟨some 41,.bin .eql (.t 40) (.c (.int .i64 5)),some (38,false)⟩,⟨some 42,.mv (.t 41),some (38,false)⟩,⟨some 43,.fldA 2 (.t 3),some (42,true)⟩,⟨some 44,.ld 1 false (.t 43),some (42,true)⟩,⟨some 45,.mv (.t 5),some (42,true)⟩,⟨some 46,.bin .sub (.t 45) (.c (.int .i64 1)),some (42,true)⟩,⟨some 47,.pcall 13 [.t 44,.c (.int .i64 0),.t 46],some (42,true)⟩,⟨some 48,.un .not (.t 47),some (42,true)⟩,⟨some 49,.pick (.t 42) (.t 48) (.c (.bool false)),some (38,false)⟩,o 50 (.pick (.t 38) (.c (.bool true)) (.t 49))]) (.cond (.t 50) (.seq (.reg [o 4 (.mv (.c (.int .i64 5)))]) .ret) .skip)) (.seq (.reg [o 51 (.fldA 0 (.t 2)),o 52 (.ld 1 false (.t 51)),o 53 (.fldA 1 (.t 3)),o 54 (.ld 1 false (.t 53)),o 55 (.idxA 6 (.t 52) (.t 54)),o 56 (.ld 6 true (.t 55)),o 6 (.new 31 6 [.int .i64 0,.str [],.emp,.str [],.int .i64 0,.emp]),⟨none,.st 6 (.t 6) (.t 56),none⟩]) (.seq (.reg [o 58 (.fldA 2 (.t 6)),o 59 (.ld 1 false (.t 58)),o 60 (.fldA 4 (.t 3)),o 61 (.ld 1 false (.t 60)),o 62 (.pcall 38 [.t 59,.t 61]),o 57 (.mv (.t 62)),o 63 (.ext (.t 57) 0),o 64 (.ext (.t 57) 1),o 7 (.mv (.t 63)),o 8 (.mv (.t 64))]) c29_s7)))
def c29:SFun:=⟨.seq (.reg [o 2 (.boxF 24 2 (.t 0)),o 3 (.boxF 33 12 (.t 1)),o 4 (.mv (.c (.int .i64 0)))]) (.seq (.reg [o 10 (.fldA 0 (.t 2)),o 11 (.ld 1 false (.t 10)),o 12 (.len (.t 11)),o 5 (.mv (.t 12))]) (.seq (.seq (.reg [o 13 (.fldA 0 (.t 3)),o 14 (.ld 1 false (.t 13)),o 15 (.pcall 13 [.t 14,.c (.int .i64 1),.c (.int .i64 6)]),o 16 (.un .not (.t 15))]) (.cond (.t 16) (.seq (.reg [o 4 (.mv (.c (.int .i64 1)))]) .ret) .skip)) (.seq (.seq (.reg [o 17 (.fldA 0 (.t 3)),o 18 (.ld 1 false (.t 17)),o 19 (.bin .eql (.t 18) (.c (.int .i64 4)))]) (.cond (.t 19) (.seq (.seq (.reg [o 20 (.fldA 6 (.t 3)),o 21 (.fldA 5 (.t 20)),o 22 (.ld 1 false (.t 21)),o 23 (.len (.t 22)),o 24 (.bin .gtr (.t 23) (.c (.int .i64 0)))]) (.cond (.t 24) (.seq (.reg [o 4 (.mv (.c (.int .i64 3)))]) .ret) .skip)) (.seq (.seq (.reg [o 25 (.fldA 6 (.t 3)),o 26 (.fldA 0 (.t 25)),o 27 (.ld 1 false (.t 26)),o 28 (.bin .eql (.t 27) (.c (.int .i64 1)))]) (.cond (.t 28) (.seq (.reg [o 4 (.mv (.c (.int .i64 7)))]) .ret) .skip)) (.seq (.reg [o 29 (.fldA 6 (.t 3)),o 30 (.ld 6 true (.t 29)),o 31 (.pcall 12 [.t 30]),o 4 (.mv (.t 31))]) .ret))) .skip)) c29_s4))),[.tmp 4]⟩
theorem hc29:Y3 Tryz.prog {pure:=[13,12,14,38,37,62]} Tryz.f29=some c29:=by kernel_rfl
theorem editErr_ok (d:HDoc) (V:DV d) (sm:DocSm d) (e:HEdit) (he:EditSm e):PCalls (Pg G) 29 [.agg (Q8 d),.agg (Z4 e)] (Q3 (JK d e)):=fun h=>by
 have hl:=sm.len
 have hN:=nodeErr_ok (G:=G) e.node he.node
 have hB1:PCalls (Pg G) 13 [Q3 e.do',.int .i64 1,.int .i64 6] (.bool (decide (1<=e.do'/\e.do'<=6))):=betwD_ok (G:=G) e.do' 1 6
 have hB2:PCalls (Pg G) 13 [Q3 e.at',.int .i64 0,Q3 ((d.nodes.length:Int)-1)] (.bool (decide (0<=e.at'/\e.at'<=(d.nodes.length:Int)-1))):=betwD_ok (G:=G) e.at' 0 ((d.nodes.length:Int)-1)
 have hB3:PCalls (Pg G) 13 [Q3 e.into,.int .i64 0,Q3 ((d.nodes.length:Int)-1)] (.bool (decide (0<=e.into/\e.into<=(d.nodes.length:Int)-1))):=betwD_ok (G:=G) e.into 0 ((d.nodes.length:Int)-1)
 have s7:inD d e.at'->(e.do'=5->inD d e.into)->1<=e.do'->e.do'<=6->e.do'≠4 -> ∀ (E:Env) (h2:Q2) (r6:Nat),h2 r6=some ⟨.t 31,6,[Q7 (nd d e.at')]⟩->Sim.Sub h h2->E 2=.pin (Q8 d)->E 3=.pin (Z4 e)->E 6=.vp r6 0->E 8=.bool (decide (0<=J9 (nd d e.at').attrs e.name))->vc (Pg G) c29_s7 (KU [.tmp 4] fun r h'=>r=Q3 (JK d e)/\h'=h) E h2:=by
  intro ha hto h1 h6 h4 E h2 r6 hr6 S he2 he3 he6 he8
  unfold Q7 at hr6
  unfold c29_s7
  skip
  have a0:=ha.1
  have a1:=ha.2
  have ea:nth d.nodes e.at'.toNat=nd d e.at':=rfl
  have et:nth d.nodes e.into.toNat=nd d e.into:=rfl
  have hD:PCalls (Pg G) 37 [.str e.name,.bool false] (.bool (K4 false e.name)):=domName_ok (G:=G) e.name false he.name
  have hP:PCalls (Pg G) 14 [sl Z6 (nd d e.at').kids,Q3 e.before] (Q3 (U8 (· == e.before) (nd d e.at').kids)):=placeIn_ok (G:=G) _ _ (sm.nd _).kids
  have im:=idx_mem (nd d e.at').kids e.before
  have hU:e.do'=5->PCalls (Pg G) 62 [.agg [sl Q7 d.nodes,.bool d.quirks],Q3 e.at',Q3 e.into] (.bool (decide (e.into∈X7 d e.at'))):=fun h5=>under_ok (G:=G) d V e.at' e.into ha (hto h5).1
  by_cases c1:e.do'=1
  ·have hE:=errR_1 c1 ha
   generalize K4 false e.name=bn at *
   cases bn
   all_goals
    simp -dsimp -implicitDefEqProofs (disch:=omega) only [VCA,Nat.reduceAdd,Nat.reduceLeDiff,↓reduceIte,he3,Z4,c1]
    repeat' (first | ((with_reducible refine brC (fun _=>?_) fun _=>?_) <;> try (exfalso;omega)) | (with_reducible apply pcallE.of; · exact hD) | (with_reducible refine And.intro ?_ ?_; · omega) | simp -dsimp -implicitDefEqProofs (disch:=omega) only [VCA,Nat.reduceEqDiff,Nat.reduceAdd,Nat.reduceLT,Nat.reduceLeDiff,↓reduceIte,exists_eq_right_right,exists_eq_left',he3,he6,hr6,Z4,c1])
   all_goals first | (rw [hE]; ((repeat' split) <;> first | with_reducible rfl | (exfalso;omega) | contradiction);done) | (refine ⟨S,?_⟩;rw [hE]; ((repeat' split) <;> first | with_reducible rfl | (exfalso;omega) | contradiction);done) | trace_state
  by_cases c2:e.do'=2
  ·have hE:=errR_2 c2 ha
   by_cases hat:0<=J9 (nd d e.at').attrs e.name
   all_goals
    first
     | rw [decide_eq_true hat] at he8
     | rw [decide_eq_false hat] at he8
    simp -dsimp -implicitDefEqProofs (disch:=omega) only [VCA,Nat.reduceAdd,Nat.reduceLeDiff,↓reduceIte,he3,Z4,c2]
    repeat' (first | ((with_reducible refine brC (fun _=>?_) fun _=>?_) <;> try (exfalso;omega)) | (with_reducible refine And.intro ?_ ?_; · omega) | simp -dsimp -implicitDefEqProofs (disch:=omega) only [VCA,Nat.reduceEqDiff,Nat.reduceAdd,Nat.reduceLT,Nat.reduceLeDiff,↓reduceIte,exists_eq_right_right,exists_eq_left',he6,he8,hr6])
   all_goals first | (rw [hE]; ((repeat' split) <;> first | with_reducible rfl | (exfalso;omega) | contradiction);done) | (refine ⟨S,?_⟩;rw [hE]; ((repeat' split) <;> first | with_reducible rfl | (exfalso;omega) | contradiction);done) | trace_state
  by_cases c3:e.do'=3
  ·have hE:=errR_3 c3 ha
   simp -dsimp -implicitDefEqProofs (disch:=omega) only [VCA,Nat.reduceAdd,Nat.reduceLeDiff,↓reduceIte,he3,Z4,c3]
   repeat' (first | ((with_reducible refine brC (fun _=>?_) fun _=>?_) <;> try (exfalso;omega)) | (with_reducible refine And.intro ?_ ?_; · omega) | simp -dsimp -implicitDefEqProofs (disch:=omega) only [↓Q1 132,VCA,Nat.reduceEqDiff,Nat.reduceAdd,Nat.reduceLT,Nat.reduceLeDiff,↓reduceIte,exists_eq_right_right,exists_eq_left',he6,hr6])
   all_goals first | (rw [hE]; ((repeat' split) <;> first | with_reducible rfl | (exfalso;omega) | contradiction);done) | (refine ⟨S,?_⟩;rw [hE]; ((repeat' split) <;> first | with_reducible rfl | (exfalso;omega) | contradiction);done) | trace_state
  by_cases c6:e.do'=6
  ·have hE:=errR_6 c6 ha
   simp -dsimp -implicitDefEqProofs (disch:=omega) only [VCA,Nat.reduceAdd,Nat.reduceLeDiff,↓reduceIte,he3,Z4,c6]
   repeat' (first | ((with_reducible refine brC (fun _=>?_) fun _=>?_) <;> try (exfalso;omega)) | (with_reducible refine And.intro ?_ ?_; · omega) | simp -dsimp -implicitDefEqProofs (disch:=omega) only [VCA,Nat.reduceEqDiff,Nat.reduceAdd,Nat.reduceLT,Nat.reduceLeDiff,↓reduceIte,exists_eq_right_right,exists_eq_left',he3,he6,hr6,Z4,c6])
   all_goals first | (rw [hE]; ((repeat' split) <;> first | with_reducible rfl | (exfalso;omega) | contradiction);done) | (refine ⟨S,?_⟩;rw [hE]; ((repeat' split) <;> first | with_reducible rfl | (exfalso;omega) | contradiction);done) | trace_state
  have c5:e.do'=5:=by omega
  have t0:=(hto c5).1
  have t1:=(hto c5).2
  have hU:=hU c5
  have hE:=errR_5 c5 ha (hto c5)
  clear im hD hB1 hB2 hB3 hN
  generalize decide (e.into∈X7 d e.at')=bc at *
  cases bc
  all_goals
   simp -dsimp -implicitDefEqProofs (disch:=omega) only [VCA,Nat.reduceAdd,Nat.reduceLeDiff,↓reduceIte,he3,Z4,c5]
   repeat' (first | ((with_reducible refine brC (fun _=>?_) fun _=>?_) <;> try (exfalso;omega)) | (with_reducible refine And.intro ?_ ?_; · omega) | simp -dsimp -implicitDefEqProofs (disch:=omega) only [↓Q1 76,VCA,Nat.reduceEqDiff,Nat.reduceAdd,Nat.reduceLT,Nat.reduceLeDiff,↓reduceIte,Z8,exists_eq_left',Q8,he2,he3,he6,hr6,Z4,Q7,c5])
   intro r9 hr9
   have n69:¬ r6=r9:=fun e=>by rw [<-e,hr6] at hr9;cases hr9
   have n96:¬ r9=r6:=fun e=>n69 e.symm
   repeat' (first | ((with_reducible refine brC (fun _=>?_) fun _=>?_) <;> try (exfalso;omega)) | (with_reducible apply pcallE.of; · exact hP) | (with_reducible apply pcallE.of; · exact hU) | (with_reducible refine And.intro ?_ ?_; · omega) | simp -dsimp -implicitDefEqProofs (disch:=omega) only [↓Q1 81,↓Q1 85,↓Q1 97,VCA,Nat.reduceEqDiff,Nat.reduceAdd,Nat.reduceLT,Nat.reduceLeDiff,↓reduceIte,exists_eq_right_right,exists_eq_left',Q8,he2,he3,he6,hr6,n69,Z4,c5,et])
   all_goals first | (rw [hE]; ((repeat' split) <;> first | with_reducible rfl | (exfalso;omega) | contradiction);done) | (refine ⟨S.upd (S.none hr9),?_⟩;rw [hE]; ((repeat' split) <;> first | with_reducible rfl | (exfalso;omega) | contradiction);done) | trace_state
 have s4:1<=e.do'->e.do'<=6->e.do'≠4 -> ∀ E:Env,E 2=.pin (Q8 d)->E 3=.pin (Z4 e)->E 5=Q3 d.nodes.length->vc (Pg G) c29_s4 (KU [.tmp 4] fun r h'=>r=Q3 (JK d e)/\h'=h) E h:=by
  intro h1 h6 h4 E he2 he3 he5
  unfold c29_s4
  skip
  have ea:nth d.nodes e.at'.toNat=nd d e.at':=rfl
  have hA:PCalls (Pg G) 38 [sl Y0 (nd d e.at').attrs,.str e.name] (.tup [.str (VW (nd d e.at').attrs e.name).1,.bool (VW (nd d e.at').attrs e.name).2]):=attrOf_ok (G:=G) _ e.name (sm.nd _).attrs
  rw [attrOf_has] at hA
  simp -dsimp -implicitDefEqProofs (disch:=omega) only [VCA,Nat.reduceEqDiff,Nat.reduceAdd,Nat.reduceLeDiff,↓reduceIte,he3,he5,Z4]
  repeat' (first | ((with_reducible refine brC (fun _=>?_) fun _=>?_) <;> try (exfalso;omega)) | (with_reducible apply pcallE.of; · exact hB2) | (with_reducible apply pcallE.of; · exact hB3) | (with_reducible refine And.intro ?_ ?_; · omega) | simp -dsimp -implicitDefEqProofs (disch:=omega) only [↓Q1 38,↓Q1 42,VCA,Nat.reduceEqDiff,Nat.reduceAdd,Nat.reduceLT,Nat.reduceLeDiff,↓reduceIte,Z8,exists_eq_right_right,exists_eq_left',Q8,he2,he3,he5,Z4,Q7,ea])
  ·exact ⟨Sub.refl _,(errR_in h1 h6 h4 (.inl (by unfold inD;omega))).symm⟩
  ·exact ⟨Sub.refl _,(errR_in h1 h6 h4 (.inr (by unfold inD;omega))).symm⟩
  all_goals
   rename_i qq
   intro r6 hr6
   repeat' (first | ((with_reducible refine brC (fun _=>?_) fun _=>?_) <;> try (exfalso;omega)) | (with_reducible apply pcallE.of; · exact hA) | (with_reducible refine And.intro ?_ ?_; · omega) | simp -dsimp -implicitDefEqProofs (disch:=omega) only [VCA,Nat.reduceEqDiff,Nat.reduceAdd,Nat.reduceLT,↓reduceIte])
   exact s7 (by unfold inD;omega) (fun h5=>by unfold inD;omega) h1 h6 h4 _ _ r6 (Q5 _ _ _) ((Sub.refl _).upd hr6) he2 he3 rfl rfl
 refine Q0 Tryz.func29 (by kernel_rfl) hc29 (by rw [Tryz.ntmps29];simp) (by rw [Tryz.ntmps29];decide) ?_
 simp -dsimp -implicitDefEqProofs (disch:=omega) only [VCA,Nat.reduceEqDiff,Nat.reduceAdd,Nat.reduceLeDiff,↓reduceIte,Q8,c29,Z4]
 unfold Q7 at hN
 repeat' (first | ((with_reducible refine brC (fun _=>?_) fun _=>?_) <;> try (exfalso;omega)) | (with_reducible apply pcallE.of; · exact hB1) | (with_reducible apply pcallE.of; · exact hN) | (with_reducible refine And.intro ?_ ?_; · omega) | simp -dsimp -implicitDefEqProofs (disch:=omega) only [VCA,Nat.reduceEqDiff,Nat.reduceAdd,Nat.reduceLeDiff,↓reduceIte,exists_eq_right_right])
 ·rename_i q
  exact ⟨Sub.refl _,by unfold JK;rw [if_pos q]⟩
 ·rename_i q1 q2 q3
  exact ⟨Sub.refl _,by rw [errR_4 q2,if_pos q3]⟩
 ·rename_i q1 q2 q3 q4
  exact ⟨Sub.refl _,by rw [errR_4 q2,if_neg q3,if_pos q4]⟩
 ·rename_i q1 q2 q3 q4
  exact ⟨Sub.refl _,by rw [errR_4 q2,if_neg q3,if_neg q4]⟩
 ·rename_i q1 q2
  exact s4 q1.1 q1.2 q2 _ rfl rfl rfl
theorem DocSm.setN {d:HDoc} {x:HNode} {n:Int} (sm:DocSm d) (hx:NodeSm x):DocSm (setN d n x):=⟨by rw [XK];exact sm.len,fun y hy=>by
 rcases List.mem_or_eq_of_mem_set hy with h | h
 ·exact sm.each y h
 ·exact h ▸ hx⟩
theorem edit_sm {d:HDoc} (V:DV d) (sm:DocSm d) {e:HEdit} (he:EditSm e) (h0:JK d e=0):DocSm (J6 d e):=by
 have kl:∀ n,(nd d n).kids.length<=1073741823:=fun n=>by
  by_cases hn:inD d n
  ·have:=YK d.nodes.length (nd d n).kids (V.nodup n hn) (fun k hk=>(V.kid n hn k hk).1)
   have:=V.len
   omega
  ·have:(nd d n).kids=[]\/inD d n.toNat:=by
    by_cases h:n.toNat<d.nodes.length
    ·exact .inr (inD_nat.2 h)
    ·left;unfold nd;rw [nth_def h];rfl
   rcases this with h | h
   ·rw [h];decide
   ·have h2:=YK d.nodes.length (nd d n.toNat).kids (V.nodup _ h) (fun k hk=>(V.kid _ h k hk).1)
    have:nd d (n.toNat:Int)=nd d n:=by unfold nd;rw [Int.toNat_natCast]
    rw [this] at h2
    have:=V.len
    omega
 have ns:=fun n=>sm.nd n
 unfold J6
 split
 ·rename_i h1
  have ha:inD d e.at':=by
   apply Classical.byContradiction;intro ha
   rw [errR_in (by omega) (by omega) (by omega) (.inl ha)] at h0;omega
  have al:=((ZZ _).1 ((W5 _).1 (V.node _ ha)).2.2.2.1).1
  refine sm.setN ⟨(ns _).name,?_,?_,(ns _).text,(ns _).kids⟩
  ·unfold V6;split
   ·rw [List.length_set];omega
   ·rw [List.length_append,List.length_singleton];omega
  ·intro a ha
   have:a∈(nd d e.at').attrs\/a=⟨e.name,e.value⟩:=by
    unfold V6 at ha;split at ha
    ·exact List.mem_or_eq_of_mem_set ha
    ·rcases List.mem_append.1 ha with h | h
     ·exact .inl h
     ·exact .inr (by simpa using h)
   rcases this with h | h
   ·exact (ns _).each a h
   ·subst h;exact ⟨he.name,he.value⟩
 split
 ·refine sm.setN ⟨(ns _).name,?_,?_,(ns _).text,(ns _).kids⟩
  ·have:=(ns e.at').attrs
   unfold W9;rw [List.length_append,List.length_take,List.length_drop];omega
  ·intro a ha
   refine (ns e.at').each a ?_
   unfold W9 at ha
   rcases List.mem_append.1 ha with h | h
   ·exact List.mem_of_mem_take h
   ·exact List.mem_of_mem_drop h
 split
 ·exact sm.setN ⟨(ns _).name,(ns _).attrs,(ns _).each,he.value,(ns _).kids⟩
 split
 ·refine ⟨by rw [ZW];have:=V.len;omega,fun y hy=>?_⟩
  rcases List.mem_append.1 hy with h | h
  ·exact sm.each y h
  ·have:y=madeM e.node:=by simpa using h
   subst this
   exact ⟨he.node.name,he.node.attrs,he.node.each,he.node.text,Nat.zero_le _⟩
 split
 ·unfold UV
  refine DocSm.setN (DocSm.setN sm ⟨(ns e.at').name,(ns e.at').attrs,(ns e.at').each,(ns e.at').text,?_⟩) ⟨(ns e.into).name,(ns e.into).attrs,(ns e.into).each,(ns e.into).text,(ns e.into).kids⟩
  have:=kl e.at'
  show (List.take _ _++_ :: List.drop _ _).length<=_
  rw [List.length_append,List.length_cons,List.length_take,List.length_drop];omega
 ·unfold cutN
  refine DocSm.setN (DocSm.setN sm ⟨(ns (nd d e.at').parent).name,(ns (nd d e.at').parent).attrs,(ns (nd d e.at').parent).each,(ns (nd d e.at').parent).text,?_⟩) ⟨(ns e.at').name,(ns e.at').attrs,(ns e.at').each,(ns e.at').text,(ns e.at').kids⟩
  show (List.take _ _++List.drop _ _).length<=_
  have:=kl (nd d e.at').parent
  rw [List.length_append,List.length_take,List.length_drop];omega
theorem apply_by {d:HDoc} (V:DV d) {e:HEdit} (h0:JK d e=0):(YU (J6 d e)≠0->K3 d e=2)/\(YU (J6 d e)=0->K3 d e=0):=by
 have hd:=(WY d).2 V
 have aE:K3 d e=V4 d e:=by unfold K3;rw [if_neg (by simpa using hd)]
 have h1:=edit_DV V e h0
 rw [<-WY] at h1
 rw [aE]
 refine ⟨fun h=>?_,fun h=>h1.1 h⟩
 rcases (editE_errR V e).2 h0 with h2 | h2
 ·exact absurd (h1.2 h2) h
 ·exact h2
theorem apply_err {d:HDoc} (V:DV d) {e:HEdit} (h0:JK d e≠0):K3 d e=JK d e:=by
 have hd:=(WY d).2 V
 unfold K3;rw [if_neg (by simpa using hd)]
 exact (editE_errR V e).1 h0
def Vz (a b:AVal):Prop:=∀ h,Vw h a b
theorem Vz.refl (a:AVal):Vz a a:=fun h=>.refl a
theorem Vz.emp:Vz .emp (.slc []):=fun h=>.emp
theorem F2.imp' {α:Type} {R S:α->α->Prop} (hi:∀ a b,R a b->S a b) {l m:List α} (h:F2 R l m):F2 S l m:=by
 induction h with
 | nil=>exact .nil
 | cons h _ ih=>exact .cons (hi _ _ h) ih
theorem F2.app {α:Type} {R:α->α->Prop} {l m l2 m2:List α} (h:F2 R l m) (h2:F2 R l2 m2):F2 R (l++l2) (m++m2):=by
 induction h with
 | nil=>exact h2
 | cons h _ ih=>exact .cons h ih
theorem OwnS.vwk {α:Type} [Inhabited α] {enc:α->List AVal} {h:Q2} {ty sz:Nat} [LenE enc sz] {l:List α} {cells:List (List AVal)} {a:AVal} (O:OwnS h ty sz cells a) (M:Mut a) (hc:F2 (F2 Vz) cells (l.map enc)):Vw h a (sl enc l):=by
 rcases O.live M with ⟨h1,h2⟩ | ⟨r,es,ha,hr,h1,h2⟩
 ·subst h1
  have:l=[]:=by
   have:=hc.len
   rw [List.length_map] at this
   exact List.eq_nil_of_length_eq_zero this.symm
  subst this;subst h2;exact .emp
 ·subst ha
  refine Vw.osl0 hr hc.len.symm h1 (fun f hf=>by obtain ⟨x,_,rfl⟩:=List.mem_map.1 hf;exact LenE.len x) ?_
  show F2 _ (es.take _) _
  rw [h2]
  exact F2.imp' (fun _ _ hb=>F2.imp' (fun _ _ hw=>hw h) hb) hc
theorem Fresh.vwk {α:Type} [Inhabited α] {enc:α->List AVal} {h h':Q2} {ty sz:Nat} [LenE enc sz] {l:List α} {cells:List (List AVal)} {a:AVal} (F:Fresh h h' ty sz cells a) (hc:F2 (F2 Vz) cells (l.map enc)):Vw (newH h h') a (sl enc l):=
 OwnS.vwk (F.own.keep fun r o hr ho=>by rw [UJ (F.new r hr)];exact ho) F.live hc
theorem wks_refl (l:List (List AVal)):F2 (F2 Vz) l l:=F2.refl (fun a=>F2.refl (fun x=>.refl x) a) l
def edR (d:HDoc) (e:HEdit):AVal:=.tup [.agg (Q8 (V7 d e)),Q3 (UK d e),Q3 (K3 d e)]
def EdK (d:HDoc) (e:HEdit) (h:Q2) (a:AVal) (h':Q2):Prop:=Sub h h'/\VwT (newH h h') a (edR d e)
def c9_s6:SCode:=(.seq (.seq (.reg [o 199 (.ld 2 true (.t 8)),o 200 (.call (.c (.fn 5 [] [])) [.t 199]),o 201 (.bin .neq (.t 200) (.c (.int .i64 0)))]) (.cond (.t 201) (.seq (.reg [o 202 (.bld [.emp,.bool false] []),⟨none,.st 2 (.t 4) (.t 202),none⟩,o 5 (.mv (.c (.int .i64 0))),o 6 (.mv (.c (.int .i64 2)))]) .ret) .skip)) (.seq (.reg [o 203 (.ld 2 true (.t 8)),o 204 (.mv (.t 9)),⟨none,.st 2 (.t 4) (.t 203),none⟩,o 5 (.mv (.t 204)),o 6 (.mv (.c (.int .i64 0)))]) .ret))
def c9_s5:SCode:=(.seq (.seq (.reg [o 26 (.fldA 0 (.t 3)),o 27 (.ld 1 false (.t 26)),o 28 (.bin .eql (.t 27) (.c (.int .i64 4)))]) (.cond (.t 28) (.seq (.reg [o 29 (.fldA 0 (.t 8)),o 30 (.ld 1 false (.t 29)),o 31 (.len (.t 30)),o 9 (.mv (.t 31))]) (.dreg [(o 32 (.fldA 0 (.t 8)),none),(o 33 (.ld 1 false (.t 32)),none),(o 34 (.fldA 6 (.t 3)),none),(o 35 (.fldA 0 (.t 34)),none),(o 36 (.ld 1 false (.t 35)),none),(o 37 (.fldA 6 (.t 3)),none),(o 38 (.fldA 1 (.t 37)),none),(o 39 (.ld 1 false (.t 38)),none),(o 40 (.bldF 72 2 []),none),(o 41 (.fldA 6 (.t 3)),none),(o 42 (.fldA 2 (.t 41)),none),(o 43 (.ld 1 false (.t 42)),none),(o 45 (.fldA 6 (.t 3)),none),(o 46 (.fldA 3 (.t 45)),none),(o 47 (.ld 1 false (.t 46)),none),(o 44 (.appF 72 2 32 (.t 40) (.t 43)),(some [43])),(o 48 (.bld [.int .i64 0,.str [],.emp,.str [],.int .i64 0,.emp] [(0,(1,(.t 36))),(1,(1,(.t 39))),(2,(1,(.t 44))),(3,(1,(.t 47))),(4,(1,(.c (.int .i64 (-1)))))]),none),(o 49 (.bldF 31 6 [.t 48]),none),(o 50 (.app 31 6 96 (.t 33) (.t 49)),(some [33,36,39,47,43])),(o 51 (.fldA 0 (.t 8)),none),(⟨none,.st 1 (.t 51) (.t 50),none⟩,(some [33,36,39,47,43]))])) (.seq (.reg [o 52 (.fldA 0 (.t 8)),o 53 (.ld 1 false (.t 52)),o 54 (.fldA 1 (.t 3)),o 55 (.ld 1 false (.t 54)),o 56 (.idxA 6 (.t 53) (.t 55)),o 57 (.ld 6 true (.t 56)),o 10 (.new 31 6 [.int .i64 0,.str [],.emp,.str [],.int .i64 0,.emp]),⟨none,.st 6 (.t 10) (.t 57),none⟩]) (.seq (.reg [o 11 (.mv (.c .emp))]) (.seq (.reg [o 12 (.mv (.c (.bool false)))]) (.seq (.seq (.reg [o 13 (.mv (.c (.int .i64 0)))]) (.block 0 (.loop (.seq (.seq (.reg [o 58 (.mv (.t 13)),o 59 (.fldA 2 (.t 10)),o 60 (.ld 1 false (.t 59)),o 61 (.len (.t 60)),o 62 (.bin .lss (.t 58) (.t 61))]) (.cond (.t 62) .skip (.exit 0))) (.seq (.block 1 (.seq (.reg [o 65 (.fldA 2 (.t 10)),o 66 (.ld 1 false (.t 65)),o 67 (.mv (.t 13)),o 68 (.idxA 2 (.t 66) (.t 67)),o 69 (.ld 2 true (.t 68)),o 14 (.new 72 2 [.str [],.str []]),⟨none,.st 2 (.t 14) (.t 69),none⟩]) (.seq (.seq (.reg [o 70 (.fldA 0 (.t 14)),o 71 (.ld 1 false (.t 70)),o 72 (.fldA 4 (.t 3)),o 73 (.ld 1 false (.t 72)),o 74 (.bin .eql (.t 71) (.t 73)),o 75 (.mv (.t 74)),⟨some 76,.fldA 0 (.t 3),some (75,true)⟩,⟨some 77,.ld 1 false (.t 76),some (75,true)⟩,⟨some 78,.bin .eql (.t 77) (.c (.int .i64 1)),some (75,true)⟩,o 79 (.pick (.t 75) (.t 78) (.c (.bool false)))]) (.cond (.t 79) (.seq (.reg [o 80 (.fldA 5 (.t 3)),o 81 (.ld 1 false (.t 80)),o 82 (.fldA 1 (.t 14)),⟨none,.st 1 (.t 82) (.t 81),none⟩]) (.reg [o 12 (.mv (.c (.bool true)))])) .skip)) (.seq (.reg [o 83 (.fldA 0 (.t 14)),o 84 (.ld 1 false (.t 83)),o 85 (.fldA 4 (.t 3)),o 86 (.ld 1 false (.t 85)),o 87 (.bin .neq (.t 84) (.t 86)),o 88 (.mv (.t 87)),⟨some 89,.fldA 0 (.t 3),some (88,false)⟩,⟨some 90,.ld 1 false (.t 89),some (88,false)⟩,⟨some 91,.bin .neq (.t 90) (.c (.int .i64 2)),some (88,false)⟩,o 92 (.pick (.t 88) (.c (.bool true)) (.t 91))]) (.cond (.t 92) (.reg [o 93 (.mv (.t 11)),o 94 (.ld 2 true (.t 14)),o 95 (.bldF 72 2 [.t 94]),o 96 (.app 72 2 32 (.t 93) (.t 95)),o 11 (.mv (.t 96))]) .skip))))) (.reg [o 63 (.mv (.t 13)),o 64 (.bin .add (.t 63) (.c (.int .i64 1))),o 13 (.mv (.t 64))])))))) (.seq (.seq (.reg [o 97 (.fldA 0 (.t 3)),o 98 (.ld 1 false (.t 97)),o 99 (.bin .eql (.t 98) (.c (.int .i64 1))),o 100 (.mv (.t 99)),⟨some 101,.mv (.t 12),some (100,true)⟩,⟨some 102,.un .not (.t 101),some (100,true)⟩,o 103 (.pick (.t 100) (.t 102) (.c (.bool false)))]) (.cond (.t 103) (.reg [o 104 (.mv (.t 11)),o 105 (.fldA 4 (.t 3)),o 106 (.ld 1 false (.t 105)),o 107 (.fldA 5 (.t 3)),o 108 (.ld 1 false (.t 107)),o 109 (.bld [.str [],.str []] [(0,(1,(.t 106))),(1,(1,(.t 108)))]),o 110 (.bldF 72 2 [.t 109]),o 111 (.app 72 2 32 (.t 104) (.t 110)),o 11 (.mv (.t 111))]) .skip)) (.seq (.seq (.reg [o 112 (.fldA 0 (.t 3)),o 113 (.ld 1 false (.t 112)),o 114 (.bin .eql (.t 113) (.c (.int .i64 1))),o 115 (.mv (.t 114)),⟨some 116,.fldA 0 (.t 3),some (115,false)⟩,⟨some 117,.ld 1 false (.t 116),some (115,false)⟩,⟨some 118,.bin .eql (.t 117) (.c (.int .i64 2)),some (115,false)⟩,o 119 (.pick (.t 115) (.c (.bool true)) (.t 118))]) (.cond (.t 119) (.reg [o 120 (.frz (.t 11)),o 121 (.fldA 2 (.t 10)),⟨none,.st 1 (.t 121) (.t 120),none⟩]) .skip)) (.seq (.seq (.reg [o 122 (.fldA 0 (.t 3)),o 123 (.ld 1 false (.t 122)),o 124 (.bin .eql (.t 123) (.c (.int .i64 3)))]) (.cond (.t 124) (.reg [o 125 (.fldA 5 (.t 3)),o 126 (.ld 1 false (.t 125)),o 127 (.fldA 3 (.t 10)),⟨none,.st 1 (.t 127) (.t 126),none⟩]) .skip)) (.seq (.seq (.reg [o 128 (.fldA 0 (.t 3)),o 129 (.ld 1 false (.t 128)),o 130 (.bin .eql (.t 129) (.c (.int .i64 5)))]) (.cond (.t 130) (.seq (.reg [o 131 (.fldA 5 (.t 10)),o 132 (.ld 1 false (.t 131)),o 133 (.len (.t 132)),o 15 (.mv (.t 133))]) (.seq (.seq (.reg [o 134 (.fldA 3 (.t 3)),o 135 (.ld 1 false (.t 134)),o 136 (.bin .neq (.t 135) (.c (.int .i64 (-1))))]) (.cond (.t 136) (.reg [o 137 (.fldA 5 (.t 10)),o 138 (.ld 1 false (.t 137)),o 139 (.fldA 3 (.t 3)),o 140 (.ld 1 false (.t 139)),o 141 (.pcall 14 [.t 138,.t 140]),o 15 (.mv (.t 141))]) .skip)) (.seq (.dreg [(o 142 (.bldF 3 1 []),none),(o 143 (.fldA 5 (.t 10)),none),(o 144 (.ld 1 false (.t 143)),none),(o 145 (.mv (.t 15)),none),(o 146 (.slA 1 (.t 144) none (some (.t 145))),none),(o 148 (.fldA 2 (.t 3)),none),(o 149 (.ld 1 false (.t 148)),none),(o 150 (.bldF 3 1 [.t 149]),none),(o 152 (.fldA 5 (.t 10)),none),(o 153 (.ld 1 false (.t 152)),none),(o 154 (.mv (.t 15)),none),(o 155 (.slA 1 (.t 153) (some (.t 154)) none),none),(o 147 (.app 3 1 8 (.t 142) (.t 146)),(some [144])),(o 151 (.app 3 1 8 (.t 147) (.t 150)),(some [149,144])),(o 156 (.appF 3 1 8 (.t 151) (.t 155)),(some [153,149,144])),(o 157 (.fldA 5 (.t 10)),none),(⟨none,.st 1 (.t 157) (.t 156),none⟩,(some [153,149,144]))]) (.reg [o 158 (.fldA 0 (.t 8)),o 159 (.ld 1 false (.t 158)),o 160 (.fldA 2 (.t 3)),o 161 (.ld 1 false (.t 160)),o 162 (.fldA 1 (.t 3)),o 163 (.ld 1 false (.t 162)),o 164 (.idxA 6 (.t 159) (.t 161)),o 165 (.fldA 4 (.t 164)),⟨none,.st 1 (.t 165) (.t 163),none⟩])))) .skip)) (.seq (.seq (.reg [o 166 (.fldA 0 (.t 3)),o 167 (.ld 1 false (.t 166)),o 168 (.bin .eql (.t 167) (.c (.int .i64 6)))]) (.cond (.t 168) (.seq (.reg [o 169 (.fldA 4 (.t 10)),o 170 (.ld 1 false (.t 169)),o 16 (.mv (.t 170))]) (.seq (.dreg [(o 171 (.fldA 0 (.t 8)),none),(o 172 (.ld 1 false (.t 171)),none),(o 173 (.mv (.t 16)),none),(o 174 (.fldA 0 (.t 8)),none),(o 175 (.ld 1 false (.t 174)),none),(o 176 (.mv (.t 16)),none),(o 177 (.idxA 6 (.t 175) (.t 176)),none),(o 178 (.fldA 5 (.t 177)),none),(o 179 (.ld 1 false (.t 178)),none),(o 180 (.fldA 0 (.t 8)),none),(o 181 (.ld 1 false (.t 180)),none),(o 182 (.mv (.t 16)),none),(o 183 (.idxA 6 (.t 181) (.t 182)),none),(o 184 (.fldA 5 (.t 183)),none),(o 185 (.ld 1 false (.t 184)),none),(o 186 (.fldA 1 (.t 3)),none),(o 187 (.ld 1 false (.t 186)),none),(o 188 (.pcall 14 [.t 185,.t 187]),none),(o 189 (.pcall 31 [.t 179,.t 188]),none),(o 190 (.idxA 6 (.t 172) (.t 173)),none),(o 191 (.fldA 5 (.t 190)),none),(⟨none,.st 1 (.t 191) (.t 189),none⟩,(some [172,179,175,185,187,181]))]) (.reg [o 192 (.fldA 4 (.t 10)),⟨none,.st 1 (.t 192) (.c (.int .i64 (-1))),none⟩]))) .skip)) (.reg [o 193 (.fldA 0 (.t 8)),o 194 (.ld 1 false (.t 193)),o 195 (.fldA 1 (.t 3)),o 196 (.ld 1 false (.t 195)),o 197 (.ld 6 true (.t 10)),o 198 (.idxA 6 (.t 194) (.t 196)),⟨none,.st 6 (.t 198) (.t 197),none⟩])))))))))))) c9_s6)
def c9:SFun:=⟨.seq (.reg [o 2 (.boxF 24 2 (.t 0)),o 3 (.boxF 33 12 (.t 1)),o 4 (.new 24 2 [.emp,.bool false]),o 5 (.mv (.c (.int .i64 0))),o 6 (.mv (.c (.int .i64 0)))]) (.seq (.reg [o 17 (.ld 2 true (.t 2)),o 18 (.ld 12 true (.t 3)),o 19 (.pcall 29 [.t 17,.t 18]),o 7 (.mv (.t 19))]) (.seq (.seq (.reg [o 20 (.mv (.t 7)),o 21 (.bin .neq (.t 20) (.c (.int .i64 0)))]) (.cond (.t 21) (.seq (.reg [o 22 (.bld [.emp,.bool false] []),o 23 (.mv (.t 7)),⟨none,.st 2 (.t 4) (.t 22),none⟩,o 5 (.mv (.c (.int .i64 0))),o 6 (.mv (.t 23))]) .ret) .skip)) (.seq (.reg [o 24 (.ld 2 true (.t 2)),o 25 (.call (.c (.fn 30 [] [])) [.t 24]),o 8 (.new 24 2 [.emp,.bool false]),⟨none,.st 2 (.t 8) (.t 25),none⟩]) (.seq (.reg [o 9 (.mv (.c (.int .i64 0)))]) c9_s5)))),[.cell 4 2 true,.tmp 5,.tmp 6]⟩
theorem hc9:Y3 Tryz.prog {pure:=[29,14,31],how:=[(44,8),(120,8),(156,8)]} Tryz.f9=some c9:=by kernel_rfl
theorem edited_end {d:HDoc} (V:DV d) (sm:DocSm d) {e:HEdit} (he:EditSm e) (h0:JK d e=0) {h h2:Q2} {b:AVal} {cells:List (List AVal)} {E:Env} {r4 r8:Nat}
 (S:Sub h h2) (F:Fresh h h2 31 6 cells b) (hc:F2 (F2 Vz) cells ((J6 d e).nodes.map Q7)) (h4:h r4=none) (g4:h2 r4=some ⟨.t 24,2,[[.emp,.bool false]]⟩) (g8:h2 r8=some ⟨.t 24,2,[[b,.bool d.quirks]]⟩) (n4:Q9 b≠some r4)
 (e4:E 4=.vp r4 0) (e8:E 8=.vp r8 0) (e9:E 9=Q3 (editN d e)) :
 vc (Pg G) c9_s6 (KU [.cell 4 2 true,.tmp 5,.tmp 6] (EdK d e h)) E h2:=by
 have sE:=edit_sm V sm he h0
 have hD:=docErr_ok (G:=G) (J6 d e) sE
 have hq:(J6 d e).quirks=d.quirks:=by unfold J6; (repeat' split) <;> rfl
 obtain ⟨a1,a2⟩:=apply_by V h0
 have hB:=DCalls.bor hD (h:=h2) (args:=[.agg [b,.bool d.quirks]]) (.int _ _) (.cons (Vw.agg' (.cons (F.own.vwk F.live hc) (.cons (by rw [hq];exact .refl _) .nil))) .nil)
 unfold c9_s6
 skip
 simp -dsimp -implicitDefEqProofs (disch:=omega) only [VCA,Nat.reduceEqDiff,Nat.reduceAdd,Nat.reduceLT,↓reduceIte,exists_eq_left',e8,g8]
 refine DCalls.of hB ?_
 rintro _ h3 ⟨rfl,rfl⟩
 simp -dsimp -implicitDefEqProofs (disch:=omega) only [VCA,↓reduceIte]
 refine Br.ne (fun h1=>?_) (fun h1=>?_)
 ·have aE:=a1 h1
  have aD:V7 d e=JU:=by unfold V7;rw [aE];rfl
  have aN:UK d e=0:=by unfold UK;rw [aE];rfl
  simp -dsimp -implicitDefEqProofs (disch:=omega) only [VCA,Nat.reduceEqDiff,Nat.reduceAdd,Nat.reduceLT,↓reduceIte,K8,X3,Z8,exists_eq_left',e4,g4]
  refine ⟨_,Sub.refl _,S.upd h4,?_⟩
  unfold edR
  rw [aD,aN,aE]
  exact .tup' (.cons (vw_noDoc _) (.cons (.refl _) (.cons (.refl _) .nil)))
 ·have aE:=a2 h1
  have aD:V7 d e=J6 d e:=by unfold V7;rw [if_pos aE]
  have aN:UK d e=editN d e:=by unfold UK;rw [if_pos aE]
  simp -dsimp -implicitDefEqProofs (disch:=omega) only [VCA,Nat.reduceEqDiff,Nat.reduceAdd,Nat.reduceLT,↓reduceIte,Z8,exists_eq_left',e4,e8,e9,g4,g8]
  refine ⟨_,Sub.refl _,S.upd h4,?_⟩
  unfold edR
  rw [aD,aN,aE]
  have F2:=F.keep (h2:=upd h3 r4 (some ⟨.t 24,2,[[b,.bool d.quirks]]⟩)) fun r o hr ho=>by rw [Q4 _ _ (fun e=>n4 (by rw [hr,e]))];exact ho
  exact .tup' (.cons (Vw.agg' (.cons (F2.vwk hc) (.cons (by rw [hq];exact .refl _) .nil))) (.cons (.refl _) (.cons (.refl _) .nil)))
theorem edited_make {d:HDoc} (V:DV d) (sm:DocSm d) {e:HEdit} (he:EditSm e) (h0:JK d e=0) (c4:e.do'=4) {h h2:Q2} {b:AVal} {E:Env} {r4 r8:Nat}
 (S:Sub h h2) (F:Fresh h h2 31 6 (d.nodes.map Q7) b) (h4:h r4=none) (h8:h r8=none) (g4:h2 r4=some ⟨.t 24,2,[[.emp,.bool false]]⟩) (g8:h2 r8=some ⟨.t 24,2,[[b,.bool d.quirks]]⟩) (n4:Q9 b≠some r4) (n8:Q9 b≠some r8) (n48:r4≠r8)
 (e3:E 3=.pin (Z4 e)) (e4:E 4=.vp r4 0) (e8:E 8=.vp r8 0) :
 vc (Pg G) c9_s5 (KU [.cell 4 2 true,.tmp 5,.tmp 6] (EdK d e h)) E h2:=by
 have hl:=F.own.len
 have vl:=V.len
 have sa:=he.node.attrs
 unfold c9_s5
 skip
 have hl1:=hl.1
 have hl2:=hl.2
 rw [List.length_map] at hl1
 simp -dsimp -implicitDefEqProofs (disch:=omega) only [VCA,Nat.reduceAdd,Nat.reduceLeDiff,↓reduceIte,e3,Z4,c4]
 refine Br.eq (fun _=>?_) (fun h1=>absurd rfl h1)
 simp -dsimp -implicitDefEqProofs (disch:=omega) only [VCA,Nat.reduceEqDiff,Nat.reduceBEq,Nat.reduceAdd,Nat.reduceLT,Nat.reduceLeDiff,↓reduceIte,Y8,Z0,SOp.rd,SI.rd,SX.rd,Z7,K8,X3,forall_eq,exists_eq_left,exists_eq_left',J1,e3,e8,g8,Z4,c4,hl1,hl2]
 refine ⟨by omega,by omega,?_⟩
 refine F.own.app F.live (by rw [List.length_map,List.length_singleton];omega) (by rw [List.length_map,List.length_singleton];omega) fun r' h3 q1 q2 q3=>?_
 have k8:=q3 _ _ g8 n8
 have k4:=q3 _ _ g4 n4
 simp -dsimp -implicitDefEqProofs (disch:=omega) only [VCA,Nat.reduceEqDiff,Nat.reduceBEq,Nat.reduceAdd,Nat.reduceLT,Nat.reduceLeDiff,↓reduceIte,Y8,Z0,SOp.rd,SI.rd,SX.rd,Z8,exists_eq_left',J1,e8,k8]
 have hr':h r'=none:=by
  rcases q2 with e | e
  ·exact F.new _ e
  ·exact S.none e
 have m4:r'≠r4:=fun e=>by
  rcases q2 with e' | e'
  ·exact n4 (by rw [e',e])
  ·rw [e,g4] at e';cases e'
 have m8:r'≠r8:=fun e=>by
  rcases q2 with e' | e'
  ·exact n8 (by rw [e',e])
  ·rw [e,g8] at e';cases e'
 have eD:J6 d e=UX d (madeM e.node):=by unfold J6;rw [if_neg (by omega),if_neg (by omega),if_neg (by omega),if_pos c4]
 have eN:editN d e=d.nodes.length:=by unfold editN;rw [if_pos c4]
 refine edited_end V sm he h0 (cells:=d.nodes.map Q7++[[.int .i64 e.node.kind,.str e.node.name,.slc (e.node.attrs.map Y0),.str e.node.text,.int .i64 (-1),.emp]]) (b:=.osl r' 6 0 (d.nodes.length+1)) (r4:=r4) (r8:=r8) (Sub.upd (fun t o ht=>?_) h8) ⟨.inr ⟨r',hr',(Q4 _ _ m8).trans q1,?_⟩⟩ ?_ h4 (by rw [Q4 _ _ n48];exact k4) (Q5 _ _ _) (fun e=>m4 (by cases e;rfl)) e4 e8 ?_
 ·refine q3 t o (S _ _ ht) (fun e=>?_)
  rw [F.new t e] at ht;cases ht
 ·rw [List.length_append,List.length_map];rfl
 ·rw [eD]
  show F2 (F2 Vz) _ ((d.nodes++[madeM e.node]).map Q7)
  rw [List.map_append]
  exact F2.app (wks_refl _) (.cons (.cons (.refl _) (.cons (.refl _) (.cons (.refl _) (.cons (.refl _) (.cons (.refl _) (.cons .emp .nil)))))) .nil)
 ·rw [eN];rfl
theorem wks_eq {l m:List (List AVal)} (h:l=m):F2 (F2 Vz) l m:=h ▸ wks_refl l
theorem errR_at {d:HDoc} {e:HEdit} (h0:JK d e=0) (h4:e.do'≠4):1<=e.do'/\e.do'<=6/\inD d e.at'/\(e.do'=5->inD d e.into):=by
 have h16:1<=e.do'/\e.do'<=6:=by
  apply Classical.byContradiction;intro h
  unfold JK at h0;rw [if_pos h] at h0;omega
 refine ⟨h16.1,h16.2,?_,fun h5=>?_⟩
 ·apply Classical.byContradiction;intro h
  rw [errR_in h16.1 h16.2 h4 (.inl h)] at h0;omega
 ·apply Classical.byContradiction;intro h
  rw [errR_in h16.1 h16.2 h4 (.inr ⟨h5,h⟩)] at h0;omega
def ZX (e:HEdit) (a:HAttr):List HAttr:=if a.name≠e.name\/e.do'≠2 then [if a.name=e.name/\e.do'=1 then ⟨a.name,e.value⟩ else a] else []
def setA (e:HEdit) (l:List HAttr):Bool:=decide (e.do'=1)&&l.any fun a=>a.name==e.name
theorem stepA_len (e:HEdit) (l:List HAttr):(l.flatMap (ZX e)).length<=l.length:=by
 induction l with
 | nil=>simp
 | cons a l ih=>
   rw [List.flatMap_cons,List.length_append,List.length_cons]
   have:(ZX e a).length<=1:=by unfold ZX;split <;> simp
   omega
theorem errR_5z {d:HDoc} {e:HEdit} (h:e.do'=5) (ha:inD d e.at') (ht:inD d e.into) (h0:JK d e=0):e.into∉X7 d e.at'/\¬ (e.before ≠ -1/\U8 (· == e.before) (nd d e.at').kids<0):=by
 rw [errR_5 h ha ht] at h0
 split at h0
 ·omega
 split at h0
 ·omega
 split at h0
 ·omega
 rename_i h3
 split at h0
 ·omega
 rename_i h4
 exact ⟨by simpa using h4,h3⟩
theorem edited_else {d:HDoc} (V:DV d) (sm:DocSm d) {e:HEdit} (he:EditSm e) (h0:JK d e=0) (c4:e.do'≠4) {h h2:Q2} {b:AVal} {E:Env} {r4 r8:Nat}
 (S:Sub h h2) (F:Fresh h h2 31 6 (d.nodes.map Q7) b) (h4:h r4=none) (h8:h r8=none) (g4:h2 r4=some ⟨.t 24,2,[[.emp,.bool false]]⟩) (g8:h2 r8=some ⟨.t 24,2,[[b,.bool d.quirks]]⟩) (n4:Q9 b≠some r4) (n8:Q9 b≠some r8) (n48:r4≠r8)
 (e3:E 3=.pin (Z4 e)) (e4:E 4=.vp r4 0) (e8:E 8=.vp r8 0) (e9:E 9=Q3 0) :
 vc (Pg G) c9_s5 (KU [.cell 4 2 true,.tmp 5,.tmp 6] (EdK d e h)) E h2:=by
 have vl:=V.len
 obtain ⟨d1,d6,ha,hto⟩:=errR_at h0 c4
 have a0:=ha.1
 have a1:=ha.2
 have ea:nth d.nodes e.at'.toNat=nd d e.at':=rfl
 obtain ⟨rN,hN0,gN,rfl⟩:=F.acc.pos (by rw [List.length_map];exact V.pos)
 rw [List.length_map] at *
 have nN4:rN≠r4:=fun e=>n4 (by rw [e];rfl)
 have nN8:rN≠r8:=fun e=>n8 (by rw [e];rfl)
 unfold c9_s5
 skip
 simp -dsimp -implicitDefEqProofs (disch:=omega) only [VCA,Nat.reduceAdd,Nat.reduceLeDiff,↓reduceIte,e3,Z4]
 refine Br.eq (fun h1=>absurd h1 c4) (fun _=>?_)
 simp -dsimp -implicitDefEqProofs (disch:=omega) only [VCA,Nat.reduceEqDiff,Nat.reduceAdd,Nat.reduceLT,Nat.reduceLeDiff,↓reduceIte,Z8,exists_eq_left',e3,e8,g8,gN,Z4,Q7,ea]
 refine ⟨by omega,by omega,fun r10 hr10=>?_⟩
 have n10:∀ t o,h2 t=some o->¬ t=r10:=fun t o ht e=>by rw [e,hr10] at ht;cases ht
 have n410:=n10 _ _ g4
 have n810:=n10 _ _ g8
 have nN10:=n10 _ _ gN
 have al:=((ZZ _).1 ((W5 _).1 (V.node _ ha)).2.2.2.1).1
 have anod:=((ZZ _).1 ((W5 _).1 (V.node _ ha)).2.2.2.1).2.2
 have Sb:Sub h2 (upd h2 r10 (some ⟨.t 31,6,[Q7 (nd d e.at')]⟩)):=(Sub.refl h2).upd hr10
 have gb:=Q5 h2 r10 (some ⟨.t 31,6,[Q7 (nd d e.at')]⟩)
 show LoopVC _ _ _ (upd h2 r10 (some ⟨.t 31,6,[Q7 (nd d e.at')]⟩))
 generalize upd h2 r10 (some ⟨.t 31,6,[Q7 (nd d e.at')]⟩)=hb at *
 refine LoopVC.intro (fun m E h'=>∃ k:Nat,k<=(nd d e.at').attrs.length/\m=(nd d e.at').attrs.length-k/\E 3=.pin (Z4 e)/\E 4=.vp r4 0/\E 8=.vp r8 0/\E 9=Q3 0/\E 10=.vp r10 0/\E 12=.bool (setA e ((nd d e.at').attrs.take k))/\E 13=Q3 k /\
  Acc hb 72 2 ((((nd d e.at').attrs.take k).flatMap (ZX e)).map Y0) (E 11) h'/\Sub hb h') (nd d e.at').attrs.length
  ⟨0,by omega,by omega,e3,e4,e8,e9,rfl,by (show AVal.bool false=_);simp [setA],rfl,.inl ⟨rfl,rfl⟩,Sub.refl _⟩ ?_
 clear e3 e4 e8 e9
 rintro m E h' ⟨k,hk,rfl,e3,e4,e8,e9,e10,e12,e13,A,S'⟩
 have g10:=S' _ _ gb
 unfold Q7 at g10
 simp -dsimp -implicitDefEqProofs (disch:=omega) only [VCA,Nat.reduceEqDiff,Nat.reduceAdd,Nat.reduceLT,Nat.reduceLeDiff,↓reduceIte,exists_eq_left',e10,e13,g10,Z4]
 refine Br.dec (fun hlt=>?_) (fun hge=>?_)
 ·have hk':k<(nd d e.at').attrs.length:=by omega
  have tk:((nd d e.at').attrs.take (k+1)).flatMap (ZX e)=((nd d e.at').attrs.take k).flatMap (ZX e)++ZX e (nth (nd d e.at').attrs k):=by rw [X1 hk',List.flatMap_append];simp
  have ts:setA e ((nd d e.at').attrs.take (k+1))=(setA e ((nd d e.at').attrs.take k)||(decide (e.do'=1)&&((nth (nd d e.at').attrs k).name==e.name))):=by unfold setA;rw [X1 hk',List.any_append];cases decide (e.do'=1) <;> simp
  have tl:=stepA_len e ((nd d e.at').attrs.take k)
  rw [List.length_take] at tl
  have tm:((((nd d e.at').attrs.take k).flatMap (ZX e)).map Y0).length<=12:=by rw [List.length_map];omega
  obtain ⟨x,hx⟩:∃ x,nth (nd d e.at').attrs k=x:=⟨_,rfl⟩
  rw [hx] at tk ts
  have A14:∀ r y,h' r=none->Acc hb 72 2 ((((nd d e.at').attrs.take k).flatMap (ZX e)).map Y0) (E 11) (upd h' r (some y)):=fun r y hr=>by
   rcases A with q | ⟨r',q0,q1,q2⟩
   ·exact .inl q
   ·exact .inr ⟨r',q0,by rw [Q4 _ _ (fun e=>by rw [e,hr] at q1;cases q1)];exact q1,q2⟩
  obtain ⟨sx,tk0⟩:∃ sx,ZX e x=sx:=⟨_,rfl⟩
  rw [tk0] at tk
  have nx:(x.name==e.name)=true↔x.name=e.name:=by simp
  cases bn:(x.name==e.name)
  ·by_cases c1:e.do'=1
   ·have b1:(e.do'==1)=true:=by simp;omega
    have b2:(e.do'==2)=false:=by simp;omega
    have b2':(e.do' != 2)=true:=by simp;omega
    have bn':(x.name != e.name)=true:=by simp [bne,bn]
    simp -dsimp -implicitDefEqProofs (disch:=omega) only [VCA,Nat.reduceEqDiff,Nat.reduceAdd,Nat.reduceLT,Nat.reduceLeDiff,↓reduceIte,Z7,Z8,forall_eq,exists_eq_left,exists_eq_left',e3,e10,e13,g10,Z4,Y0,hx,bn,bn']
    refine ⟨by omega,fun r14 hr14=>?_⟩
    refine (A14 _ _ hr14).app (S'.upd (S'.none hr14)) (by rw [List.length_singleton];omega) (by rw [List.length_singleton];omega) (fun a' h3 A' S3=>?_)
    rw [show ZX e x=[x] from by unfold ZX;rw [if_pos (.inl (fun h=>by rw [nx.2 h] at bn;cases bn)),if_neg (fun h=>by rw [nx.2 h.1] at bn;cases bn)]] at tk0
    simp -dsimp -implicitDefEqProofs (disch:=omega) only [VCA,Nat.reduceEqDiff,↓reduceIte,e3,e4,e8,e9,e10,e12,e13,Z4]
    refine ⟨_,by omega,k+1,by omega,rfl,by rw [ts,bn];simp,by omega,?_,S3⟩
    rw [tk,<-tk0,List.map_append]
    exact A'
   ·by_cases c2:e.do'=2
    ·have b1:(e.do'==1)=false:=by simp;omega
     have b2:(e.do'==2)=true:=by simp;omega
     have b2':(e.do' != 2)=false:=by simp;omega
     have bn':(x.name != e.name)=true:=by simp [bne,bn]
     simp -dsimp -implicitDefEqProofs (disch:=omega) only [VCA,Nat.reduceEqDiff,Nat.reduceAdd,Nat.reduceLT,Nat.reduceLeDiff,↓reduceIte,Z7,Z8,forall_eq,exists_eq_left,exists_eq_left',e3,e10,e13,g10,Z4,Y0,hx,bn,bn']
     refine ⟨by omega,fun r14 hr14=>?_⟩
     refine (A14 _ _ hr14).app (S'.upd (S'.none hr14)) (by rw [List.length_singleton];omega) (by rw [List.length_singleton];omega) (fun a' h3 A' S3=>?_)
     rw [show ZX e x=[x] from by unfold ZX;rw [if_pos (.inl (fun h=>by rw [nx.2 h] at bn;cases bn)),if_neg (fun h=>by rw [nx.2 h.1] at bn;cases bn)]] at tk0
     simp -dsimp -implicitDefEqProofs (disch:=omega) only [VCA,Nat.reduceEqDiff,↓reduceIte,e3,e4,e8,e9,e10,e12,e13,Z4]
     refine ⟨_,by omega,k+1,by omega,rfl,by rw [ts,bn];simp,by omega,?_,S3⟩
     rw [tk,<-tk0,List.map_append]
     exact A'
    ·have b1:(e.do'==1)=false:=by simp;omega
     have b2:(e.do'==2)=false:=by simp;omega
     have b2':(e.do' != 2)=true:=by simp;omega
     have bn':(x.name != e.name)=true:=by simp [bne,bn]
     simp -dsimp -implicitDefEqProofs (disch:=omega) only [VCA,Nat.reduceEqDiff,Nat.reduceAdd,Nat.reduceLT,Nat.reduceLeDiff,↓reduceIte,Z7,Z8,forall_eq,exists_eq_left,exists_eq_left',e3,e10,e13,g10,Z4,Y0,hx,bn,bn']
     refine ⟨by omega,fun r14 hr14=>?_⟩
     refine (A14 _ _ hr14).app (S'.upd (S'.none hr14)) (by rw [List.length_singleton];omega) (by rw [List.length_singleton];omega) (fun a' h3 A' S3=>?_)
     rw [show ZX e x=[x] from by unfold ZX;rw [if_pos (.inr c2),if_neg (fun h=>c1 h.2)]] at tk0
     simp -dsimp -implicitDefEqProofs (disch:=omega) only [VCA,Nat.reduceEqDiff,↓reduceIte,e3,e4,e8,e9,e10,e12,e13,Z4]
     refine ⟨_,by omega,k+1,by omega,rfl,by rw [ts,bn];simp,by omega,?_,S3⟩
     rw [tk,<-tk0,List.map_append]
     exact A'
  ·by_cases c1:e.do'=1
   ·have b1:(e.do'==1)=true:=by simp;omega
    have b2:(e.do'==2)=false:=by simp;omega
    have b2':(e.do' != 2)=true:=by simp;omega
    have bn':(x.name != e.name)=false:=by simp [bne,bn]
    simp -dsimp -implicitDefEqProofs (disch:=omega) only [VCA,Nat.reduceEqDiff,Nat.reduceAdd,Nat.reduceLT,Nat.reduceLeDiff,↓reduceIte,Z7,Z8,forall_eq,exists_eq_left,exists_eq_left',e3,e10,e13,g10,Z4,Y0,hx,bn,bn',b1,b2']
    refine ⟨by omega,fun r14 hr14=>?_⟩
    refine (A14 _ _ hr14).app (S'.upd (S'.none hr14)) (by rw [List.length_singleton];omega) (by rw [List.length_singleton];omega) (fun a' h3 A' S3=>?_)
    rw [show ZX e x=[⟨x.name,e.value⟩] from by unfold ZX;rw [if_pos (.inr (by omega)),if_pos ⟨nx.1 bn,c1⟩]] at tk0
    simp -dsimp -implicitDefEqProofs (disch:=omega) only [VCA,Nat.reduceEqDiff,↓reduceIte,e3,e4,e8,e9,e10,e13,Z4]
    refine ⟨_,by omega,k+1,by omega,rfl,by rw [ts,bn];simp [c1],by omega,?_,S3⟩
    rw [tk,<-tk0,List.map_append]
    exact A'
   ·by_cases c2:e.do'=2
    ·have b1:(e.do'==1)=false:=by simp;omega
     have b2:(e.do'==2)=true:=by simp;omega
     have b2':(e.do' != 2)=false:=by simp;omega
     have bn':(x.name != e.name)=false:=by simp [bne,bn]
     rw [show ZX e x=[] from by unfold ZX;rw [if_neg (fun h=>h.elim (fun h=>h (nx.1 bn)) (fun h=>h c2))]] at tk0
     simp -dsimp -implicitDefEqProofs (disch:=omega) only [VCA,Nat.reduceEqDiff,Nat.reduceAdd,Nat.reduceLT,Nat.reduceLeDiff,↓reduceIte,Z8,exists_eq_left',e3,e4,e8,e9,e10,e12,e13,g10,Z4,Y0,hx,bn,bn',b1,b2']
     refine ⟨by omega,fun r14 hr14=>?_⟩
     refine ⟨_,by omega,k+1,by omega,rfl,by rw [ts];simp [c1],by omega,?_,S'.upd (S'.none hr14)⟩
     rw [tk,<-tk0,List.append_nil]
     exact A14 _ _ hr14
    ·have b1:(e.do'==1)=false:=by simp;omega
     have b2:(e.do'==2)=false:=by simp;omega
     have b2':(e.do' != 2)=true:=by simp;omega
     have bn':(x.name != e.name)=false:=by simp [bne,bn]
     simp -dsimp -implicitDefEqProofs (disch:=omega) only [VCA,Nat.reduceEqDiff,Nat.reduceAdd,Nat.reduceLT,Nat.reduceLeDiff,↓reduceIte,Z7,Z8,forall_eq,exists_eq_left,exists_eq_left',e3,e10,e13,g10,Z4,Y0,hx,bn,bn',b1,b2']
     refine ⟨by omega,fun r14 hr14=>?_⟩
     refine (A14 _ _ hr14).app (S'.upd (S'.none hr14)) (by rw [List.length_singleton];omega) (by rw [List.length_singleton];omega) (fun a' h3 A' S3=>?_)
     rw [show ZX e x=[x] from by unfold ZX;rw [if_pos (.inr c2),if_neg (fun h=>c1 h.2)]] at tk0
     simp -dsimp -implicitDefEqProofs (disch:=omega) only [VCA,Nat.reduceEqDiff,↓reduceIte,e3,e4,e8,e9,e10,e12,e13,Z4]
     refine ⟨_,by omega,k+1,by omega,rfl,by rw [ts];simp [c1],by omega,?_,S3⟩
     rw [tk,<-tk0,List.map_append]
     exact A'
 ·obtain rfl:k=(nd d e.at').attrs.length:=by omega
  rw [List.take_length] at A e12
  have eN0:editN d e=0:=by unfold editN;rw [if_neg c4]
  have qq:∀ x':HNode,Q7 x'=[Q3 x'.kind,.str x'.name,sl Y0 x'.attrs,.str x'.text,Q3 x'.parent,sl Z6 x'.kids]:=fun _=>rfl
  have gbN:=Sb _ _ gN
  have gb4:=Sb _ _ g4
  have gb8:=Sb _ _ g8
  have fin:∀ (h5:Q2) (E5:Env) (cells':List (List AVal)),h5 rN=some ⟨.t 31,6,cells'⟩->cells'.length=d.nodes.length->(∀ t o,hb t=some o->t≠rN->t≠r10->h5 t=some o)->F2 (F2 Vz) cells' ((J6 d e).nodes.map Q7)->E5 4=.vp r4 0->E5 8=.vp r8 0->E5 9=Q3 0 ->
   vc (Pg G) c9_s6 (KU [.cell 4 2 true,.tmp 5,.tmp 6] (EdK d e h)) E5 h5:=fun h5 E5 cells' q1 q2 q3 q4 q5 q6 q7=>by
   refine edited_end V sm he h0 (cells:=cells') (b:=.osl rN 6 0 d.nodes.length) (r4:=r4) (r8:=r8) (fun t o ht=>?_) ⟨.inr ⟨rN,hN0,q1,by rw [q2]⟩⟩ q4 h4 (q3 _ _ gb4 (fun e=>nN4 e.symm) n410) (q3 _ _ gb8 (fun e=>nN8 e.symm) n810) (fun e=>nN4 (by cases e;rfl)) q5 q6 (by rw [eN0];exact q7)
   exact q3 t o (Sb _ _ (S _ _ ht)) (fun e=>by rw [e,hN0] at ht;cases ht) (n10 _ _ (S _ _ ht))
  have hN':=S' _ _ gbN
  have h4':=S' _ _ gb4
  have h8':=S' _ _ gb8
  have lenN:(d.nodes.map Q7).length=d.nodes.length:=by rw [List.length_map]
  have b4:(e.do'==4)=false:=by simp [c4]
  have m810:¬ r10=r8:=fun h=>n810 (Eq.symm h)
  have m410:¬ r10=r4:=fun h=>n410 (Eq.symm h)
  have mN10:¬ r10=rN:=fun h=>nN10 (Eq.symm h)
  have nN8':¬ rN=r8:=nN8
  have nN4':¬ rN=r4:=nN4
  have mN8:¬ r8=rN:=fun h=>nN8 h.symm
  have mN4:¬ r4=rN:=fun h=>nN4 h.symm
  have gat:(d.nodes.map Q7).getD e.at'.toNat []=[Q3 (nd d e.at').kind,.str (nd d e.at').name,sl Y0 (nd d e.at').attrs,.str (nd d e.at').text,Q3 (nd d e.at').parent,sl Z6 (nd d e.at').kids]:=TV (by omega)
  by_cases c3:e.do'=3
  ·have b1:(e.do'==1)=false:=by simp;omega
   have b2:(e.do'==2)=false:=by simp;omega
   have b3:(e.do'==3)=true:=by simp;omega
   have b5:(e.do'==5)=false:=by simp;omega
   have b6:(e.do'==6)=false:=by simp;omega
   simp -dsimp -implicitDefEqProofs (disch:=omega) only [VCA,Nat.reduceEqDiff,Nat.reduceAdd,Nat.reduceLT,Nat.reduceLeDiff,↓reduceIte,Z8,exists_eq_left',e3,e8,e10,g10,hN',h8',Z4,b1,b2,b3,b5,b6,lenN,gat,n810,nN10]
   have eD:J6 d e=setN d e.at' { nd d e.at' with text:=e.value }:=by unfold J6;rw [if_neg (by omega),if_neg (by omega),if_pos c3]
   refine ⟨by omega,by omega,fin _ _ _ (Q5 _ _ _) (by rw [List.length_set];exact lenN) (fun t o ht h1 h2=>by rw [Q4 _ _ h1,Q4 _ _ h2];exact S' _ _ ht) ?_ e4 e8 e9⟩
   rw [eD]
   show F2 (F2 Vz) _ ((d.nodes.set _ _).map Q7)
   rw [List.map_set]
   exact wks_refl _
  by_cases c6:e.do'=6
  ·have b1:(e.do'==1)=false:=by simp;omega
   have b2:(e.do'==2)=false:=by simp;omega
   have b3:(e.do'==3)=false:=by simp;omega
   have b5:(e.do'==5)=false:=by simp;omega
   have b6:(e.do'==6)=true:=by simp;omega
   have hE:=h0
   rw [errR_6 c6 ha] at hE
   have hz:¬ e.at'=0:=fun h=>by rw [if_pos h] at hE;omega
   rw [if_neg hz] at hE
   have hp:0<=(nd d e.at').parent:=by
    apply Classical.byContradiction;intro h
    rw [if_pos (by omega)] at hE;omega
   have pin:=(V.par_in ha hp).1
   have p1:=pin.2
   have gp:(d.nodes.map Q7).getD (nd d e.at').parent.toNat []=[Q3 (nd d (nd d e.at').parent).kind,.str (nd d (nd d e.at').parent).name,sl Y0 (nd d (nd d e.at').parent).attrs,.str (nd d (nd d e.at').parent).text,Q3 (nd d (nd d e.at').parent).parent,sl Z6 (nd d (nd d e.at').parent).kids]:=TV (by omega)
   have hi:=idx_at (V.par_in ha hp).2
   have hk0:=(idx_mem (nd d (nd d e.at').parent).kids e.at').2 (V.par_in ha hp).2
   have hPl:=placeIn_ok (G:=G) (nd d (nd d e.at').parent).kids e.at' (sm.nd _).kids
   have eD:J6 d e=cutN d e.at' (U8 (· == e.at') (nd d (nd d e.at').parent).kids).toNat:=by unfold J6;rw [if_neg (by omega),if_neg (by omega),if_neg (by omega),if_neg (by omega),if_neg (by omega)]
   obtain ⟨i,hii⟩:∃ i:Nat,U8 (· == e.at') (nd d (nd d e.at').parent).kids=i:=⟨(U8 (· == e.at') (nd d (nd d e.at').parent).kids).toNat,by omega⟩
   rw [hii] at hPl eD hi
   rw [Int.toNat_natCast] at eD hi
   have hne:(nd d e.at').parent.toNat≠e.at'.toNat:=fun h=>by
    have:=V.up_par ha hp
    have e2:(nd d e.at').parent=e.at':=by omega
    rw [e2] at this;omega
   have gs:∀ row:List AVal,((d.nodes.map Q7).set (nd d e.at').parent.toNat row).getD e.at'.toNat []=[Q3 (nd d e.at').kind,.str (nd d e.at').name,sl Y0 (nd d e.at').attrs,.str (nd d e.at').text,Q3 (nd d e.at').parent,sl Z6 (nd d e.at').kids]:=fun row=>by
    rw [List.getD_eq_getElem?_getD,List.getElem?_set_ne hne,<-List.getD_eq_getElem?_getD];exact gat
   have hW:=without_ok (G:=G) (nd d (nd d e.at').parent).kids i hi.1 (sm.nd _).kids
   simp -dsimp -implicitDefEqProofs (disch:=omega) only [VCA,Nat.reduceEqDiff,Nat.reduceAdd,Nat.reduceLT,Nat.reduceLeDiff,↓reduceIte,Y8,Z0,exists_eq_left',J1,e3,e8,e10,g10,hN',h8',Z4,b1,b2,b3,b5,b6,lenN,gp]
   repeat' (first | ((with_reducible refine brC (fun _=>?_) fun _=>?_) <;> try (exfalso;omega)) | (with_reducible apply pcallE.of; · exact hPl) | (with_reducible apply pcallE.of; · exact hW) | (with_reducible refine And.intro ?_ ?_; · omega) | simp -dsimp -implicitDefEqProofs (disch:=omega) only [VCA,Nat.reduceEqDiff,Nat.reduceBEq,Nat.reduceAdd,Nat.reduceLT,Nat.reduceLeDiff,↓reduceIte,Y8,Z0,SOp.rd,SI.rd,SX.rd,Z8,implies_true,exists_eq_left',J1,e3,e8,e10,g10,hN',h8',Z4,lenN,gp,gs,List.length_set,n810,nN10,mN10,mN8])
   refine fin _ _ _ (Q5 _ _ _) (by rw [List.length_set,List.length_set];exact lenN) (fun t o ht h1 h2=>by rw [Q4 _ _ h1,Q4 _ _ h2,Q4 _ _ h1];exact S' _ _ ht) ?_ e4 e8 e9
   rw [eD]
   show F2 (F2 Vz) _ (((d.nodes.set _ _).set _ _).map Q7)
   rw [List.map_set,List.map_set]
   exact wks_refl _
  by_cases c5:e.do'=5
  ·have b1:(e.do'==1)=false:=by simp;omega
   have b2:(e.do'==2)=false:=by simp;omega
   have b3:(e.do'==3)=false:=by simp;omega
   have b5:(e.do'==5)=true:=by simp;omega
   have b6:(e.do'==6)=false:=by simp;omega
   have ht:=hto c5
   have t0:=ht.1
   have t1:=ht.2
   obtain ⟨hc,hbe⟩:=errR_5z c5 ha ht h0
   have gt:(d.nodes.map Q7).getD e.into.toNat []=[Q3 (nd d e.into).kind,.str (nd d e.into).name,sl Y0 (nd d e.into).attrs,.str (nd d e.into).text,Q3 (nd d e.into).parent,sl Z6 (nd d e.into).kids]:=TV (by omega)
   have hne:e.into.toNat≠e.at'.toNat:=fun h=>hc (by rw [show e.into=e.at' by omega];exact U1 d _)
   have gs:∀ row:List AVal,((d.nodes.map Q7).set e.into.toNat row).getD e.at'.toNat []=[Q3 (nd d e.at').kind,.str (nd d e.at').name,sl Y0 (nd d e.at').attrs,.str (nd d e.at').text,Q3 (nd d e.at').parent,sl Z6 (nd d e.at').kids]:=fun row=>by
    rw [List.getD_eq_getElem?_getD,List.getElem?_set_ne hne,<-List.getD_eq_getElem?_getD];exact gat
   have eD:J6 d e=UV d e.at' e.into (YY d e):=by unfold J6;rw [if_neg (by omega),if_neg (by omega),if_neg (by omega),if_neg (by omega),if_pos c5]
   have hPl:=placeIn_ok (G:=G) (nd d e.at').kids e.before (sm.nd _).kids
   have kl:=YK d.nodes.length (nd d e.at').kids (V.nodup _ ha) (fun k hk=>(V.kid _ ha k hk).1)
   cases bb:(e.before != -1)
   ·simp -dsimp -implicitDefEqProofs (disch:=omega) only [VCA,Nat.reduceEqDiff,Nat.reduceBEq,Nat.reduceAdd,Nat.reduceLT,Nat.reduceLeDiff,↓reduceIte,Y8,Z0,SOp.rd,SI.rd,SX.rd,Z7,Z8,forall_const,forall_eq,exists_eq_left,exists_eq_left',J1,e3,e8,e10,g10,Z4,b1,b2,b3,b5,bb,n810]
    refine ⟨by omega,by omega,by omega,by omega,fun r hr=>?_⟩
    have nr:¬ r10=r:=fun e=>by rw [<-e,g10] at hr;cases hr
    have dd:=fun x=>del_upd (h:=h') (r:=r) (o:=x) hr
    simp -dsimp -implicitDefEqProofs (disch:=omega) only [VCA,Nat.reduceLeDiff,↓reduceIte,g10,nr,dd,List.drop_length,List.length_append]
    refine ⟨by omega,by omega,fun r' hr'=>?_⟩
    have nr':¬ r10=r':=fun e=>by rw [<-e,g10] at hr';cases hr'
    have dd':=fun x=>del_upd (h:=h') (r:=r') (o:=x) hr'
    simp -dsimp -implicitDefEqProofs (disch:=omega) only [VCA,Nat.reduceEqDiff,Nat.reduceAdd,Nat.reduceLT,Nat.reduceLeDiff,↓reduceIte,Z8,exists_eq_left',e3,e8,e10,g10,hN',h8',Z4,b6,lenN,gt,gs,List.length_set,n810,nN10,mN10,mN8,nr',dd,dd',List.drop_length]
    have eI:YY d e=(nd d e.at').kids.length:=by unfold YY;rw [if_pos (by simpa using bb)]
    refine ⟨by omega,by omega,by omega,by omega,by omega,by omega,fin _ _ _ (Q5 _ _ _) (by rw [List.length_set,List.length_set];exact lenN) (fun t o ht h1 h2=>by rw [Q4 _ _ h1,Q4 _ _ h2];exact S' _ _ ht) (wks_eq ?_) e4 e8 e9⟩
    rw [eD,eI]
    show _=((d.nodes.set _ _).set _ _).map Q7
    rw [List.map_set,List.map_set,List.set_comm _ _ hne.symm]
    refine congrArg (List.set _ _) ?_
    rw [qq]
    simp only [List.take_length,List.drop_length,sl,List.map_append,List.map_cons,List.map_nil]
    rw [List.take_of_length_le (i:=(nd d e.at').kids.length+1) (by simp)]
    rfl
   ·have hi:=idxM_leK (nd d e.at').kids e.before
    have bb':e.before ≠ -1:=by simpa using bb
    obtain ⟨i,hii⟩:∃ i:Nat,U8 (· == e.before) (nd d e.at').kids=i:=⟨(U8 (· == e.before) (nd d e.at').kids).toNat,by omega⟩
    rw [hii] at hPl hi
    have lt:((nd d e.at').kids.take i).length=i:=by rw [List.length_take];omega
    have ld:((nd d e.at').kids.drop i).length=(nd d e.at').kids.length-i:=List.length_drop
    simp -dsimp -implicitDefEqProofs (disch:=omega) only [VCA,Nat.reduceEqDiff,Nat.reduceAdd,Nat.reduceLT,Nat.reduceLeDiff,↓reduceIte,exists_eq_left',e3,e10,g10,Z4,b1,b2,b3,b5,bb]
    refine pcallE.of (hPl) ?_;simp -dsimp -implicitDefEqProofs (disch:=omega) only [VCA,Nat.reduceEqDiff,Nat.reduceBEq,Nat.reduceAdd,Nat.reduceLT,Nat.reduceLeDiff,↓reduceIte,Y8,Z0,SOp.rd,SI.rd,SX.rd,Z7,Z8,forall_const,forall_eq,exists_eq_left,exists_eq_left',J1,e3,e8,e10,g10,Z4,n810]
    simp -dsimp -implicitDefEqProofs (disch:=omega) only [lt,ld]
    refine ⟨by omega,by omega,by omega,by omega,fun r hr=>?_⟩
    have nr:¬ r10=r:=fun e=>by rw [<-e,g10] at hr;cases hr
    have dd:=fun x=>del_upd (h:=h') (r:=r) (o:=x) hr
    simp -dsimp -implicitDefEqProofs (disch:=omega) only [VCA,↓reduceIte,g10,nr,dd,lt,List.length_append]
    refine ⟨by omega,by omega,fun r' hr'=>?_⟩
    have nr':¬ r10=r':=fun e=>by rw [<-e,g10] at hr';cases hr'
    have dd':=fun x=>del_upd (h:=h') (r:=r') (o:=x) hr'
    simp -dsimp -implicitDefEqProofs (disch:=omega) only [VCA,Nat.reduceEqDiff,Nat.reduceAdd,Nat.reduceLT,Nat.reduceLeDiff,↓reduceIte,Z8,exists_eq_left',e3,e8,e10,g10,hN',h8',Z4,b6,lenN,gt,gs,List.length_set,n810,nN10,mN10,mN8,nr',dd,dd',lt]
    have eI:YY d e=i:=by unfold YY;rw [if_neg bb',hii];rfl
    refine ⟨by omega,by omega,by omega,by omega,by omega,by omega,fin _ _ _ (Q5 _ _ _) (by rw [List.length_set,List.length_set];exact lenN) (fun t o ht h1 h2=>by rw [Q4 _ _ h1,Q4 _ _ h2];exact S' _ _ ht) (wks_eq ?_) e4 e8 e9⟩
    rw [eD,eI]
    show _=((d.nodes.set _ _).set _ _).map Q7
    rw [List.map_set,List.map_set,List.set_comm _ _ hne.symm]
    refine congrArg (List.set _ _) ?_
    rw [qq]
    simp only [sl,List.map_append,List.map_cons]
    rw [List.take_of_length_le (i:=i+1) (by simp;omega),List.append_assoc]
    rfl
  have tS:=stepA_len e (nd d e.at').attrs
  by_cases c2:e.do'=2
  ·have b1:(e.do'==1)=false:=by simp;omega
   have b2:(e.do'==2)=true:=by simp;omega
   have b3:(e.do'==3)=false:=by simp;omega
   have b5:(e.do'==5)=false:=by simp;omega
   have b6:(e.do'==6)=false:=by simp;omega
   have hat:0<=J9 (nd d e.at').attrs e.name:=by
    have hE:=h0
    rw [errR_2 c2 ha] at hE
    split at hE
    ·omega
    split at hE
    ·omega
    ·rename_i q;exact Classical.not_not.1 q
   have eL:(nd d e.at').attrs.flatMap (ZX e)=W9 (nd d e.at').attrs e.name:=by
    rw [dropAttr_filter anod hat]
    generalize (nd d e.at').attrs=l
    induction l with
    | nil=>rfl
    | cons a l ih=>
      rw [List.flatMap_cons,List.filter_cons,ih]
      unfold ZX
      by_cases q:a.name=e.name
      ·rw [if_neg (by simp [q,c2])];simp [q]
      ·rw [if_pos (.inl q),if_neg (fun h=>q h.1)];simp [q]
   have eD:J6 d e=setN d e.at' { nd d e.at' with attrs:=W9 (nd d e.at').attrs e.name }:=by unfold J6;rw [if_neg (by omega),if_pos c2]
   rw [eL] at A tS
   rcases A with ⟨q0,q1⟩ | ⟨rA,q0,q1,q2⟩
   ·simp -dsimp -implicitDefEqProofs (disch:=omega) only [VCA,Nat.reduceEqDiff,Nat.reduceAdd,Nat.reduceLT,Nat.reduceLeDiff,↓reduceIte,Z8,exists_eq_left',e3,e8,e10,g10,hN',h8',Z4,b1,b2,b3,b5,b6,lenN,gat,n810,nN10,q1]
    refine ⟨by omega,by omega,fin _ _ _ (Q5 _ _ _) (by rw [List.length_set];exact lenN) (fun t o ht h1 h2=>by rw [Q4 _ _ h1,Q4 _ _ h2];exact S' _ _ ht) (wks_eq ?_) e4 e8 e9⟩
    rw [eD]
    show _=(d.nodes.set _ _).map Q7
    rw [List.map_set]
    refine congrArg (List.set _ _) ?_
    rw [qq]
    have:W9 (nd d e.at').attrs e.name=[]:=by simpa using q0
    simp only [this]
    rfl
   ·have SD:=S'.del q0
    have dA10:=SD _ _ gb
    have dA8:=SD _ _ gb8
    have dAN:=SD _ _ gbN
    unfold Q7 at dA10
    simp -dsimp -implicitDefEqProofs (disch:=omega) only [VCA,Nat.reduceEqDiff,Nat.reduceAdd,Nat.reduceLT,Nat.reduceLeDiff,↓reduceIte,Z8,exists_eq_left',e3,e8,e10,Z4,b1,b2,b3,b5,b6,lenN,gat,n810,nN10,q1,q2,dA10,dA8,dAN]
    refine ⟨by omega,by omega,fin _ _ _ (Q5 _ _ _) (by rw [List.length_set];exact lenN) (fun t o ht h1 h2=>by rw [Q4 _ _ h1,Q4 _ _ h2];exact SD _ _ ht) (wks_eq ?_) e4 e8 e9⟩
    rw [eD]
    show _=(d.nodes.set _ _).map Q7
    rw [List.map_set]
    refine congrArg (List.set _ _) ?_
    rw [qq]
    rw [List.take_of_length_le (by rw [List.length_map];exact Nat.le_refl _)]
    rfl
  have c1:e.do'=1:=by omega
  have b1:(e.do'==1)=true:=by simp;omega
  have b2:(e.do'==2)=false:=by simp;omega
  have b3:(e.do'==3)=false:=by simp;omega
  have b5:(e.do'==5)=false:=by simp;omega
  have b6:(e.do'==6)=false:=by simp;omega
  have hsA:setA e (nd d e.at').attrs=decide (0<=J9 (nd d e.at').attrs e.name):=by
   unfold setA J9
   rw [idxM_any,c1];simp
  have eL:=setAttr_map (l:=(nd d e.at').attrs) (name:=e.name) (value:=e.value) anod
  have eM:((nd d e.at').attrs.map fun a=>if a.name=e.name then (⟨a.name,e.value⟩:HAttr) else a)=(nd d e.at').attrs.flatMap (ZX e):=by
   generalize (nd d e.at').attrs=l
   induction l with
   | nil=>rfl
   | cons a l ih=>
     rw [List.flatMap_cons,List.map_cons,ih]
     unfold ZX
     by_cases q:a.name=e.name
     ·rw [if_pos q,if_pos (.inr (by omega)),if_pos ⟨q,c1⟩];rfl
     ·rw [if_neg q,if_pos (.inl q),if_neg (fun h=>q h.1)];rfl
  rw [eM] at eL
  have eD:J6 d e=setN d e.at' { nd d e.at' with attrs:=V6 (nd d e.at').attrs e.name e.value }:=by unfold J6;rw [if_pos c1]
  by_cases hat:0<=J9 (nd d e.at').attrs e.name
  ·rw [if_pos hat,List.append_nil] at eL
   rw [hsA,decide_eq_true hat] at e12
   rw [<-eL] at A tS
   clear eL
   rcases A with ⟨q0,q1⟩ | ⟨rA,q0,q1,q2⟩
   ·simp -dsimp -implicitDefEqProofs (disch:=omega) only [VCA,Nat.reduceEqDiff,Nat.reduceAdd,Nat.reduceLT,Nat.reduceLeDiff,↓reduceIte,Z8,exists_eq_left',e3,e8,e10,e12,g10,hN',h8',Z4,b1,b3,b5,b6,lenN,gat,n810,nN10,q1]
    refine ⟨by omega,by omega,fin _ _ _ (Q5 _ _ _) (by rw [List.length_set];exact lenN) (fun t o ht h1 h2=>by rw [Q4 _ _ h1,Q4 _ _ h2];exact S' _ _ ht) (wks_eq ?_) e4 e8 e9⟩
    rw [eD]
    show _=(d.nodes.set _ _).map Q7
    rw [List.map_set]
    refine congrArg (List.set _ _) ?_
    rw [qq]
    have:V6 (nd d e.at').attrs e.name e.value=[]:=by simpa using q0
    simp only [this]
    rfl
   ·have SD:=S'.del q0
    have dA10:=SD _ _ gb
    have dA8:=SD _ _ gb8
    have dAN:=SD _ _ gbN
    unfold Q7 at dA10
    simp -dsimp -implicitDefEqProofs (disch:=omega) only [VCA,Nat.reduceEqDiff,Nat.reduceAdd,Nat.reduceLT,Nat.reduceLeDiff,↓reduceIte,Z8,exists_eq_left',e3,e8,e10,e12,Z4,b1,b3,b5,b6,lenN,gat,n810,nN10,q1,q2,dA10,dA8,dAN]
    refine ⟨by omega,by omega,fin _ _ _ (Q5 _ _ _) (by rw [List.length_set];exact lenN) (fun t o ht h1 h2=>by rw [Q4 _ _ h1,Q4 _ _ h2];exact SD _ _ ht) (wks_eq ?_) e4 e8 e9⟩
    rw [eD]
    show _=(d.nodes.set _ _).map Q7
    rw [List.map_set]
    refine congrArg (List.set _ _) ?_
    rw [qq]
    rw [List.take_of_length_le (by rw [List.length_map];exact Nat.le_refl _)]
    rfl
  ·rw [if_neg hat] at eL
   rw [hsA,decide_eq_false hat] at e12
   simp -dsimp -implicitDefEqProofs (disch:=omega) only [VCA,Nat.reduceEqDiff,Nat.reduceAdd,Nat.reduceLeDiff,↓reduceIte,Z7,K8,X3,forall_eq,exists_eq_left,e3,e12,Z4,b1]
   have tL:(((nd d e.at').attrs.flatMap (ZX e)).map Y0).length<=12:=by rw [List.length_map];omega
   refine A.app S' (by rw [List.length_singleton];omega) (by rw [List.length_singleton];omega) (fun a' h3 A' S3=>?_)
   have eT:((nd d e.at').attrs.flatMap (ZX e)).map Y0++[[.str e.name,.str e.value]]=(V6 (nd d e.at').attrs e.name e.value).map Y0:=by rw [eL,List.map_append];rfl
   rw [eT] at A'
   clear eL eT A
   have hN3:=S3 _ _ gbN
   have h43:=S3 _ _ gb4
   have h83:=S3 _ _ gb8
   have k10:=S3 _ _ gb
   unfold Q7 at k10
   rcases A' with ⟨q0,q1⟩ | ⟨rA,q0,q1,q2⟩
   ·simp -dsimp -implicitDefEqProofs (disch:=omega) only [VCA,Nat.reduceEqDiff,Nat.reduceAdd,Nat.reduceLT,Nat.reduceLeDiff,↓reduceIte,Z8,exists_eq_left',e3,e8,e10,k10,hN3,h83,Z4,b1,b3,b5,b6,lenN,gat,n810,nN10,q1]
    refine ⟨by omega,by omega,fin _ _ _ (Q5 _ _ _) (by rw [List.length_set];exact lenN) (fun t o ht h1 h2=>by rw [Q4 _ _ h1,Q4 _ _ h2];exact S3 _ _ ht) (wks_eq ?_) e4 e8 e9⟩
    rw [eD]
    show _=(d.nodes.set _ _).map Q7
    rw [List.map_set]
    refine congrArg (List.set _ _) ?_
    rw [qq]
    have:V6 (nd d e.at').attrs e.name e.value=[]:=by simpa using q0
    simp only [this]
    rfl
   ·have SD:=S3.del q0
    have dA10:=SD _ _ gb
    have dA8:=SD _ _ gb8
    have dAN:=SD _ _ gbN
    unfold Q7 at dA10
    simp -dsimp -implicitDefEqProofs (disch:=omega) only [VCA,Nat.reduceEqDiff,Nat.reduceAdd,Nat.reduceLT,Nat.reduceLeDiff,↓reduceIte,Z8,exists_eq_left',e3,e8,e10,Z4,b1,b3,b5,b6,lenN,gat,n810,nN10,q1,q2,dA10,dA8,dAN]
    refine ⟨by omega,by omega,fin _ _ _ (Q5 _ _ _) (by rw [List.length_set];exact lenN) (fun t o ht h1 h2=>by rw [Q4 _ _ h1,Q4 _ _ h2];exact SD _ _ ht) (wks_eq ?_) e4 e8 e9⟩
    rw [eD]
    show _=(d.nodes.set _ _).map Q7
    rw [List.map_set]
    refine congrArg (List.set _ _) ?_
    rw [qq]
    rw [List.take_of_length_le (by rw [List.length_map];exact Nat.le_refl _)]
    rfl
def tcM (d:HDoc) (e:HEdit):List Int:=if e.do'=1\/e.do'=2 then [e.at'] else if e.do'=5 then Z5 d e.into else if e.do'=6 then Z5 d e.at' else []
theorem bel_same {d d':HDoc} (V:DV d) (V':DV d') (hi:∀ m,inD d m->inD d' m) (hk:∀ m,inD d m->(nd d' m).kids=(nd d m).kids):∀ n,inD d n->Z5 d' n=Z5 d n:=V.down fun n hn ih=>by
 rw [W7 V' (hi n hn),W7 V hn,hk n hn,XY ih]
theorem flat_filter {p:Int->Bool} {f:Int->List Int}:∀ l:List Int,(∀ k∈l,p k=false->(f k).filter p=[])->(l.flatMap f).filter p=(l.filter p).flatMap fun k=>(f k).filter p
 | [],_=>rfl
 | k :: r,h=>by
   rw [List.flatMap_cons,List.filter_append,flat_filter r fun k hk=>h k (List.mem_cons_of_mem _ hk),List.filter_cons]
   cases hp:p k
   ·rw [h k List.mem_cons_self hp];rfl
   ·rw [if_pos rfl,List.flatMap_cons]
theorem bel_out {d d':HDoc} (V:DV d) (V':DV d') (hi:∀ m,inD d m->inD d' m) (p:Int->Bool) (hA:∀ n,inD d n->p n=true->(nd d' n).kids.filter p=(nd d n).kids.filter p)
 (hB:∀ n,inD d n->p n=false -> ∀ m∈Z5 d n,p m=false) (hB':∀ n,inD d' n->p n=false -> ∀ m∈Z5 d' n,p m=false) :
 ∀ n,inD d n->p n=true->(Z5 d' n).filter p=(Z5 d n).filter p:=V.down fun n hn ih hp=>by
 have none:∀ {l:List Int},(∀ m∈l,p m=false)->l.filter p=[]:=fun h=>List.filter_eq_nil_iff.2 fun m hm=>by rw [h m hm];simp
 rw [W7 V' (hi n hn),W7 V hn,List.filter_cons,if_pos hp,List.filter_cons,if_pos hp,
  flat_filter _ fun k hk hq=>none (hB' k (V'.kid n (hi n hn) k hk).1 hq),flat_filter _ fun k hk hq=>none (hB k (V.kid n hn k hk).1 hq),hA n hn hp]
 congr 1
 exact XY fun k hk=>ih k (List.mem_filter.1 hk).1 (List.mem_filter.1 hk).2
theorem bel_trans {d:HDoc} (V:DV d) {a n m:Int} (ha:inD d a) (hn:n∈Z5 d a) (hm:m∈Z5 d n):m∈Z5 d a:=by
 have hni:=X5 V a ha n hn
 have hmi:=X5 V n hni m hm
 exact (QX V hmi ha).2 (chain_trans V m hmi n ((QX V hmi hni).1 hm) a ((QX V hni ha).1 hn))
theorem bel_part {d d':HDoc} (V:DV d) (V':DV d') (hi:∀ m,inD d m->inD d' m) {t:Int} (ht:inD d t) (hk:∀ m,m∈Z5 d t->(nd d' m).kids=(nd d m).kids):∀ n,inD d n->n∈Z5 d t->Z5 d' n=Z5 d n:=V.down fun n hn ih hb=>by
 rw [W7 V' (hi n hn),W7 V hn,hk n hb]
 congr 1
 exact XY fun k hk'=>ih k hk' (bel_trans V ht hb (by rw [W7 V hn];exact List.mem_cons_of_mem _ (List.mem_flatMap.2 ⟨k,hk',XJ V (V.kid n hn k hk').1⟩)))
theorem words_same {x y:HNode} (h1:x.kind=y.kind) (h2:x.attrs=y.attrs) (h3:x.name=y.name):J7 x=J7 y:=by
 unfold J7;rw [h1,h2,h3]
def outB (d:HDoc) (e:HEdit) (m:Int):Bool:=!((tcM d e).contains m)
theorem outB_f {d:HDoc} {e:HEdit} {m:Int}:outB d e m=false↔m∈tcM d e:=by unfold outB;simp
theorem outB_t {d:HDoc} {e:HEdit} {m:Int}:outB d e m=true↔m∉tcM d e:=by unfold outB;simp
theorem inD_edit {d:HDoc} (e:HEdit) {m:Int} (h:inD d m):inD (J6 d e) m:=by
 unfold J6
 (repeat' split) <;> first
   | exact inD_setN.2 h
   | exact inD_addN.2 (.inl h)
   | exact inD_hung.2 h
   | exact inD_cutN.2 h
theorem below_edit {d:HDoc} (V:DV d) (e:HEdit) (h0:JK d e=0) (h1:V4 d e=0):(Z5 (J6 d e) 0).filter (outB d e)=(Z5 d 0).filter (outB d e):=by
 have V':DV (J6 d e):=(edit_DV V e h0).2 h1
 have hi:∀ m,inD d m->inD (J6 d e) m:=fun m hm=>inD_edit e hm
 by_cases h4:e.do'=4
 ·have:Z5 (J6 d e) 0=Z5 d 0:=bel_same V V' hi (fun m hm=>by
   have:J6 d e=UX d (madeM e.node):=by unfold J6;simp [h4]
   rw [this,KQ hm]) 0 V.zero
  rw [this]
 ·obtain ⟨d1,d6,ha,hin⟩:=errR_at h0 h4
  by_cases h5:e.do'=5
  ·have ht:=hin h5
   obtain ⟨hc,_⟩:=errR_5z h5 ha ht h0
   have hne:e.at'≠e.into:=fun q=>hc (by rw [<-q];exact U1 _ _)
   have hE:J6 d e=UV d e.at' e.into (YY d e):=by unfold J6;simp [h5]
   have hT:tcM d e=Z5 d e.into:=by unfold tcM;rw [if_neg (by omega),if_pos h5]
   have hat:e.at'∉Z5 d e.into:=fun q=>hc ((QX V ha ht).1 q)
   have kids:∀ m,inD d m->m≠e.at'->(nd (J6 d e) m).kids=(nd d m).kids:=fun m hm hm1=>by
    rw [hE,nd_hung ha ht hne hm]
    by_cases q:m=e.into
    ·rw [if_pos q,q]
    ·rw [if_neg q,if_neg hm1]
   have part:=bel_part V V' hi ht fun m hm=>kids m (X5 V _ ht m hm) fun q=>hat (by rw [<-q];exact hm)
   refine bel_out V V' hi _ (fun n hn hp=>?_) (fun n hn hp m hm=>?_) (fun n hn hp m hm=>?_) 0 V.zero ?_
   ·by_cases q:n=e.at'
    ·subst q
     rw [hE,nd_hung ha ht hne ha,if_neg hne,if_pos rfl]
     show ((nd d e.at').kids.take (YY d e)++e.into :: (nd d e.at').kids.drop (YY d e)).filter _=_
     have hf:outB d e e.into=false:=outB_f.2 (by rw [hT];exact XJ V ht)
     rw [List.filter_append,List.filter_cons,if_neg (by rw [hf];simp),<-List.filter_append,List.take_append_drop]
    ·rw [kids n hn q]
   ·rw [outB_f,hT] at hp ⊢
    exact bel_trans V ht hp hm
   ·rw [outB_f,hT] at hp ⊢
    rw [part n (X5 V _ ht n hp) hp] at hm
    exact bel_trans V ht hp hm
   ·rw [outB_t,hT]
    intro q
    have h2:e.into∈X7 d 0:=(QX V V.zero ht).1 q
    have h3:X7 d 0=[0]:=T9 V (by rw [V.root];omega)
    rw [h3,List.mem_singleton] at h2
    have:=errR_5 h5 ha ht
    rw [h0,if_pos (.inr (.inl h2))] at this
    omega
  ·by_cases h6:e.do'=6
   ·have hr:=errR_6 h6 ha
    rw [h0] at hr
    have hz:e.at'≠0:=fun q=>by rw [if_pos q] at hr;omega
    rw [if_neg hz] at hr
    have hp0:0<=(nd d e.at').parent:=Classical.byContradiction fun q=>by rw [if_pos (by omega)] at hr;omega
    obtain ⟨hpi,hpk⟩:=V.par_in ha hp0
    obtain ⟨i1,i2⟩:=idx_at hpk
    obtain ⟨i,hii⟩:∃ i,(U8 (· == e.at') (nd d (nd d e.at').parent).kids).toNat=i:=⟨_,rfl⟩
    rw [hii] at i1 i2
    have hE:J6 d e=cutN d e.at' i:=by unfold J6;simp [h6,hii]
    have hT:tcM d e=Z5 d e.at':=by unfold tcM;rw [if_neg (by omega),if_neg h5,if_pos h6]
    have hne:(nd d e.at').parent≠e.at':=fun q=>by have:=V.up_par ha hp0;rw [q] at this;omega
    have hpo:(nd d e.at').parent∉Z5 d e.at':=fun q=>by
     have h2:=(QX V hpi ha).1 q
     have h3:=(chain_le V _ hpi _ h2).1
     have h4:=V.up_par ha hp0
     omega
    have kids:∀ m,inD d m->m≠(nd d e.at').parent->(nd (J6 d e) m).kids=(nd d m).kids:=fun m hm hm1=>by
     rw [hE,nd_cutN ha hpi hm]
     by_cases q:m=e.at'
     ·rw [if_pos q,q]
     ·rw [if_neg q,if_neg hm1]
    have part:=bel_part V V' hi ha fun m hm=>kids m (X5 V _ ha m hm) fun q=>hpo (by rw [<-q];exact hm)
    refine bel_out V V' hi _ (fun n hn hp=>?_) (fun n hn hp m hm=>?_) (fun n hn hp m hm=>?_) 0 V.zero ?_
    ·by_cases q:n=(nd d e.at').parent
     ·subst q
      rw [hE,nd_cutN ha hpi hpi,if_neg hne,if_pos rfl]
      show ((nd d (nd d e.at').parent).kids.take i++(nd d (nd d e.at').parent).kids.drop (i+1)).filter _=_
      have hf:outB d e e.at'=false:=outB_f.2 (by rw [hT];exact XJ V ha)
      conv=>rhs;rw [split_nthK i1,i2]
      rw [List.filter_append,List.filter_append,List.filter_cons,if_neg (by rw [hf];simp)]
     ·rw [kids n hn q]
    ·rw [outB_f,hT] at hp ⊢
     exact bel_trans V ha hp hm
    ·rw [outB_f,hT] at hp ⊢
     rw [part n (X5 V _ ha n hp) hp] at hm
     exact bel_trans V ha hp hm
    ·rw [outB_t,hT]
     intro q
     have h2:e.at'∈X7 d 0:=(QX V V.zero ha).1 q
     have h3:X7 d 0=[0]:=T9 V (by rw [V.root];omega)
     rw [h3,List.mem_singleton] at h2
     exact hz h2
   ·have:Z5 (J6 d e) 0=Z5 d 0:=bel_same V V' hi (fun m hm=>by
     unfold J6
     (repeat' split) <;> first
       | omega
       | (rw [nd_setN ha hm];split <;> first | rfl | (rename_i q;rw [q]))) 0 V.zero
    rw [this]
theorem words_edit {d:HDoc} (V:DV d) (e:HEdit) (h0:JK d e=0) {m:Int} (hm:inD d m) (ho:m∉tcM d e):J7 (nd (J6 d e) m)=J7 (nd d m):=by
 by_cases h4:e.do'=4
 ·have:J6 d e=UX d (madeM e.node):=by unfold J6;simp [h4]
  rw [this,KQ hm]
 ·obtain ⟨d1,d6,ha,hin⟩:=errR_at h0 h4
  by_cases h5:e.do'=5
  ·have ht:=hin h5
   obtain ⟨hc,_⟩:=errR_5z h5 ha ht h0
   have hne:e.at'≠e.into:=fun q=>hc (by rw [<-q];exact U1 _ _)
   have hE:J6 d e=UV d e.at' e.into (YY d e):=by unfold J6;simp [h5]
   rw [hE,nd_hung ha ht hne hm]
   split
   ·rename_i q;rw [q];exact words_same rfl rfl rfl
   ·split
    ·rename_i q;rw [q];exact words_same rfl rfl rfl
    ·rfl
  ·by_cases h6:e.do'=6
   ·have hr:=errR_6 h6 ha
    rw [h0] at hr
    have hz:e.at'≠0:=fun q=>by rw [if_pos q] at hr;omega
    rw [if_neg hz] at hr
    have hp0:0<=(nd d e.at').parent:=Classical.byContradiction fun q=>by rw [if_pos (by omega)] at hr;omega
    obtain ⟨hpi,hpk⟩:=V.par_in ha hp0
    have hE:J6 d e=cutN d e.at' (U8 (· == e.at') (nd d (nd d e.at').parent).kids).toNat:=by unfold J6;simp [h6]
    rw [hE,nd_cutN ha hpi hm]
    split
    ·rename_i q;rw [q];exact words_same rfl rfl rfl
    ·split
     ·rename_i q;rw [q];exact words_same rfl rfl rfl
     ·rfl
   ·by_cases h3:e.do'=3
    ·have hE:J6 d e=setN d e.at' { nd d e.at' with text:=e.value }:=by unfold J6;simp [h3]
     rw [hE,nd_setN ha hm]
     split
     ·rename_i q;rw [q];exact words_same rfl rfl rfl
     ·rfl
    ·have hT:tcM d e=[e.at']:=by unfold tcM;rw [if_pos (by omega)]
     have hne:m≠e.at':=fun q=>ho (by rw [hT,q];exact List.mem_singleton.2 rfl)
     unfold J6
     (repeat' split) <;> first
       | omega
       | rw [nd_setN ha hm,if_neg hne]
def dropW (n:Int) (W:List (List UInt8)) (L:List HRef):List HRef:=W.foldl (fun L w=>dropL L w n) L
def dropA (d:HDoc) (c:Nat) (T:List Int) (L:List HRef):List HRef:=T.foldl (fun L n=>dropW n (nth (J7 (nd d n)) c) L) L
def putW (rk:Int->Int) (n:Int) (W:List (List UInt8)) (L:List HRef):List HRef:=W.foldl (fun L w=>putG rk L w n) L
def putA (rk:Int->Int) (d:HDoc) (c:Nat) (T:List Int) (L:List HRef):List HRef:=T.foldl (fun L n=>putW rk n (nth (J7 (nd d n)) c) L) L
theorem dropW_snoc (n:Int) (W:List (List UInt8)) (w:List UInt8) (L:List HRef):dropW n (W++[w]) L=dropL (dropW n W L) w n:=by unfold dropW;rw [List.foldl_append];rfl
theorem dropA_snoc (d:HDoc) (c:Nat) (T:List Int) (n:Int) (L:List HRef):dropA d c (T++[n]) L=dropW n (nth (J7 (nd d n)) c) (dropA d c T L):=by unfold dropA;rw [List.foldl_append];rfl
theorem putW_snoc (rk:Int->Int) (n:Int) (W:List (List UInt8)) (w:List UInt8) (L:List HRef):putW rk n (W++[w]) L=putG rk (putW rk n W L) w n:=by unfold putW;rw [List.foldl_append];rfl
theorem putA_snoc (rk:Int->Int) (d:HDoc) (c:Nat) (T:List Int) (n:Int) (L:List HRef):putA rk d c (T++[n]) L=putW rk n (nth (J7 (nd d n)) c) (putA rk d c T L):=by unfold putA;rw [List.foldl_append];rfl
section
variable {L:List HRef} {P:List UInt8->Int->Prop} {rk rk':Int->Int}
theorem SpecM.dropW (n:Int):∀ (W:List (List UInt8)) (L:List HRef) (P:List UInt8->Int->Prop),SpecM L P rk->SpecM (dropW n W L) (fun v m=>P v m/\¬ (m=n/\v∈W)) rk
 | [],L,P,S=>S.congr fun w m=>by simp
 | x :: W,L,P,S=>by
   refine (SpecM.dropW n W _ _ (S.drop x n)).congr fun v m=>?_
   rw [List.mem_cons]
   constructor
   ·rintro ⟨⟨h1,h2⟩,h3⟩
    exact ⟨h1,fun ⟨q1,q2⟩=>q2.elim (fun q2=>h2 ⟨q2,q1⟩) fun q2=>h3 ⟨q1,q2⟩⟩
   ·rintro ⟨h1,h2⟩
    exact ⟨⟨h1,fun q=>h2 ⟨q.2,.inl q.1⟩⟩,fun q=>h2 ⟨q.1,.inr q.2⟩⟩
theorem SpecM.dropA {d:HDoc} {c:Nat}:∀ (T:List Int) (L:List HRef) (P:List UInt8->Int->Prop),(∀ w m,P w m->w∈nth (J7 (nd d m)) c)->SpecM L P rk->SpecM (dropA d c T L) (fun v m=>P v m/\m∉T) rk
 | [],L,P,hP,S=>S.congr fun w m=>by simp
 | n :: T,L,P,hP,S=>by
   refine (SpecM.dropA T _ _ (fun w m h=>hP w m h.1) (S.dropW n (nth (J7 (nd d n)) c) L P)).congr fun v m=>?_
   rw [List.mem_cons]
   constructor
   ·rintro ⟨⟨h1,h2⟩,h3⟩
    exact ⟨h1,fun q=>q.elim (fun q=>h2 ⟨q,by rw [<-q];exact hP v m h1⟩) h3⟩
   ·rintro ⟨h1,h2⟩
    exact ⟨⟨h1,fun q=>h2 (.inl q.1)⟩,fun q=>h2 (.inr q)⟩
theorem SpecM.putW (n:Int):∀ (W:List (List UInt8)) (L:List HRef) (P:List UInt8->Int->Prop),(∀ w∈W,∀ m,P w m->rk m≠rk n)->W.Nodup->SpecM L P rk->SpecM (putW rk n W L) (fun v m=>P v m\/(m=n/\v∈W)) rk
 | [],L,P,_,_,S=>S.congr fun w m=>by simp
 | x :: W,L,P,h,hn,S=>by
   have hn':=List.nodup_cons.1 hn
   refine (SpecM.putW n W _ _ (fun w hw m hp=>?_) hn'.2 (S.put x n (h x List.mem_cons_self))).congr fun v m=>?_
   ·rcases hp with hp | ⟨rfl,rfl⟩
    ·exact h w (List.mem_cons_of_mem _ hw) m hp
    ·exact absurd hw hn'.1
   ·rw [List.mem_cons]
    constructor
    ·rintro ((h1 | ⟨h1,h2⟩) | ⟨h1,h2⟩)
     ·exact .inl h1
     ·exact .inr ⟨h2,.inl h1⟩
     ·exact .inr ⟨h1,.inr h2⟩
    ·rintro (h1 | ⟨h1,h2 | h2⟩)
     ·exact .inl (.inl h1)
     ·exact .inl (.inr ⟨h2,h1⟩)
     ·exact .inr ⟨h1,h2⟩
end
theorem pw_tri {α:Type} {r:α->α->Prop}:∀ {l:List α},l.Pairwise r -> ∀ {x y:α},x∈l->y∈l->x=y\/r x y\/r y x
 | [],_,x,y,hx,_=>by cases hx
 | z :: l,h,x,y,hx,hy=>by
   have h':=List.pairwise_cons.1 h
   rcases List.mem_cons.1 hx with e1 | h1
   ·rcases List.mem_cons.1 hy with e2 | h2
    ·exact .inl (e1.trans e2.symm)
    ·rw [e1];exact .inr (.inl (h'.1 y h2))
   ·rcases List.mem_cons.1 hy with e2 | h2
    ·rw [e2];exact .inr (.inr (h'.1 x h1))
    ·exact pw_tri h'.2 h1 h2
structure Edited (d dn:HDoc) (T:List Int) (rk rk':Int->Int):Prop where
 V:DV d
 V':DV dn
 hi:∀ m,inD d m->inD dn m
 tin:∀ m∈T,inD d m
 tnd:T.Nodup
 out:(Z5 dn 0).filter (fun m=>!(T.contains m))=(Z5 d 0).filter (fun m=>!(T.contains m))
 words:∀ m,inD d m->m∉T->J7 (nd dn m)=J7 (nd d m)
 ord:(Z5 d 0).Pairwise fun a b=>rk a<rk b
 ord':(Z5 dn 0).Pairwise fun a b=>rk' a<rk' b
section
variable {d dn:HDoc} {T:List Int} {rk rk':Int->Int} {c:Nat}
theorem Edited.mem (E:Edited d dn T rk rk') {m:Int} (hm:m∉T):m∈Z5 dn 0↔m∈Z5 d 0:=by
 have h1:m∈(Z5 dn 0).filter (fun m=>!(T.contains m))↔m∈Z5 dn 0:=by
  rw [List.mem_filter];exact ⟨And.left,fun q=>⟨q,by simpa using hm⟩⟩
 have h2:m∈(Z5 d 0).filter (fun m=>!(T.contains m))↔m∈Z5 d 0:=by
  rw [List.mem_filter];exact ⟨And.left,fun q=>⟨q,by simpa using hm⟩⟩
 rw [<-h1,<-h2,E.out]
theorem Edited.ne (E:Edited d dn T rk rk') {a b:Int} (ha:a∈Z5 dn 0) (hb:b∈Z5 dn 0) (hne:a≠b):rk' a≠rk' b:=by
 rcases pw_tri E.ord' ha hb with h | h | h
 ·exact absurd h hne
 ·omega
 ·omega
theorem Edited.drop (E:Edited d dn T rk rk') (hc:c<4) (k:Nat):SpecM (dropA d c (T.take k) (V5 d c)) (fun w m=>PD d (Z5 d 0) c w m/\m∉T.take k) rk:=
 SpecM.dropA _ _ _ (fun w m h=>h.2) (specM_of E.V (X5 E.V 0 E.V.zero) hc E.ord)
theorem Edited.turned (E:Edited d dn T rk rk') (hc:c<4):SpecM (dropA d c T (V5 d c)) (fun w m=>PD d (Z5 d 0) c w m/\m∉T) rk':=by
 have S:=E.drop (c:=c) hc T.length
 rw [List.take_length] at S
 refine S.rank fun w a b ha hb hab=>?_
 have mf:∀ m,m∈Z5 d 0->m∉T->m∈(Z5 d 0).filter (fun m=>!(T.contains m)):=fun m h1 h2=>List.mem_filter.2 ⟨h1,by simpa using h2⟩
 have h1:=E.ord.filter fun m=>!(T.contains m)
 have h2:=E.ord'.filter fun m=>!(T.contains m)
 rw [E.out] at h2
 have ma:=mf a ha.1.1 ha.2
 have mb:=mf b hb.1.1 hb.2
 rcases pw_tri (h1.and h2) ma mb with h | h | h
 ·subst h;omega
 ·exact h.2
 ·omega
def inT (dn:HDoc) (T:List Int):List Int:=T.filter fun m=>decide (m∈Z5 dn 0)
def PP (d dn:HDoc) (T:List Int) (c:Nat) (A:List Int) (w:List UInt8) (m:Int):Prop:=(PD d (Z5 d 0) c w m/\m∉T)\/(m∈A/\w∈nth (J7 (nd dn m)) c)
theorem Edited.putW (E:Edited d dn T rk rk') (hc:c<4) {A:List Int} {L:List HRef} (S:SpecM L (PP d dn T c A) rk') {n:Int} (hA:∀ m∈A,m∈T/\m∈Z5 dn 0) (hn:n∈T) (hb:n∈Z5 dn 0) (hnA:n∉A) (k:Nat) :
 SpecM (putW rk' n ((nth (J7 (nd dn n)) c).take k) L) (fun v m=>PP d dn T c A v m\/(m=n/\v∈(nth (J7 (nd dn n)) c).take k)) rk':=by
 have hin:=X5 E.V' 0 E.V'.zero n hb
 refine SpecM.putW n _ _ _ (fun w hw m hp=>?_) (((KZ E.V' hin).nd c hc).sublist (List.take_sublist _ _)) S
 rcases hp with ⟨hp,hT⟩ | ⟨hm,_⟩
 ·exact E.ne ((E.mem hT).2 hp.1) hb fun q=>hT (by rw [q];exact hn)
 ·exact E.ne (hA m hm).2 hb fun q=>hnA (by rw [<-q];exact hm)
theorem Edited.put (E:Edited d dn T rk rk') (hc:c<4):∀ (A B:List Int),(A++B).Nodup->(∀ m∈A++B,m∈T/\m∈Z5 dn 0) -> ∀ (L:List HRef),SpecM L (PP d dn T c A) rk'->SpecM (putA rk' dn c B L) (PP d dn T c (A++B)) rk'
 | A,[],_,_,L,S=>by rw [List.append_nil];exact S
 | A,n :: B,hn,hA,L,S=>by
   have h1:=hA n (by simp)
   have h2:n∉A:=fun q=>by
    have:=(List.nodup_append.1 hn).2.2 n q n List.mem_cons_self
    exact this rfl
   have W:=E.putW hc S (fun m hm=>hA m (List.mem_append_left _ hm)) h1.1 h1.2 h2 (nth (J7 (nd dn n)) c).length
   rw [List.take_length] at W
   have e:A++n :: B=(A++[n])++B:=by simp
   rw [e] at hn hA ⊢
   refine E.put hc (A++[n]) B hn hA _ (W.congr fun w m=>?_)
   unfold PP
   rw [List.mem_append,List.mem_singleton]
   constructor
   ·rintro ((h | ⟨h,h'⟩) | ⟨h,h'⟩)
    ·exact .inl h
    ·exact .inr ⟨.inl h,h'⟩
    ·exact .inr ⟨.inr h,by rw [h];exact h'⟩
   ·rintro (h | ⟨h | h,h'⟩)
    ·exact .inl (.inl h)
    ·exact .inl (.inr ⟨h,h'⟩)
    ·exact .inr ⟨h,by rw [<-h];exact h'⟩
theorem Edited.start (E:Edited d dn T rk rk') (hc:c<4):SpecM (dropA d c T (V5 d c)) (PP d dn T c []) rk':=
 (E.turned hc).congr fun w m=>by unfold PP;simp
theorem Edited.after (E:Edited d dn T rk rk') (hc:c<4) (k:Nat):SpecM (putA rk' dn c ((inT dn T).take k) (dropA d c T (V5 d c))) (PP d dn T c ((inT dn T).take k)) rk':=by
 have h:=E.put hc [] ((inT dn T).take k) (by rw [List.nil_append];exact (E.tnd.filter _).sublist (List.take_sublist _ _)) (fun m hm=>by
  rw [List.nil_append] at hm
  have:=List.mem_filter.1 (List.mem_of_mem_take hm)
  exact ⟨this.1,of_decide_eq_true this.2⟩) _ (E.start hc)
 rw [List.nil_append] at h;exact h
theorem Edited.is (E:Edited d dn T rk rk') (hc:c<4):putA rk' dn c (inT dn T) (dropA d c T (V5 d c))=V5 dn c:=by
 have S:=E.after (c:=c) hc (inT dn T).length
 rw [List.take_length] at S
 refine (S.congr (P':=PD dn (Z5 dn 0) c) fun w m=>?_).eq (specM_of E.V' (X5 E.V' 0 E.V'.zero) hc E.ord')
 unfold PP PD inT
 rw [List.mem_filter,decide_eq_true_iff]
 constructor
 ·rintro (⟨⟨h1,h2⟩,h3⟩ | ⟨⟨h1,h2⟩,h3⟩)
  ·exact ⟨(E.mem h3).2 h1,by rw [E.words m (X5 E.V 0 E.V.zero m h1) h3];exact h2⟩
  ·exact ⟨h2,h3⟩
 ·rintro ⟨h1,h2⟩
  by_cases h3:m∈T
  ·exact .inr ⟨⟨h3,h1⟩,h2⟩
  ·have h4:=(E.mem h3).1 h1
   exact .inl ⟨⟨h4,by rw [<-E.words m (X5 E.V 0 E.V.zero m h4) h3];exact h2⟩,h3⟩
end
end Go.Proofs.K
end
section
set_option linter.unusedSimpArgs false
set_option linter.unusedVariables false
namespace Go.Proofs.K
open Go Go.Sim Go.Proofs Go.Shelf
variable {G:YZ}
def c55:SFun:=⟨.seq (.reg [o 6 (.mv (.c .emp))]) (.seq (.reg [o 8 (.mv (.t 0)),o 9 (.mv (.t 1)),o 10 (.mv (.t 2)),o 11 (.mv (.t 0)),o 12 (.len (.t 11)),o 13 (.slM 2 (.t 8) (some (.t 9)) (some (.t 10)) (some (.t 12)))]) (.seq (.seq (.reg [o 14 (.mv (.t 1)),o 15 (.mv (.t 2)),o 16 (.bin .eql (.t 14) (.t 15))]) (.cond (.t 16) (.seq (.reg [o 17 (.mv (.t 0)),o 6 (.mv (.t 17))]) .ret) .skip)) (.seq (.reg [o 18 (.mv (.t 0)),o 19 (.len (.t 18)),o 7 (.mv (.t 19))]) (.seq (.dreg [(o 20 (.mv (.t 0)),none),(o 21 (.mv (.t 1)),none),(o 22 (.slA 2 (.t 20) none (some (.t 21))),none),(o 23 (.mv (.t 0)),none),(o 24 (.mv (.t 2)),none),(o 25 (.slA 2 (.t 23) (some (.t 24)) none),none),(o 26 (.appIn 87 2 (.t 22) (.t 25)),(some [])),(o 0 (.mv (.t 26)),(some []))]) (.seq (.reg [o 27 (.mv (.t 0)),o 28 (.mv (.t 0)),o 29 (.len (.t 28)),o 30 (.mv (.t 7)),o 31 (.slX 2 (.t 27) (some (.t 29)) (some (.t 30))),⟨none,.clear 2 [.str [],.emp] (.t 31),none⟩]) (.seq (.reg [o 32 (.mv (.t 0)),o 6 (.mv (.t 32))]) .ret)))))),[.tmp 6]⟩
theorem hc55:Y3 Tryz.prog {how:=[(26,3),(31,4)]} Tryz.f55=some c55:=by kernel_rfl
theorem deleteR_ok {h:Q2} {r n i j:Nat} {es:List (List AVal)} (hr:h r=some ⟨.t 87,2,es⟩) (hn:n<=es.length) (hij:i<j) (hj:j<=n) (hl:n<=1073741824) :
 DCalls (Pg G) 55 [.osl r 2 0 n,Q3 i,Q3 j] h fun a h'=>a=.osl r 2 0 (n-(j-i)) /\ ∃ es',h'=upd h r (some ⟨.t 87,2,es'⟩)/\n-(j-i)<=es'.length/\es'.take (n-(j-i))=es.take i++(es.take n).drop j:=by
 refine Q0 Tryz.func55 (by kernel_rfl) hc55 (by rw [Tryz.ntmps55];simp) (by rw [Tryz.ntmps55];decide) ?_
 simp -dsimp -implicitDefEqProofs (disch:=omega) only [VCA,Nat.reduceEqDiff,↓reduceIte,reduceCtorEq,c55]
 refine ⟨by omega,Br.eq (fun h1=>by omega) (fun h1=>?_)⟩
 simp -dsimp -implicitDefEqProofs (disch:=omega) only [VCA,Nat.reduceEqDiff,↓reduceIte,reduceCtorEq,Y8,Z0,SOp.rd,SI.rd,SX.rd,exists_eq_left',J1,hr]
 have hL:(List.take (n-j) (List.drop j es)).length=n-j:=by simp;omega
 have hT:(List.take i es).length=i:=by simp;omega
 rw [hL]
 have e1:i+(n-j)=n-(j-i):=by omega
 refine ⟨by omega,by omega,by omega,by omega,by omega,by omega,by simp;omega,by simp;omega,_,Sub.refl _,by rw [e1],_,rfl,?_,?_⟩
 ·simp;omega
 ·rw [<-e1]
  have e2:(List.take i es++List.take (n-j) (List.drop j es)).length=i+(n-j):=by rw [List.length_append,hT,hL]
  rw [List.take_append_of_le_length (by simp;omega),List.take_append_of_le_length (by rw [List.length_take,List.length_append,e2];omega),List.take_take,Nat.min_eq_left (by omega),List.take_append_of_le_length (by omega),List.take_of_length_le (by omega),List.drop_take]
def c81:SFun:=⟨.seq (.reg [o 4 (.mv (.c (.int .i64 0)))]) (.seq (.seq (.reg [o 6 (.mv (.t 0)),o 7 (.len (.t 6)),o 8 (.mv (.c (.int .i64 0)))]) (.block 0 (.loop (.seq (.reg [o 9 (.bin .lss (.t 8) (.t 7))]) (.seq (.cond (.t 9) .skip (.exit 0)) (.seq (.block 1 (.seq (.reg [o 10 (.mv (.t 8)),o 5 (.mv (.t 10))]) (.seq (.reg [o 11 (.mv (.t 1)),o 12 (.mv (.t 0)),o 13 (.mv (.t 5)),o 14 (.idxA 1 (.t 12) (.t 13)),o 15 (.ld 1 false (.t 14)),o 16 (.call (.t 11) [.t 15])]) (.cond (.t 16) (.seq (.reg [o 17 (.mv (.t 5)),o 4 (.mv (.t 17))]) .ret) .skip)))) (.reg [o 18 (.bin .add (.t 8) (.c (.int .i64 1))),o 8 (.mv (.t 18))]))))))) (.seq (.reg [o 4 (.mv (.c (.int .i64 (-1))))]) .ret)),[.tmp 4]⟩
theorem hc81:Y3 Tryz.prog {} Tryz.f81=some c81:=by kernel_rfl
theorem idxG_ok (L:List Int) (hl:L.length<=1073741824) (f:Nat) (a b:List AVal) (p:Int->Bool) (hp:∀ k,PCalls (Pg G) f (a++([Q3 k]++b)) (.bool (p k))) :
 PCalls (Pg G) 81 [sl Z6 L,.fn f a b] (Q3 (U8 p L)):=fun h=>by
 refine Q0 Tryz.func81 (by kernel_rfl) hc81 (by rw [Tryz.ntmps81];simp) (by rw [Tryz.ntmps81];decide) ?_
 simp -dsimp -implicitDefEqProofs (disch:=omega) only [VCA,↓reduceIte,reduceCtorEq,c81]
 refine LoopVC.intro (fun m e h'=>∃ k:Nat,k<=L.length/\m=L.length-k/\e 0=sl Z6 L/\e 1=.fn f a b/\e 7=Q3 L.length/\e 8=Q3 k/\h'=h /\ ∀ j,j<k->p (nth L j)=false) L.length
  ⟨0,by omega,by omega,rfl,rfl,rfl,rfl,rfl,fun j hj=>by omega⟩ ?_
 rintro m e h' ⟨k,hk,rfl,e0,e1,e7,e8,rfl,hj⟩
 by_cases hlt:k<L.length
 ·have d1:decide ((k:Int)<(L.length:Int))=true:=decide_eq_true (by omega)
  have g:=hp (nth L k)
  simp only [List.cons_append,List.nil_append] at g
  obtain ⟨x,hx⟩:∃ x,nth L k=x:=⟨_,rfl⟩
  rw [hx] at g
  cases hb:p x
  ·rw [hb] at g
   repeat' (first | ((with_reducible refine brC (fun _=>?_) fun _=>?_) <;> try (exfalso;omega)) | (with_reducible refine PCalls.of g ?_) | (with_reducible refine And.intro ?_ ?_; · omega) | simp -dsimp -implicitDefEqProofs (disch:=omega) only [VCA,Nat.reduceEqDiff,↓reduceIte,reduceCtorEq,Z6,e0,e1,e7,e8,d1,hx])
   refine ⟨_,by omega,k+1,by omega,rfl,by omega,fun j hj'=>?_⟩
   by_cases hjk:j=k
   ·subst hjk;rw [hx];exact hb
   ·exact hj j (by omega)
  ·rw [hb] at g
   have hi:U8 p L=k:=VV hlt hj (by rw [hx];exact hb)
   rw [hi]
   repeat' (first | ((with_reducible refine brC (fun _=>?_) fun _=>?_) <;> try (exfalso;omega)) | (with_reducible refine PCalls.of g ?_) | (with_reducible refine And.intro ?_ ?_; · omega) | simp -dsimp -implicitDefEqProofs (disch:=omega) only [VCA,Nat.reduceEqDiff,↓reduceIte,reduceCtorEq,exists_eq_right,Z6,e0,e1,e7,e8,d1,hx])
   all_goals first | exact Sub.refl _ | exact ⟨Sub.refl _,rfl⟩ | trace_state
 ·obtain rfl:k=L.length:=by omega
  have d1:decide ((L.length:Int)<(L.length:Int))=false:=decide_eq_false (by omega)
  have hi:U8 p L = -1:=VU hj
  rw [hi]
  repeat' (first | ((with_reducible refine brC (fun _=>?_) fun _=>?_) <;> try (exfalso;omega)) | (with_reducible refine And.intro ?_ ?_; · omega) | simp -dsimp -implicitDefEqProofs (disch:=omega) only [VCA,↓reduceIte,exists_eq_right,e7,e8,d1])
  all_goals first | exact Sub.refl _ | exact ⟨Sub.refl _,rfl⟩ | trace_state
theorem take_set_snoc {α:Type} {l:List α} {i:Nat} (hi:i<l.length) (y:α):(l.set i y).take (i+1)=l.take i++[y]:=by
 rw [List.take_succ_eq_append_getElem (by rw [List.length_set];exact hi),List.getElem_set_self,List.take_set_of_le (Nat.le_refl i)]
theorem filter_all {p:Int->Bool} {L:List Int} (h:∀ j,j<L.length->p (nth L j)=false):L.filter (fun m=>!(p m))=L:=by
 refine List.filter_eq_self.2 fun m hm=>?_
 obtain ⟨j,hj,rfl⟩:=QY hm
 rw [h j hj];rfl
def c53:SFun:=⟨.seq (.reg [o 4 (.mv (.c .emp))]) (.seq (.reg [o 8 (.mv (.t 0)),o 9 (.mv (.t 1)),o 10 (.call (.c (.fn 81 [] [])) [.t 8,.t 9]),o 5 (.mv (.t 10))]) (.seq (.seq (.reg [o 11 (.mv (.t 5)),o 12 (.bin .eql (.t 11) (.c (.int .i64 (-1))))]) (.cond (.t 12) (.seq (.reg [o 13 (.mv (.t 0)),o 4 (.mv (.t 13))]) .ret) .skip)) (.seq (.seq (.reg [o 14 (.mv (.t 5)),o 15 (.bin .add (.t 14) (.c (.int .i64 1))),o 6 (.mv (.t 15))]) (.block 0 (.loop (.seq (.seq (.reg [o 16 (.mv (.t 6)),o 17 (.mv (.t 0)),o 18 (.len (.t 17)),o 19 (.bin .lss (.t 16) (.t 18))]) (.cond (.t 19) .skip (.exit 0))) (.seq (.block 1 (.seq (.reg [o 22 (.mv (.t 0)),o 23 (.mv (.t 6)),o 24 (.idxA 1 (.t 22) (.t 23)),o 25 (.ld 1 false (.t 24)),o 7 (.mv (.t 25))]) (.seq (.reg [o 26 (.mv (.t 1)),o 27 (.mv (.t 7)),o 28 (.call (.t 26) [.t 27]),o 29 (.un .not (.t 28))]) (.cond (.t 29) (.seq (.reg [o 30 (.mv (.t 0)),o 31 (.mv (.t 5)),o 32 (.mv (.t 7)),o 33 (.idxA 1 (.t 30) (.t 31)),⟨none,.st 1 (.t 33) (.t 32),none⟩]) (.reg [o 34 (.mv (.t 5)),o 35 (.bin .add (.t 34) (.c (.int .i64 1))),o 5 (.mv (.t 35))])) .skip)))) (.reg [o 20 (.mv (.t 6)),o 21 (.bin .add (.t 20) (.c (.int .i64 1))),o 6 (.mv (.t 21))])))))) (.seq (.reg [o 36 (.mv (.t 0)),o 37 (.mv (.t 5)),o 38 (.slA 1 (.t 36) (some (.t 37)) none),⟨none,.clear 1 [.int .i64 0] (.t 38),none⟩]) (.seq (.reg [o 39 (.mv (.t 0)),o 40 (.mv (.t 5)),o 41 (.slA 1 (.t 39) none (some (.t 40))),o 4 (.mv (.t 41))]) .ret))))),[.tmp 4]⟩
theorem hc53:Y3 Tryz.prog {} Tryz.f53=some c53:=by kernel_rfl
theorem delF_ok {h:Q2} {r:Nat} {es:List (List AVal)} {L:List Int} (hr:h r=some ⟨.t 3,1,es⟩) (hle:L.length<=es.length) (ht:es.take L.length=L.map Z6) (hl:L.length<=1073741824) (f:Nat) (a b:List AVal) (p:Int->Bool) (hp:∀ k,PCalls (Pg G) f (a++([Q3 k]++b)) (.bool (p k))) :
 DCalls (Pg G) 53 [.osl r 1 0 L.length,.fn f a b] h fun v h'=>v=.osl r 1 0 (L.filter fun m=>!(p m)).length /\ ∃ es',h'=upd h r (some ⟨.t 3,1,es'⟩)/\(L.filter fun m=>!(p m)).length<=es'.length/\es'.take (L.filter fun m=>!(p m)).length=(L.filter fun m=>!(p m)).map Z6:=by
 have O:OwnS h 3 1 (L.map Z6) (.osl r 1 0 L.length):=.inr (.inr ⟨r,es,by rw [List.length_map],hr,by rw [List.length_map];exact hle,by rw [List.length_map];exact ht⟩)
 have hF:F2 (Vw h) [.osl r 1 0 L.length,.fn f a b] [sl Z6 L,.fn f a b]:=.cons O.vw (.cons (.refl _) .nil)
 have cI:=(idxG_ok (G:=G) L hl f a b p hp).borrow (h:=h) (Scal.int _ _) hF.len hF.get
 have hget:∀ t,t<L.length->es.getD t []=Z6 (nth L t):=fun t h1=>getD_take_enc ht h1
 cases hm:L.findIdx? p with
 | none=>
   have hno:∀ j,j<L.length->p (nth L j)=false:=fun j hj=>by
    have:=(List.findIdx?_eq_none_iff.1 hm) _ (Y7 hj)
    simpa using this
   have hi:U8 p L = -1:=VU hno
   rw [filter_all hno]
   rw [hi] at cI
   refine Q0 Tryz.func53 (by kernel_rfl) hc53 (by rw [Tryz.ntmps53];simp) (by rw [Tryz.ntmps53];decide) ?_
   simp -dsimp -implicitDefEqProofs (disch:=omega) only [VCA,Nat.reduceEqDiff,↓reduceIte,reduceCtorEq,c53]
   refine DCalls.of cI ?_
   rintro _ h ⟨rfl,rfl⟩
   have z1:((-1:Int) == -1)=true:=rfl
   repeat' (first | ((with_reducible refine brC (fun _=>?_) fun _=>?_) <;> try (exfalso;omega)) | (with_reducible refine And.intro ?_ ?_; · omega) | simp -dsimp -implicitDefEqProofs (disch:=omega) only [VCA,↓reduceIte,reduceCtorEq,z1])
   exact ⟨_,Sub.refl _,es,(upd_id hr).symm,hle,ht⟩
 | some k0=>
   obtain ⟨hk0,hpk,hbefore⟩:=List.findIdx?_eq_some_iff_getElem.1 hm
   have ek:∀ j (hj:j<L.length),L[j]=nth L j:=fun j hj=>by have:=J5 hj;rw [List.getElem?_eq_getElem hj] at this;exact Option.some.inj this
   rw [ek k0 hk0] at hpk
   have hbf:∀ j,j<k0->p (nth L j)=false:=fun j hj=>by
    have:=hbefore j hj
    rw [ek j (by omega)] at this;simpa using this
   have hi:U8 p L=k0:=VV hk0 hbf hpk
   rw [hi] at cI
   have hfl:∀ j,((L.take j).filter fun m=>!(p m)).length<=j:=fun j=>by
    have:=List.length_filter_le (fun m=>!(p m)) (L.take j)
    rw [List.length_take] at this;omega
   have tk:∀ j,j<L.length->(L.take (j+1)).filter (fun m=>!(p m))=(L.take j).filter (fun m=>!(p m))++if p (nth L j)=true then [] else [nth L j]:=fun j hj=>by
    rw [X1 hj,List.filter_append,List.filter_cons,List.filter_nil]
    cases p (nth L j) <;> rfl
   have z1:((k0:Int) == -1)=false:=by rw [beq_eq_false_iff_ne];omega
   have f0:(L.take (k0+1)).filter (fun m=>!(p m))=L.take k0:=by
    rw [tk k0 hk0,hpk,if_pos rfl,List.append_nil]
    refine List.filter_eq_self.2 fun m hm=>?_
    obtain ⟨j,hj,rfl⟩:=QY hm
    rw [List.length_take] at hj
    have e1:nth (L.take k0) j=nth L j:=by
     unfold nth
     rw [List.getD_eq_getElem?_getD,List.getD_eq_getElem?_getD,List.getElem?_take,if_pos (by omega)]
    rw [e1,hbf j (by omega)];rfl
   refine Q0 Tryz.func53 (by kernel_rfl) hc53 (by rw [Tryz.ntmps53];simp) (by rw [Tryz.ntmps53];decide) ?_
   simp -dsimp -implicitDefEqProofs (disch:=omega) only [VCA,Nat.reduceEqDiff,↓reduceIte,reduceCtorEq,c53]
   refine DCalls.of cI ?_
   rintro _ h ⟨rfl,rfl⟩
   repeat' (first | ((with_reducible refine brC (fun _=>?_) fun _=>?_) <;> try (exfalso;omega)) | (with_reducible refine And.intro ?_ ?_; · omega) | simp -dsimp -implicitDefEqProofs (disch:=omega) only [VCA,Nat.reduceEqDiff,↓reduceIte,z1])
   refine LoopVC.intro (fun m e h'=>∃ (j:Nat) (es2:List (List AVal)),k0+1<=j/\j<=L.length/\m=L.length-j/\e 0=.osl r 1 0 L.length/\e 1=.fn f a b/\e 5=Q3 ((L.take j).filter fun m=>!(p m)).length/\e 6=Q3 j/\h'=upd h r (some ⟨.t 3,1,es2⟩)/\es2.length=es.length /\
    es2.take ((L.take j).filter fun m=>!(p m)).length=((L.take j).filter fun m=>!(p m)).map Z6/\(∀ t,j<=t->t<L.length->es2.getD t []=Z6 (nth L t))/\(∀ t,t<L.length->(es2.getD t []).length=1)/\((L.take j).filter fun m=>!(p m)).length<j) (L.length-(k0+1))
    (by
      refine ⟨k0+1,es,by omega,by omega,rfl,rfl,rfl,?_,?_,(upd_id hr).symm,rfl,?_,fun t h1 h2=>hget t h2,fun t h1=>by rw [hget t h1];rfl,?_⟩
      ·rw [f0,List.length_take,Nat.min_eq_left (by omega)];rfl
      ·rfl
      ·rw [f0,List.length_take,Nat.min_eq_left (by omega),List.map_take,<-ht,List.take_take,Nat.min_eq_left (by omega)]
      ·rw [f0,List.length_take];omega) ?_
   rintro m e h' ⟨j,es2,hj1,hj2,rfl,e0,e1,e5,e6,rfl,hl2,ht2,hg2,hg1,hlt2⟩
   obtain ⟨K,hK⟩:∃ K,(L.take j).filter (fun m=>!(p m))=K:=⟨_,rfl⟩
   rw [hK] at e5 ht2 hlt2
   have hr2:upd h r (some ⟨.t 3,1,es2⟩) r=some ⟨.t 3,1,es2⟩:=Q5 _ _ _
   by_cases hlt:j<L.length
   ·have d1:decide ((j:Int)<(L.length:Int))=true:=decide_eq_true (by omega)
    have tj:=tk j hlt
    rw [hK] at tj
    have hgj:=hg2 j (Nat.le_refl _) hlt
    have g:=hp (nth L j)
    simp only [List.cons_append,List.nil_append] at g
    obtain ⟨x,hx⟩:∃ x,nth L j=x:=⟨_,rfl⟩
    rw [hx] at tj hgj g
    cases hb:p x
    ·rw [hb] at g tj
     rw [if_neg (by simp)] at tj
     repeat' (first | ((with_reducible refine brC (fun _=>?_) fun _=>?_) <;> try (exfalso;omega)) | (with_reducible refine PCalls.of g ?_) | (with_reducible refine And.intro ?_ ?_; · omega) | simp -dsimp -implicitDefEqProofs (disch:=omega) only [VCA,Nat.reduceEqDiff,↓reduceIte,reduceCtorEq,Z8,exists_eq_left',Z6,e0,e1,e5,e6,d1,hgj])
     have hKl:K.length<es2.length:=by omega
     have g1:=hg1 K.length (by omega)
     refine ⟨by omega,_,by omega,j+1,es2.set K.length (Z6 x),by omega,by omega,rfl,?_,?_,?_,?_,?_,?_,?_,?_⟩
     ·rw [tj,List.length_append];rfl
     ·omega
     ·have hd1:List.drop 1 (es2.getD K.length [])=[]:=List.drop_eq_nil_of_le (by omega)
      rw [hd1];rfl
     ·rw [List.length_set];exact hl2
     ·rw [tj,List.length_append,List.length_singleton,take_set_snoc hKl,ht2,List.map_append];rfl
     ·intro t h1 h2
      rw [List.getD_eq_getElem?_getD,List.getElem?_set_ne (by omega),<-List.getD_eq_getElem?_getD]
      exact hg2 t (by omega) h2
     ·intro t h1
      by_cases q:K.length=t
      ·subst q
       rw [List.getD_eq_getElem?_getD,List.getElem?_set_self hKl];rfl
      ·rw [List.getD_eq_getElem?_getD,List.getElem?_set_ne q,<-List.getD_eq_getElem?_getD]
       exact hg1 t h1
     ·rw [tj,List.length_append,List.length_singleton];omega
    ·rw [hb] at g tj
     rw [if_pos rfl,List.append_nil] at tj
     repeat' (first | ((with_reducible refine brC (fun _=>?_) fun _=>?_) <;> try (exfalso;omega)) | (with_reducible refine PCalls.of g ?_) | (with_reducible refine And.intro ?_ ?_; · omega) | simp -dsimp -implicitDefEqProofs (disch:=omega) only [VCA,Nat.reduceEqDiff,↓reduceIte,reduceCtorEq,exists_eq_left',Z6,e0,e1,e5,e6,d1,hgj])
     refine ⟨_,by omega,j+1,es2,by omega,by omega,rfl,by rw [tj],by omega,rfl,hl2,by rw [tj];exact ht2,fun t h1 h2=>hg2 t (by omega) h2,hg1,by rw [tj];omega⟩
   ·obtain rfl:j=L.length:=by omega
    have d1:decide ((L.length:Int)<(L.length:Int))=false:=decide_eq_false (by omega)
    rw [List.take_length] at hK
    rw [hK]
    repeat' (first | ((with_reducible refine brC (fun _=>?_) fun _=>?_) <;> try (exfalso;omega)) | (with_reducible refine And.intro ?_ ?_; · omega) | simp -dsimp -implicitDefEqProofs (disch:=omega) only [VCA,Nat.reduceEqDiff,↓reduceIte,reduceCtorEq,exists_eq_left',Z6,e0,e5,e6,d1])
    refine ⟨_,Sub.refl _,_,rfl,?_,?_⟩
    ·rw [List.length_append,List.length_append,List.length_take];omega
    ·rw [List.append_assoc,List.take_append_of_le_length (by rw [List.length_take];omega),List.take_take,Nat.min_self];exact ht2
theorem RefAt.setP {h h2:Q2} {a v:AVal} {l:List HRef} {nv:Nat->AVal} {F:Nat->Prop} (R:RefAt h a l nv F) {i rA:Nat} {es:List (List AVal)} {ns:List Int} (hi:i<l.length) (ha:a=.osl rA 2 0 l.length) (hle:l.length<=es.length) (ht:es.take l.length=ZY l nv)
 (g1:h2 rA=some ⟨.t 87,2,es.set i [.str (nth l i).word,v]⟩) (O:OwnS h2 3 1 (ns.map Z6) v) (M:Mut v) (hv:∀ r,Q9 v=some r->Q9 (nv i)=some r) (g4:∀ t o,h t=some o->Q9 (nv i)≠some t->t≠rA->h2 t=some o) :
 RefAt h2 a (l.set i ⟨(nth l i).word,ns⟩) (fun j=>if j=i then v else nv j) F:=by
 have hset:=rowsR_set l nv i hi ns v
 refine ⟨.inr (.inr ⟨rA,_,by rw [J8,List.length_set,ha],g1,by rw [J8,List.length_set,List.length_set];exact hle,?_⟩),R.mt,R.inF,fun j hj=>?_,fun j1 j2 hj1 hj2 hne r hr=>?_⟩
 ·rw [J8,List.length_set,<-hset,<-ht,List.take_set]
 ·rw [List.length_set] at hj
  rw [K9 _ _ _ _ hi]
  by_cases q:j=i
  ·rw [if_pos q]
   simp only [q,if_true]
   exact ⟨O,M,fun r hr=>(R.num i hi).2.2 r (hv r hr)⟩
  ·rw [if_neg q]
   simp only [if_neg q]
   exact ⟨(R.num j hj).1.keep fun r o hr ho=>g4 r o ho (fun e=>R.two i j hi hj (fun e=>q e.symm) r e hr) (fun e=>((R.num j hj).2.2 r hr).2 (by rw [ha,e];rfl)),(R.num j hj).2.1,(R.num j hj).2.2⟩
 ·rw [List.length_set] at hj1 hj2
  have hr:Q9 (if j1=i then v else nv j1)=some r:=hr
  show Q9 (if j2=i then v else nv j2)≠some r
  have h1:Q9 (nv j1)=some r:=by
   by_cases q:j1=i
   ·rw [if_pos q] at hr;rw [q];exact hv r hr
   ·rw [if_neg q] at hr;exact hr
  by_cases q2:j2=i
  ·rw [if_pos q2]
   exact fun e=>R.two j1 i hj1 hi (fun e2=>hne (e2.trans q2.symm)) r h1 (hv r e)
  ·rw [if_neg q2]
   exact R.two j1 j2 hj1 hj2 hne r h1
theorem rowsR_del (l:List HRef) (nv:Nat->AVal) (k:Nat) (hk:k<l.length):(ZY l nv).take k++(ZY l nv).drop (k+1)=ZY (delR l k) (fun j=>if j<k then nv j else nv (j+1)):=by
 have hl:=delR_len hk
 apply List.ext_getElem?
 intro j
 have hL:=J8 l nv
 by_cases hj:j<(delR l k).length
 ·rw [QU hj]
  unfold rowR
  rw [nth_delR hk]
  by_cases h1:j<k
  ·rw [if_pos h1,List.getElem?_append_left (by rw [List.length_take];omega),List.getElem?_take,if_pos h1,QU (by omega)]
   simp only [if_pos h1];rfl
  ·rw [if_neg h1,List.getElem?_append_right (by rw [List.length_take];omega),List.length_take,List.getElem?_drop,show k+1+(j-min k (ZY l nv).length)=j+1 by omega,QU (by omega)]
   simp only [if_neg h1];rfl
 ·rw [List.getElem?_eq_none (by rw [List.length_append,List.length_take,List.length_drop];omega),List.getElem?_eq_none (by rw [J8];omega)]
theorem RefAt.del {h h2:Q2} {a:AVal} {l:List HRef} {nv:Nat->AVal} {F:Nat->Prop} (R:RefAt h a l nv F) {k rA:Nat} {es es':List (List AVal)} (hk:k<l.length) (ha:a=.osl rA 2 0 l.length) (ht:es.take l.length=ZY l nv)
 (g1:h2 rA=some ⟨.t 87,2,es'⟩) (g2:l.length-1<=es'.length) (g3:es'.take (l.length-1)=es.take k++(es.take l.length).drop (k+1)) (g4:∀ t o,h t=some o->t≠rA->h2 t=some o) :
 RefAt h2 (.osl rA 2 0 (l.length-1)) (delR l k) (fun j=>if j<k then nv j else nv (j+1)) F:=by
 have hl:=delR_len hk
 have hl2:l.length-1=(delR l k).length:=by omega
 have old:∀ j,j<(delR l k).length -> ∃ i,i<l.length/\nth (delR l k) j=nth l i/\(if j<k then nv j else nv (j+1))=nv i/\(j<k->i=j)/\(¬ j<k->i=j+1):=fun j hj=>by
  rw [nth_delR hk]
  by_cases h1:j<k
  ·exact ⟨j,by omega,by rw [if_pos h1],by rw [if_pos h1],fun _=>rfl,fun q=>absurd h1 q⟩
  ·exact ⟨j+1,by omega,by rw [if_neg h1],by rw [if_neg h1],fun q=>absurd q h1,fun _=>rfl⟩
 refine ⟨.inr (.inr ⟨rA,es',by rw [J8,hl2],g1,by rw [J8];omega,?_⟩),(fun es e=>by cases e),fun r hr=>R.inF r (by rw [ha];exact hr),fun j hj=>?_,fun j1 j2 hj1 hj2 hne r hr=>?_⟩
 ·rw [J8,<-hl2,g3,<-rowsR_del l nv k hk,<-ht,List.take_take,Nat.min_eq_left (by omega)]
 ·obtain ⟨i,hi,e1,e2,_⟩:=old j hj
  obtain ⟨n1,n2,n3⟩:=R.num i hi
  rw [e1]
  simp only [e2]
  exact ⟨n1.keep fun r o hr ho=>g4 r o ho fun e=>(n3 r hr).2 (by rw [ha,e];rfl),n2,fun r hr=>⟨(n3 r hr).1,fun e=>(n3 r hr).2 (by rw [ha];exact e)⟩⟩
 ·obtain ⟨i1,a1,_,b1,c1,d1⟩:=old j1 hj1
  obtain ⟨i2,a2,_,b2,c2,d2⟩:=old j2 hj2
  simp only [b1] at hr
  simp only [b2]
  refine R.two i1 i2 a1 a2 (fun e=>hne ?_) r hr
  by_cases q1:j1<k <;> by_cases q2:j2<k
  ·have:=c1 q1;have:=c2 q2;omega
  ·have:=c1 q1;have:=d2 q2;omega
  ·have:=d1 q1;have:=c2 q2;omega
  ·have:=d1 q1;have:=d2 q2;omega
def c54:SFun:=⟨.seq (.reg [o 3 (.mv (.c (.bool false)))]) (.seq (.reg [o 4 (.mv (.t 0)),o 5 (.ld 1 false (.t 1)),o 6 (.bin .eql (.t 4) (.t 5)),o 3 (.mv (.t 6))]) .ret),[.tmp 3]⟩
theorem hc54:Y3 Tryz.prog {} Tryz.f54=some c54:=by kernel_rfl
theorem drop1_ok (m n:Int):PCalls (Pg G) 54 [Q3 m,.pin [Q3 n]] (.bool (m==n)):=fun h=>by
 obtain ⟨b,hb⟩:∃ b,(m==n)=b:=⟨_,rfl⟩
 rw [hb]
 refine Q0 Tryz.func54 (by kernel_rfl) hc54 (by rw [Tryz.ntmps54];simp) (by rw [Tryz.ntmps54];decide) ?_
 simp -dsimp -implicitDefEqProofs (disch:=omega) only [VCA,Nat.reduceEqDiff,↓reduceIte,reduceCtorEq,exists_eq_right,c54,hb]
 exact Sub.refl _
def c26:SFun:=⟨.seq (.reg [o 7 (.boxF 3 1 (.t 3))]) (.seq (.reg [o 12 (.mv (.t 1)),o 13 (.fldA 0 (.t 12)),o 14 (.ld 1 false (.t 13)),o 15 (.mv (.t 2)),o 16 (.call (.c (.fn 52 [] [])) [.t 14,.t 15]),o 11 (.mv (.t 16)),o 17 (.ext (.t 11) 0),o 18 (.ext (.t 11) 1),o 8 (.mv (.t 17)),o 9 (.mv (.t 18))]) (.seq (.seq (.reg [o 19 (.mv (.t 9)),o 20 (.un .not (.t 19))]) (.cond (.t 20) .ret .skip)) (.seq (.reg [o 21 (.mv (.t 1)),o 22 (.fldA 0 (.t 21)),o 23 (.ld 1 false (.t 22)),o 24 (.mv (.t 8)),o 25 (.idxA 2 (.t 23) (.t 24)),o 10 (.mv (.t 25))]) (.seq (.reg [o 26 (.mv (.t 10)),o 27 (.mv (.t 10)),o 28 (.fldA 0 (.t 27)),o 29 (.fldA 1 (.t 28)),o 30 (.ld 1 false (.t 29)),o 31 (.mkf 54 [] [.t 7]),o 32 (.call (.c (.fn 53 [] [])) [.t 30,.t 31]),o 33 (.fldA 0 (.t 26)),o 34 (.fldA 1 (.t 33)),⟨none,.st 1 (.t 34) (.t 32),none⟩]) (.seq (.reg [o 35 (.mv (.t 10)),o 36 (.fldA 0 (.t 35)),o 37 (.fldA 1 (.t 36)),o 38 (.ld 1 false (.t 37)),o 39 (.len (.t 38)),o 40 (.bin .eql (.t 39) (.c (.int .i64 0)))]) (.cond (.t 40) (.reg [o 41 (.mv (.t 1)),o 42 (.mv (.t 1)),o 43 (.fldA 0 (.t 42)),o 44 (.ld 1 false (.t 43)),o 45 (.mv (.t 8)),o 46 (.mv (.t 8)),o 47 (.bin .add (.t 46) (.c (.int .i64 1))),o 48 (.call (.c (.fn 55 [] [])) [.t 44,.t 45,.t 47]),o 49 (.fldA 0 (.t 41)),⟨none,.st 1 (.t 49) (.t 48),none⟩]) .skip)))))),[]⟩
theorem hc26:Y3 Tryz.prog {} Tryz.f26=some c26:=by kernel_rfl
theorem drop_ok {h:Q2} {rk rM c:Nat} {As:List AVal} {a:AVal} {l:List HRef} {nv:Nat->AVal} {F:Nat->Prop} {w:List UInt8} {n:Int} (hk:h rk=some (kpO As rM)) (hAl:As.length=4) (hc:c<4) (ha:As[c]? = some a)
 (R:RefAt h a l nv F) (hFk:¬ F rk) (hl:l.length<=99999) (hR:Rise l) (hn:∀ j,j<l.length->(nth l j).nodes≠[]/\(nth l j).nodes.length<=99999) :
 DCalls (Pg G) 26 [.vp rk 0,.vp rk c,.str w,Q3 n] h fun _ h'=>∃ a' nv' F',h' rk=some (kpO (As.set c a') rM)/\RefAt h' a' (dropL l w n) nv' F'/\(∀ r,F' r->F r\/h r=none) /\ ∀ t o,h t=some o->¬ F t->t≠rk->h' t=some o:=by
 have hk':h rk=some ⟨.t 61,5,[As++[.mpr rM]]⟩:=hk
 obtain ⟨k,hkk⟩:∃ k,kOf l w=k:=⟨_,rfl⟩
 have hFd:=ixFind_ok (G:=G) (n:=l.length) (k:=k) (W:=fun j=>(nth l j).word) (nv:=nv) w (by omega) (by rw [<-hkk];exact kOf_le l w) R.lst (fun j hj=>kOf_lt (by omega)) (fun j h1 h2=>kOf_ge hR (by omega) h2)
 have hdrop:List.drop c (As++[.mpr rM])=a :: List.drop (c+1) (As++[.mpr rM]):=by
  have h1:(As++[AVal.mpr rM])[c]? = some a:=by rw [List.getElem?_append_left (by omega)];exact ha
  have h2:=(List.getElem?_eq_some_iff.1 h1)
  rw [List.drop_eq_getElem_cons h2.1,h2.2]
 have hlen:c+1<=(As++[AVal.mpr rM]).length:=by rw [List.length_append,List.length_singleton];omega
 have hset:As.set c a=As:=by
  apply List.ext_getElem?
  intro j
  rw [List.getElem?_set]
  split
  ·rename_i e;subst e;rw [if_pos (by omega),ha]
  ·rfl
 by_cases hfd:k<l.length/\(nth l k).word=w
 ·have d1:decide (k<l.length/\(nth l k).word=w)=true:=decide_eq_true hfd
  rw [d1] at hFd
  obtain ⟨hkl,hkw⟩:=hfd
  have hp:dropL l w n=(if (nth l k).nodes.filter (fun m=>!(m==n))=[] then delR l k else l.set k ⟨w,(nth l k).nodes.filter fun m=>!(m==n)⟩):=by unfold dropL;rw [hkk,if_pos ⟨hkl,hkw⟩]
  rw [hp]
  obtain ⟨hne,hnl⟩:=hn k hkl
  obtain ⟨O,M,hF⟩:=R.num k hkl
  rcases R.own.live R.mt with ⟨h1,_⟩ | ⟨rA,es,rfl,hA,hle,ht⟩
  ·have:=J8 l nv;rw [h1] at this;simp at this;omega
  rcases O.live M with ⟨h1,_⟩ | ⟨rN,esN,hv,hN,hleN,htN⟩
  ·exact absurd (List.map_eq_nil_iff.1 h1) hne
  rw [J8] at hle ht R hdrop ha hset hFd
  rw [List.length_map] at hv hleN htN
  obtain ⟨ns,hns⟩:∃ ns,(nth l k).nodes=ns:=⟨_,rfl⟩
  rw [hns] at hv hleN htN hne hnl ⊢
  have hrow:es.getD k []=[.str w,.osl rN 1 0 ns.length]:=by
   have h5:(es.take l.length)[k]? = some (rowR l nv k):=by rw [ht];exact QU hkl
   rw [List.getElem?_take,if_pos hkl] at h5
   rw [List.getD_eq_getElem?_getD,h5]
   unfold rowR
   rw [hkw,hv];rfl
  have hNA:rN≠rA:=fun e=>(hF rN (by rw [hv];rfl)).2 (by rw [e];rfl)
  have hNF:F rN:=(hF rN (by rw [hv];rfl)).1
  have hAF:F rA:=R.inF rA rfl
  have hNk:rN≠rk:=fun e=>hFk (by rw [<-e];exact hNF)
  have hAk:rA≠rk:=fun e=>hFk (by rw [<-e];exact hAF)
  have cD:=delF_ok (G:=G) hN hleN htN (by omega) 54 [] [.pin [Q3 n]] (fun m=>m==n) fun m=>drop1_ok m n
  obtain ⟨fs,hfs⟩:∃ fs,(ns.filter fun m=>!(m==n))=fs:=⟨_,rfl⟩
  rw [hfs] at cD ⊢
  refine Q0 Tryz.func26 (by kernel_rfl) hc26 (by rw [Tryz.ntmps26];simp) (by rw [Tryz.ntmps26];decide) ?_
  simp -dsimp -implicitDefEqProofs (disch:=omega) only [VCA,Nat.reduceEqDiff,Nat.reduceLT,↓reduceIte,ne_eq,exists_eq_left',c26,hk',hdrop]
  refine ⟨hlen,DCalls.of hFd ?_⟩
  rintro v h1 ⟨rfl,rfl⟩
  repeat' (first | ((with_reducible refine brC (fun _=>?_) fun _=>?_) <;> try (exfalso;omega)) | (with_reducible refine And.intro ?_ ?_; · omega) | simp -dsimp -implicitDefEqProofs (disch:=omega) only [VCA,Nat.reduceEqDiff,Nat.reduceAdd,Nat.reduceLT,↓reduceIte,exists_eq_left',hk',hdrop,hA,hrow])
  refine DCalls.of cD ?_
  rintro v h' ⟨rfl,es',e2,hle',ht'⟩
  have hN2:h' rN=some ⟨.t 3,1,es'⟩:=by rw [e2,Q5]
  have k2:∀ t o,h1 t=some o->t≠rN->h' t=some o:=fun t o q q2=>by rw [e2,Q4 _ _ q2];exact q
  clear e2
  have hA2:=k2 _ _ hA (fun e=>hNA e.symm)
  have hk2:=k2 _ _ hk' (fun e=>hNk e.symm)
  have hkE:k<es.length:=by omega
  have hg2:(es.set k [.str w,.osl rN 1 0 fs.length]).getD k []=[.str w,.osl rN 1 0 fs.length]:=by rw [List.getD_eq_getElem?_getD,List.getElem?_set_self hkE];rfl
  have hs2:(es.set k [.str w,.osl rN 1 0 fs.length]).length=es.length:=List.length_set
  have hkA:¬ rk=rA:=fun e=>hAk e.symm
  obtain ⟨h3,e3⟩:∃ h3,upd h' rA (some ⟨.t 87,2,es.set k [.str w,.osl rN 1 0 fs.length]⟩)=h3:=⟨_,rfl⟩
  have h3A:h3 rA=some ⟨.t 87,2,es.set k [.str w,.osl rN 1 0 fs.length]⟩:=by rw [<-e3,Q5]
  have k3:∀ t o,h' t=some o->t≠rA->h3 t=some o:=fun t o q q2=>by rw [<-e3,Q4 _ _ q2];exact q
  have h3k:=k3 _ _ hk2 hkA
  have R3:=R.setP (h2:=h3) (v:=.osl rN 1 0 fs.length) (ns:=fs) hkl rfl hle ht (by rw [h3A,hkw]) (.inr (.inr ⟨rN,es',by rw [List.length_map],k3 _ _ hN2 hNA,by rw [List.length_map];exact hle',by rw [List.length_map];exact ht'⟩)) (fun es e=>by cases e) (fun r e=>by rw [hv];exact e)
   (fun t o q q1 q2=>k3 _ _ (k2 t o q (fun e=>q1 (by rw [hv,e];rfl))) q2)
  have kF:∀ t o,h1 t=some o->¬ F t->h3 t=some o:=fun t o q1 q2=>k3 _ _ (k2 t o q1 (fun e=>q2 (by rw [e];exact hNF))) (fun e=>q2 (by rw [e];exact hAF))
  by_cases hf0:fs=[]
  ·have b0:((fs.length:Int)==0)=true:=by rw [hf0];rfl
   have cR:=deleteR_ok (G:=G) (n:=l.length) (i:=k) (j:=k+1) h3A (by rw [List.length_set];omega) (by omega) (by omega) (by omega)
   rw [show ((k+1:Nat):Int)=(k:Int)+1 from rfl,<-e3] at cR
   repeat' (first | ((with_reducible refine brC (fun _=>?_) fun _=>?_) <;> try (exfalso;omega)) | (with_reducible refine And.intro ?_ ?_; · omega) | simp -dsimp -implicitDefEqProofs (disch:=omega) only [VCA,Nat.reduceEqDiff,Nat.reduceAdd,Nat.reduceLT,↓reduceIte,Z8,exists_eq_left',hA2,hrow,hkA,hk2,hdrop,b0,hg2,hs2])
   refine DCalls.of cR ?_
   rintro v h4 ⟨rfl,es4,e4,hle4,ht4⟩
   rw [e3] at e4
   have hk4:h4 rk=some ⟨.t 61,5,[As++[.mpr rM]]⟩:=by rw [e4,Q4 _ _ hkA];exact h3k
   have hcell:∀ v:AVal,List.take c (As++[.mpr rM])++[v]++List.drop (c+1) (As++[.mpr rM])=As.set c v++[.mpr rM]:=fun v=>by
    rw [List.take_append_of_le_length (by omega),List.drop_append_of_le_length (by omega),List.set_eq_take_append_cons_drop,if_pos (by omega)]
    simp
   rw [show l.length-(k+1-k)=l.length-1 by omega] at hle4 ht4
   rw [show l.length-(k+1-k)=l.length-1 by omega]
   repeat' (first | ((with_reducible refine brC (fun _=>?_) fun _=>?_) <;> try (exfalso;omega)) | (with_reducible refine And.intro ?_ ?_; · omega) | simp -dsimp -implicitDefEqProofs (disch:=omega) only [VCA,Nat.reduceEqDiff,Nat.reduceLT,↓reduceIte,Z8,exists_eq_left',hk4,hcell])
   have hll:(l.set k (⟨(nth l k).word,fs⟩:HRef)).length=l.length:=List.length_set
   rw [if_pos hf0]
   have hD:=R3.del (h2:=h4) (k:=k) (by omega) (by rw [hll]) (es:=es.set k [.str w,.osl rN 1 0 fs.length]) (es':=es4)
    (by rw [hll,List.take_set,ht,<-hkw];exact rowsR_set l nv k hkl fs _) (by rw [e4,Q5]) (by omega) (by rw [hll];exact ht4) (fun t o q q2=>by rw [e4,Q4 _ _ q2];exact q)
   rw [hll] at hD
   have hdr:delR (l.set k (⟨(nth l k).word,fs⟩:HRef)) k=delR l k:=by
    unfold delR;rw [List.take_set_of_le (Nat.le_refl k),List.drop_set_of_lt (Nat.lt_succ_self k)]
   rw [hdr] at hD
   exact ⟨_,Sub.refl _,.osl rA 2 0 (l.length-1),_,F,Q5 _ _ _,hD.keep fun r o hr ho=>by rw [Q4 _ _ (fun e=>hFk (by rw [<-e];exact hr))];exact ho,fun r q=>.inl q,fun t o q1 q2 q3=>by
    rw [Q4 _ _ q3,e4,Q4 _ _ (fun e=>q2 (by rw [e];exact hAF))];exact kF t o q1 q2⟩
  ·have b0:((fs.length:Int)==0)=false:=by simpa using hf0
   repeat' (first | ((with_reducible refine brC (fun _=>?_) fun _=>?_) <;> try (exfalso;omega)) | (with_reducible refine And.intro ?_ ?_; · omega) | simp -dsimp -implicitDefEqProofs (disch:=omega) only [VCA,Nat.reduceEqDiff,Nat.reduceAdd,↓reduceIte,Z8,exists_eq_left',hA2,hrow,b0,hg2,hs2])
   rw [e3,if_neg hf0]
   rw [hkw] at R3
   exact ⟨_,Sub.refl _,.osl rA 2 0 l.length,_,F,by rw [hset];exact h3k,R3,fun r q=>.inl q,fun t o q1 q2 q3=>kF t o q1 q2⟩
 ·have d1:decide (k<l.length/\(nth l k).word=w)=false:=decide_eq_false hfd
  have hp:dropL l w n=l:=by unfold dropL;rw [hkk,if_neg hfd]
  rw [hp]
  rw [d1] at hFd
  refine Q0 Tryz.func26 (by kernel_rfl) hc26 (by rw [Tryz.ntmps26];simp) (by rw [Tryz.ntmps26];decide) ?_
  simp -dsimp -implicitDefEqProofs (disch:=omega) only [VCA,Nat.reduceEqDiff,Nat.reduceLT,↓reduceIte,ne_eq,exists_eq_left',c26,hk',hdrop]
  refine ⟨hlen,DCalls.of hFd ?_⟩
  rintro v h1 ⟨rfl,rfl⟩
  repeat' (first | ((with_reducible refine brC (fun _=>?_) fun _=>?_) <;> try (exfalso;omega)) | (with_reducible refine And.intro ?_ ?_; · omega) | simp -dsimp -implicitDefEqProofs (disch:=omega) only [VCA,Nat.reduceEqDiff,Nat.reduceAdd,Nat.reduceLT,↓reduceIte])
  exact ⟨_,Sub.refl _,a,nv,F,by rw [hset];exact hk,R,fun r q=>.inl q,fun t o q _ _=>q⟩
def KL (h0 h:Q2) (rk rM:Nat) (es:List (Int×Int)) (L:Nat->List HRef):Prop:=∃ As Ls nvs Fs,KS h0 h rk rM es As Ls nvs Fs /\ ∀ c,c<4->nth Ls c=L c
theorem KL.congr {h0 h:Q2} {rk rM:Nat} {es:List (Int×Int)} {L L':Nat->List HRef} (X:KL h0 h rk rM es L) (hq:∀ c,c<4->L c=L' c):KL h0 h rk rM es L':=by
 obtain ⟨As,Ls,nvs,Fs,S,hQ⟩:=X
 exact ⟨As,Ls,nvs,Fs,S,fun c hc=>by rw [hQ c hc,hq c hc]⟩
theorem KL.next {h0 h h':Q2} {rk rM:Nat} {es:List (Int×Int)} {As:List AVal} {Ls:List (List HRef)} {nvs:Nat->Nat->AVal} {Fs:Nat->Nat->Prop} {L:Nat->List HRef} (S:KS h0 h rk rM es As Ls nvs Fs) (hQ:∀ c,c<4->nth Ls c=L c) {c:Nat} (hc:c<4) {a':AVal} {l':List HRef} {nv':Nat->AVal} {F':Nat->Prop}
 (p1:h' rk=some (kpO (As.set c a') rM)) (p2:RefAt h' a' l' nv' F') (p3:∀ r,F' r->Fs c r\/h r=none) (p4:∀ t o,h t=some o->¬ Fs c t->t≠rk->h' t=some o):KL h0 h' rk rM es fun d=>if d=c then l' else L d:=by
 refine ⟨_,_,_,_,S.put hc p1 p2 p3 p4,fun d hd=>?_⟩
 rw [K9 _ _ _ _ (by rw [S.llen];exact hc)]
 by_cases e:d=c
 ·rw [if_pos e];simp only [if_pos e]
 ·rw [if_neg e];simp only [if_neg e];exact hQ d hd
theorem putG_ok {h0 h:Q2} {rk rM:Nat} {es:List (Int×Int)} {L:Nat->List HRef} (X:KL h0 h rk rM es L) {c:Nat} (hc:c<4) {P:List UInt8->Int->Prop} (I:SpecM (L c) P (rkI es)) (hl:(L c).length<=99999) (hn:∀ j,j<(L c).length->(nth (L c) j).nodes.length<=99999) {w:List UInt8} {n:Int} :
 DCalls (Pg G) 27 [.vp rk 0,.vp rk c,.str w,Q3 n] h fun _ h'=>KL h0 h' rk rM es fun d=>if d=c then putG (rkI es) (L c) w n else L d:=by
 obtain ⟨As,Ls,nvs,Fs,S,hQ⟩:=X
 obtain ⟨a,ha,R⟩:=S.ref c hc
 rw [hQ c hc] at R
 refine (put_ok (G:=G) (w:=w) (n:=n) (k:=kOf (L c) w) (q:=qOf (rkI es) (nth (L c) (kOf (L c) w)).nodes n) S.kp S.len hc ha S.mp R (fun h=>(S.dom c rk hc h).2.2.1 rfl) (fun h=>(S.dom c rM hc h).2.2.2 rfl) hl (kOf_le _ w) (fun j hj=>kOf_lt hj) (fun j h1 h2=>kOf_ge I.rise h1 h2)
  fun h1 h2=>⟨hn _ h1,qOf_le _ _ _,fun j hj=>qOf_lt hj,fun j g1 g2=>qOf_ge (I.row _ h1).2.1 g1 g2⟩).mono fun r h' hp=>?_
 obtain ⟨a',nv',F',p1,p2,p3,p4⟩:=hp
 exact KL.next S hQ hc p1 p2 p3 p4
theorem dropG_ok {h0 h:Q2} {rk rM:Nat} {es:List (Int×Int)} {L:Nat->List HRef} (X:KL h0 h rk rM es L) {c:Nat} (hc:c<4) {P:List UInt8->Int->Prop} {rf:Int->Int} (I:SpecM (L c) P rf) (hl:(L c).length<=99999) (hn:∀ j,j<(L c).length->(nth (L c) j).nodes.length<=99999) {w:List UInt8} {n:Int} :
 DCalls (Pg G) 26 [.vp rk 0,.vp rk c,.str w,Q3 n] h fun _ h'=>KL h0 h' rk rM es fun d=>if d=c then dropL (L c) w n else L d:=by
 obtain ⟨As,Ls,nvs,Fs,S,hQ⟩:=X
 obtain ⟨a,ha,R⟩:=S.ref c hc
 rw [hQ c hc] at R
 refine (drop_ok (G:=G) (w:=w) (n:=n) S.kp S.len hc ha R (fun h=>(S.dom c rk hc h).2.2.1 rfl) hl I.rise fun j hj=>⟨(I.row j hj).1,hn j hj⟩).mono fun r h' hp=>?_
 obtain ⟨a',nv',F',p1,p2,p3,p4⟩:=hp
 exact KL.next S hQ hc p1 p2 p3 p4
theorem turnK_ok {h0 h:Q2} {rk rM f:Nat} {es:List (Int×Int)} {L:Nat->List HRef} (op:List HRef->List UInt8->List HRef) (opW:List (List UInt8)->List HRef->List HRef) (o0:∀ l,opW [] l=l) (o1:∀ W w l,opW (W++[w]) l=op (opW W l) w)
 (X:KL h0 h rk rM es L) (x:HNode) (hx:NodeSm x) (hs:(YW x.attrs ZJ).length<=1000000) (hW:WOK (J7 x)) (n:Int)
 (hstep:∀ c k h',c<4->k<(nth (J7 x) c).length -> ∀ L',KL h0 h' rk rM es L'->L' c=opW ((nth (J7 x) c).take k) (L c)->DCalls (Pg G) f [.vp rk 0,.vp rk c,.str (nth (nth (J7 x) c) k),Q3 n] h' fun _ h2=>KL h0 h2 rk rM es fun d=>if d=c then op (L' c) (nth (nth (J7 x) c) k) else L' d) :
 DCalls (Pg G) 25 [.vp rk 0,.agg (Q7 x),Q3 n,.fn f [.vp rk 0] []] h fun _ h'=>KL h0 h' rk rM es fun d=>opW (nth (J7 x) d) (L d):=by
 refine (turnG_ok (G:=G) (f:=f) x hx hs hW n (fun c k h'=>KL h0 h' rk rM es fun d=>if d<c then opW (nth (J7 x) d) (L d) else if d=c then opW ((nth (J7 x) d).take k) (L d) else L d) (X.congr fun d hd=>?_) (fun c k h' hc hk Y=>?_) fun c h' hc Y=>?_).mono fun _ h' Y=>Y.congr fun d hd=>by rw [if_pos hd]
 ·rw [if_neg (Nat.not_lt_zero d)]
  split
  ·rename_i e;rw [List.take_zero,o0]
  ·rfl
 ·refine (hstep c k h' hc hk _ Y (by rw [if_neg (Nat.lt_irrefl c),if_pos rfl])).mono fun _ h2 Z=>Z.congr fun d hd=>?_
  by_cases e:d=c
  ·subst e
   rw [if_pos rfl,if_neg (Nat.lt_irrefl d),if_pos rfl,if_neg (Nat.lt_irrefl d),if_pos rfl,X1 hk,o1]
  ·rw [if_neg e,if_neg e]
   by_cases e2:d<c
   ·rw [if_pos e2,if_pos e2]
   ·rw [if_neg e2,if_neg e2,if_neg e]
 ·refine Y.congr fun d hd=>?_
  by_cases e:d<c
  ·rw [if_pos e,if_pos (by omega)]
  ·by_cases e2:d=c
   ·subst e2
    rw [if_neg e,if_pos rfl,if_pos (by omega),List.take_length]
   ·rw [if_neg e,if_neg e2,if_neg (by omega)]
    split
    ·rw [List.take_zero,o0]
    ·rfl
section
variable {h0 h:Q2} {rk rM:Nat} {es:List (Int×Int)} {As:List AVal} {Ls:List (List HRef)} {nvs:Nat->Nat->AVal} {Fs:Nat->Nat->Prop}
theorem KS.grow (S:KS h0 h rk rM es As Ls nvs Fs) {r:Nat} (hr:h r=none) (o:AObj):KS h0 (upd h r (some o)) rk rM es As Ls nvs Fs:=by
 have ne:∀ {t o'},h t=some o'->t≠r:=fun q e=>by rw [e,hr] at q;cases q
 refine ⟨S.len,S.llen,by rw [Q4 _ _ (ne S.kp)];exact S.kp,by rw [Q4 _ _ (ne S.mp)];exact S.mp,S.k0,S.m0,fun c hc=>?_,fun c t hc ht=>?_,S.apart,S.sub.upd (S.sub.none hr)⟩
 ·obtain ⟨a,g1,g2⟩:=S.ref c hc
  exact ⟨a,g1,g2.keep fun t o' _ ho=>by rw [Q4 _ _ (ne ho)];exact ho⟩
 ·obtain ⟨g1,g2⟩:=S.dom c t hc ht
  refine ⟨fun e=>?_,g2⟩
  cases ho:h t with
  | none=>exact g1 ho
  | some o'=>rw [Q4 _ _ (ne ho),ho] at e;cases e
theorem KS.add (S:KS h0 h rk rM es As Ls nvs Fs) {r:Nat} (hr:h r=none) (o:AObj):KS (upd h0 r (some o)) (upd h r (some o)) rk rM es As Ls nvs Fs:=by
 have T:=S.grow hr o
 have ne:∀ {t o'},h t=some o'->t≠r:=fun q e=>by rw [e,hr] at q;cases q
 refine ⟨T.len,T.llen,T.kp,T.mp,by rw [Q4 _ _ (ne S.kp)];exact S.k0,by rw [Q4 _ _ (ne S.mp)];exact S.m0,T.ref,fun c t hc ht=>?_,T.apart,fun t o' q=>?_⟩
 ·obtain ⟨g1,g2,g3⟩:=T.dom c t hc ht
  refine ⟨g1,?_,g3⟩
  have:t≠r:=fun e=>by
   have:=(S.dom c t hc ht).1
   rw [e,hr] at this;exact this rfl
  rw [Q4 _ _ this];exact g2
 ·by_cases e:t=r
  ·subst e;rw [Q5] at q ⊢; exact q
  ·rw [Q4 _ _ e] at q ⊢; exact S.sub _ _ q
theorem KS.rank (S:KS h0 h rk rM es As Ls nvs Fs) {rM2:Nat} {es2:List (Int×Int)} (hM:h rM2=some ⟨.m 58 (eM es2),1,[]⟩) (hM0:h0 rM2=none) (hF:∀ c r,c<4->Fs c r->r≠rM2):KS h0 (upd h rk (some (kpO As rM2))) rk rM2 es2 As Ls nvs Fs:=by
 have hne:rM2≠rk:=fun e=>by rw [e,S.kp] at hM;cases hM
 refine ⟨S.len,S.llen,Q5 _ _ _,by rw [Q4 _ _ hne];exact hM,S.k0,hM0,fun c hc=>?_,fun c t hc ht=>?_,S.apart,S.sub.upd S.k0⟩
 ·obtain ⟨a,g1,g2⟩:=S.ref c hc
  exact ⟨a,g1,g2.keep fun t o' ht ho=>by rw [Q4 _ _ (S.dom c t hc ht).2.2.1];exact ho⟩
 ·obtain ⟨g1,g2,g3,g4⟩:=S.dom c t hc ht
  exact ⟨by rw [Q4 _ _ g3];exact g1,g2,g3,hF c t hc ht⟩
end
theorem KL.add {h0 h:Q2} {rk rM:Nat} {es:List (Int×Int)} {L:Nat->List HRef} (X:KL h0 h rk rM es L) {r:Nat} (hr:h r=none) (o:AObj):KL (upd h0 r (some o)) (upd h r (some o)) rk rM es L:=by
 obtain ⟨As,Ls,nvs,Fs,S,hQ⟩:=X
 exact ⟨As,Ls,nvs,Fs,S.add hr o,hQ⟩
theorem KL.sub {h0 h:Q2} {rk rM:Nat} {es:List (Int×Int)} {L:Nat->List HRef} (X:KL h0 h rk rM es L):Sim.Sub h0 h:=by
 obtain ⟨As,Ls,nvs,Fs,S,hQ⟩:=X
 exact S.sub
theorem sub_len {α:Type} [DecidableEq α]:∀ {l m:List α},l.Nodup->(∀ x∈l,x∈m)->l.length<=m.length
 | [],_,_,_=>Nat.zero_le _
 | x :: l,m,hn,h=>by
   have hn':=List.nodup_cons.1 hn
   have hx:=h x List.mem_cons_self
   have:=sub_len (l:=l) (m:=m.erase x) hn'.2 fun y hy=>(List.mem_erase_of_ne (fun e=>hn'.1 (by rw [<-e];exact hy))).2 (h y (List.mem_cons_of_mem _ hy))
   rw [List.length_erase_of_mem hx] at this
   have:=List.length_pos_of_mem hx
   rw [List.length_cons];omega
theorem flat_len {f:Int->List (List UInt8)} {k:Nat}:∀ {l:List Int},(∀ n∈l,(f n).length<=k)->(l.flatMap f).length<=l.length*k
 | [],_=>Nat.zero_le _
 | n :: l,h=>by
   have h1:=flat_len (l:=l) fun m hm=>h m (List.mem_cons_of_mem _ hm)
   have h2:=h n List.mem_cons_self
   rw [List.flatMap_cons,List.length_append,List.length_cons,Nat.succ_mul];omega
theorem SpecM.rows {L:List HRef} {P:List UInt8->Int->Prop} {rk:Int->Int} (S:SpecM L P rk) {d:HDoc} (V:DV d) {l:List Int} (hl:∀ n∈l,inD d n) (hn:l.Nodup) {c:Nat} (hc:c<4) (hP:∀ w n,P w n->n∈l/\w∈nth (J7 (nd d n)) c) :
 L.length<=99999 /\ ∀ j,j<L.length->(nth L j).nodes.length<=99999:=by
 have hl200:l.length<=200:=by
  have h1:=YK d.nodes.length l hn fun x hx=>hl x hx
  have:=V.len
  omega
 constructor
 ·have hW:(L.map (·.word)).Nodup:=by
   rw [List.nodup_iff_pairwise_ne,List.pairwise_map]
   exact S.rise.imp fun {x y} h e=>by rw [e,YQ] at h;cases h
  have h1:=sub_len (m:=l.flatMap fun n=>nth (J7 (nd d n)) c) hW fun w hw=>by
   obtain ⟨x,hx,rfl⟩:=List.mem_map.1 hw
   obtain ⟨j,hj,rfl⟩:=QY hx
   obtain ⟨r1,r2,r3⟩:=S.row j hj
   obtain ⟨n,hn⟩:=List.exists_mem_of_ne_nil _ r1
   have:=hP _ _ ((r3 n).1 hn)
   exact List.mem_flatMap.2 ⟨n,this.1,this.2⟩
  have h2:=flat_len (k:=420) (f:=fun n=>nth (J7 (nd d n)) c) (l:=l) fun n hn=>(KZ V (hl n hn)).le c hc
  rw [List.length_map] at h1
  have:l.length*420<=200*420:=Nat.mul_le_mul_right _ hl200
  omega
 ·intro j hj
  obtain ⟨r1,r2,r3⟩:=S.row j hj
  have hN:(nth L j).nodes.Nodup:=by
   rw [List.nodup_iff_pairwise_ne]
   exact r2.imp fun {x y} h e=>by rw [e] at h;omega
  have:=sub_len hN fun n hn=>(hP _ _ ((r3 n).1 hn)).1
  omega
theorem listsP_ok (a b c d:AVal):PCalls (Pg G) 19 [.pin [a,b,c,d]] (.slc [[.pin [a,b,c,d]],[.pin [b,c,d]],[.pin [c,d]],[.pin [d]]]):=fun h=>by
 refine Q0 Tryz.func19 hn19 hc19 (by rw [Tryz.ntmps19];simp) (by rw [Tryz.ntmps19];decide) ?_
 simp -dsimp -implicitDefEqProofs (disch:=omega) only [VCA,Nat.reduceEqDiff,↓reduceIte,reduceCtorEq,Y8,Z0,Z7,exists_eq_right,J1,c19]
 first | exact Sub.refl _ | exact ⟨Sub.refl _,rfl⟩ | trace_state
end Go.Proofs.K
end
section
set_option linter.unusedSimpArgs false
set_option linter.unusedVariables false
namespace Go.Proofs.K
open Go Go.Sim Go.Proofs
variable {G:YZ}
theorem edited_ok (d:HDoc) (V:DV d) (sm:DocSm d) (e:HEdit) (he:EditSm e):PCalls (Pg G) 9 [.agg (Q8 d),.agg (Z4 e)] (edR d e):=PCalls.outV fun h=>by
 have hE:=editErr_ok (G:=G) d V sm e he
 unfold Z4 Q8 at hE
 have hCp:=copyDoc_ok (G:=G) d sm
 unfold Q8 at hCp
 show DCalls _ _ _ h (EdK d e h)
 refine Q0 Tryz.func9 (by kernel_rfl) hc9 (by rw [Tryz.ntmps9];simp) (by rw [Tryz.ntmps9];decide) ?_
 simp -dsimp -implicitDefEqProofs (disch:=omega) only [VCA,Nat.reduceEqDiff,Nat.reduceAdd,↓reduceIte,Q8,c9,Z4]
 intro r4 hr4
 refine pcallE.of (hE) ?_;simp -dsimp -implicitDefEqProofs (disch:=omega) only [VCA,↓reduceIte]
 refine Br.ne (fun h0=>?_) (fun h0=>?_)
 ·have aE:=apply_err V h0
  have aD:V7 d e=JU:=by unfold V7;rw [aE,if_neg h0]
  have aN:UK d e=0:=by unfold UK;rw [aE,if_neg h0]
  simp -dsimp -implicitDefEqProofs (disch:=omega) only [VCA,Nat.reduceEqDiff,Nat.reduceAdd,Nat.reduceLT,↓reduceIte,K8,X3,Z8,exists_eq_left']
  refine ⟨_,Sub.refl _,(Sub.refl h).upd hr4,?_⟩
  unfold edR
  rw [aD,aN,aE]
  exact .tup' (.cons (vw_noDoc _) (.cons (.refl _) (.cons (.refl _) .nil)))
 ·simp -dsimp -implicitDefEqProofs (disch:=omega) only [VCA,Nat.reduceEqDiff,Nat.reduceAdd,↓reduceIte]
  refine DCalls.of (hCp _) ?_
  rintro a h2 ⟨b,rfl,F,S⟩
  have S4:∀ x,Sub h (upd h r4 (some x)):=fun x=>(Sub.refl h).upd hr4
  have n4:Q9 b≠some r4:=fun e=>by have:=F.new _ e;rw [Q5] at this;cases this
  have F':Fresh h h2 31 6 (d.nodes.map Q7) b:=⟨F.acc.mono (S4 _)⟩
  have g4:=S _ _ (Q5 _ _ _)
  simp -dsimp -implicitDefEqProofs (disch:=omega) only [VCA,Nat.reduceEqDiff,Nat.reduceAdd,Nat.reduceLT,↓reduceIte,Z8,exists_eq_left']
  intro r8 hr8
  have n8:Q9 b≠some r8:=fun e=>by
   obtain ⟨o,ho⟩:=F.own.root e
   rw [ho] at hr8;cases hr8
  have n48:r4≠r8:=fun e=>by rw [<-e,g4] at hr8;cases hr8
  have Sh:Sub h h2:=(S4 _).trans S
  have h8:h r8=none:=Sh.none hr8
  have F2:∀ y,Fresh h (upd h2 r8 (some y)) 31 6 (d.nodes.map Q7) b:=fun y=>F'.keep fun r o hr ho=>by rw [Q4 _ _ (fun e=>n8 (by rw [hr,e]))];exact ho
  by_cases c4:e.do'=4
  ·exact edited_make V sm he h0 c4 (Sh.upd h8) (F2 _) hr4 h8 (by rw [Q4 _ _ n48];exact g4) (Q5 _ _ _) n4 n8 n48 rfl rfl rfl
  ·exact edited_else V sm he h0 c4 (Sh.upd h8) (F2 _) hr4 h8 (by rw [Q4 _ _ n48];exact g4) (Q5 _ _ _) n4 n8 n48 rfl rfl rfl rfl
theorem apply_sm {d:HDoc} (sm:DocSm d) {e:HEdit} (he:EditSm e):DocSm (V7 d e):=by
 by_cases h0:K3 d e=0
 ·have aD:V7 d e=J6 d e:=by unfold V7;rw [if_pos h0]
  rw [aD]
  unfold K3 at h0
  by_cases h1:YU d=0
  ·rw [if_neg (by simpa using h1)] at h0
   have V:=(WY d).1 h1
   refine edit_sm V sm he (Classical.byContradiction fun h=>?_)
   rw [(editE_errR V e).1 h] at h0
   exact h h0
  ·rw [if_pos h1] at h0;exact absurd h0 h1
 ·have aD:V7 d e=JU:=by unfold V7;rw [if_neg h0]
  rw [aD];exact ⟨by decide,fun x hx=>by cases hx⟩
theorem ranks_pw {l:List Int} {es:List (Int×Int)} (hf:∀ i,i<l.length->UQ es (nth l i)=some (i:Int)):l.Pairwise fun a b=>rkI es a<rkI es b:=by
 rw [List.pairwise_iff_getElem]
 intro i j hi hj hij
 have h1:=hf i hi
 have h2:=hf j hj
 rw [show nth l i=l[i] from Option.some.inj ((J5 hi).symm.trans (List.getElem?_eq_getElem hi))] at h1
 rw [show nth l j=l[j] from Option.some.inj ((J5 hj).symm.trans (List.getElem?_eq_getElem hj))] at h2
 unfold rkI
 rw [h1,h2]
 show (i:Int)<(j:Int)
 omega
theorem applyE_0 {d:HDoc} (V:DV d) {e:HEdit} (h:K3 d e=0):JK d e=0/\V4 d e=0/\V7 d e=J6 d e/\DV (J6 d e):=by
 have aD:V7 d e=J6 d e:=by unfold V7;rw [if_pos h]
 have h1:V4 d e=0:=by
  unfold K3 at h
  rw [if_neg (by simpa using (WY d).2 V)] at h;exact h
 have h0:JK d e=0:=by
  refine Classical.byContradiction fun hc=>?_
  rw [(editE_errR V e).1 hc] at h1;exact hc h1
 exact ⟨h0,h1,aD,(edit_DV V e h0).2 h1⟩
theorem errR_0 {d:HDoc} {e:HEdit} (h0:JK d e=0):(e.do'=1\/e.do'=2\/e.do'=5\/e.do'=6->inD d e.at')/\(e.do'=5->inD d e.into):=by
 refine ⟨fun h=>Classical.byContradiction fun hc=>?_,fun h=>Classical.byContradiction fun hc=>?_⟩
 ·rw [errR_in (by omega) (by omega) (by omega) (.inl hc)] at h0;omega
 ·rw [errR_in (by omega) (by omega) (by omega) (.inr ⟨h,hc⟩)] at h0;omega
theorem tcM_in {d:HDoc} (V:DV d) {e:HEdit} (h0:JK d e=0):(∀ m∈tcM d e,inD d m)/\(tcM d e).Nodup:=by
 obtain ⟨q1,q2⟩:=errR_0 h0
 unfold tcM
 by_cases c1:e.do'=1\/e.do'=2
 ·rw [if_pos c1]
  exact ⟨fun m hm=>by rw [List.mem_singleton] at hm;subst hm;exact q1 (c1.imp id .inl),by simp⟩
 ·rw [if_neg c1]
  by_cases c5:e.do'=5
  ·rw [if_pos c5]
   exact ⟨X5 V _ (q2 c5),QW V _ (q2 c5)⟩
  ·rw [if_neg c5]
   by_cases c6:e.do'=6
   ·rw [if_pos c6]
    exact ⟨X5 V _ (q1 (by omega)),QW V _ (q1 (by omega))⟩
   ·rw [if_neg c6]
    exact ⟨(fun m hm=>by cases hm),List.nodup_nil⟩
theorem edited_of {d:HDoc} (V:DV d) {e:HEdit} (h:K3 d e=0) {rk rk':Int->Int} (h1:(Z5 d 0).Pairwise fun a b=>rk a<rk b) (h2:(Z5 (J6 d e) 0).Pairwise fun a b=>rk' a<rk' b):Edited d (J6 d e) (tcM d e) rk rk':=by
 obtain ⟨h0,hE,_,V'⟩:=applyE_0 V h
 exact ⟨V,V',fun m hm=>inD_edit e hm,(tcM_in V h0).1,(tcM_in V h0).2,below_edit V e h0 hE,fun m hm hT=>words_edit V e h0 hm hT,h1,h2⟩
theorem nth_nin {T:List Int} (hn:T.Nodup) {i:Nat} (hi:i<T.length):nth T i∉T.take i:=fun h=>by
 have h1:=hn.sublist (List.take_sublist (i+1) T)
 rw [X1 hi] at h1
 exact (List.nodup_append.1 h1).2.2 _ h _ List.mem_cons_self rfl
theorem PP.in {d dn:HDoc} {T A:List Int} {rk rk':Int->Int} {c:Nat} (E:Edited d dn T rk rk') (hA:∀ m∈A,m∈T/\m∈Z5 dn 0) {w:List UInt8} {m:Int} (h:PP d dn T c A w m):m∈Z5 dn 0/\w∈nth (J7 (nd dn m)) c:=by
 rcases h with ⟨⟨h1,h2⟩,h3⟩ | ⟨h1,h2⟩
 ·exact ⟨(E.mem h3).2 h1,by rw [E.words m (X5 E.V 0 E.V.zero m h1) h3];exact h2⟩
 ·exact ⟨(hA m h1).2,h2⟩
theorem inT_snoc (dn:HDoc) {T:List Int} {i:Nat} (hi:i<T.length):inT dn (T.take (i+1))=inT dn (T.take i)++if nth T i∈Z5 dn 0 then [nth T i] else []:=by
 unfold inT
 rw [X1 hi,List.filter_append]
 by_cases h:nth T i∈Z5 dn 0
 ·rw [if_pos h,List.filter_cons_of_pos (by simpa using h),List.filter_nil]
 ·rw [if_neg h,List.filter_cons_of_neg (by simpa using h),List.filter_nil]
theorem mem_inT {dn:HDoc} {T:List Int} {i:Nat} {m:Int} (h:m∈inT dn (T.take i)):m∈T/\m∈Z5 dn 0:=by
 have:=List.mem_filter.1 h
 exact ⟨List.mem_of_mem_take this.1,of_decide_eq_true this.2⟩
section
variable {d dn:HDoc} {T:List Int} {rk rk':Int->Int} {c:Nat}
theorem Edited.half (E:Edited d dn T rk rk') (hc:c<4) (i:Nat):SpecM (putA rk' dn c (inT dn (T.take i)) (dropA d c T (V5 d c))) (PP d dn T c (inT dn (T.take i))) rk':=by
 have h:=E.put hc [] (inT dn (T.take i)) (by rw [List.nil_append];exact (E.tnd.sublist (List.take_sublist _ _)).filter _) (fun m hm=>mem_inT (by rw [List.nil_append] at hm;exact hm)) _ (E.start hc)
 rw [List.nil_append] at h;exact h
theorem put_half (E:Edited d dn T rk rk') (hc:c<4) {i:Nat} (hi:i<T.length) (hb:nth T i∈Z5 dn 0) (k:Nat) :
 ∃ P,SpecM (putW rk' (nth T i) ((nth (J7 (nd dn (nth T i))) c).take k) (putA rk' dn c (inT dn (T.take i)) (dropA d c T (V5 d c)))) P rk' /\ ∀ w m,P w m->m∈Z5 dn 0/\w∈nth (J7 (nd dn m)) c:=
 ⟨_,E.putW hc (E.half hc i) (fun m hm=>mem_inT hm) (Y7 hi) hb (fun h=>nth_nin E.tnd hi (List.mem_filter.1 h).1) k,fun w m h=>by
   rcases h with h | ⟨rfl,h⟩
   ·exact PP.in E (fun m hm=>mem_inT hm) h
   ·exact ⟨hb,List.mem_of_mem_take h⟩⟩
theorem drop_half (V:DV d) (ord:(Z5 d 0).Pairwise fun a b=>rk a<rk b) (hc:c<4) (n:Int) (A:List Int) (k:Nat) :
 ∃ P,SpecM (dropW n ((nth (J7 (nd d n)) c).take k) (dropA d c A (V5 d c))) P rk /\ ∀ w m,P w m->m∈Z5 d 0/\w∈nth (J7 (nd d m)) c:=
 ⟨_,SpecM.dropW n _ _ _ (SpecM.dropA A _ _ (fun w m h=>h.2) (specM_of V (X5 V 0 V.zero) hc ord)),fun w m h=>h.1.1⟩
end
end Go.Proofs.K
end
section
set_option linter.unusedSimpArgs false
set_option linter.unusedVariables false
namespace Go.Proofs.K
open Go Go.Sim Go.Proofs Go.Shelf
variable {G:YZ}
def c7_s13:SCode:=(.seq (.dreg [(o 150 (.ld 2 true (.t 17)),none),(o 151 (.mv (.t 14)),none),(o 152 (.fldA 0 (.t 151)),none),(o 153 (.fldA 0 (.t 152)),none),(o 154 (.ld 4 true (.t 153)),none),(⟨none,.st 2 (.t 6) (.t 150),none⟩,(some [150])),(⟨none,.st 4 (.t 7) (.t 154),none⟩,(some [154,150])),(o 8 (.mv (.c (.int .i64 0))),none)]) .ret)
def c7_s12:SCode:=(.seq (.seq (.reg [o 121 (.ld 2 true (.t 3)),o 122 (.ld 12 true (.t 5)),o 123 (.pcall 24 [.t 121,.t 122]),o 124 (.len (.t 123)),o 125 (.mv (.c (.int .i64 0)))]) (.block 4 (.loop (.seq (.reg [o 126 (.bin .lss (.t 125) (.t 124))]) (.seq (.cond (.t 126) .skip (.exit 4)) (.seq (.block 5 (.seq (.reg [o 127 (.idxA 1 (.t 123) (.t 125)),o 128 (.ld 1 false (.t 127)),o 22 (.mv (.t 128))]) (.seq (.reg [o 130 (.mv (.t 14)),o 131 (.fldA 0 (.t 130)),o 132 (.fldA 4 (.t 131)),o 133 (.ld 1 false (.t 132)),o 134 (.mv (.t 22)),o 135 (.lkp (some .i64) true (.int .i64 0) (.t 133) (.t 134)),o 129 (.mv (.t 135)),o 136 (.ext (.t 129) 0),o 137 (.ext (.t 129) 1),o 23 (.mv (.t 136)),o 24 (.mv (.t 137))]) (.seq (.reg [o 138 (.mv (.t 24))]) (.cond (.t 138) (.reg [o 139 (.mv (.t 14)),o 140 (.fldA 0 (.t 17)),o 141 (.ld 1 false (.t 140)),o 142 (.mv (.t 22)),o 143 (.idxA 6 (.t 141) (.t 142)),o 144 (.ld 6 true (.t 143)),o 145 (.mv (.t 22)),o 146 (.mv (.t 14)),o 147 (.mkf 27 [.t 146] []),o 148 (.call (.c (.fn 25 [] [])) [.t 139,.t 144,.t 145,.t 147])]) .skip))))) (.reg [o 149 (.bin .add (.t 125) (.c (.int .i64 1))),o 125 (.mv (.t 149))]))))))) c7_s13)
def c7_s11:SCode:=(.seq (.reg [o 116 (.mv (.t 14)),o 117 (.mv (.t 9)),o 118 (.call (.c (.fn 20 [] [])) [.t 117]),o 119 (.fldA 0 (.t 116)),o 120 (.fldA 4 (.t 119)),⟨none,.st 1 (.t 120) (.t 118),none⟩]) c7_s12)
def c7_s9:SCode:=(.seq (.seq (.reg [o 92 (.ld 2 true (.t 3)),o 93 (.ld 12 true (.t 5)),o 94 (.pcall 24 [.t 92,.t 93]),o 95 (.len (.t 94)),o 96 (.mv (.c (.int .i64 0)))]) (.block 2 (.loop (.seq (.reg [o 97 (.bin .lss (.t 96) (.t 95))]) (.seq (.cond (.t 97) .skip (.exit 2)) (.seq (.block 3 (.seq (.reg [o 98 (.idxA 1 (.t 94) (.t 96)),o 99 (.ld 1 false (.t 98)),o 20 (.mv (.t 99))]) (.reg [o 100 (.mv (.t 14)),o 101 (.fldA 0 (.t 3)),o 102 (.ld 1 false (.t 101)),o 103 (.mv (.t 20)),o 104 (.idxA 6 (.t 102) (.t 103)),o 105 (.ld 6 true (.t 104)),o 106 (.mv (.t 20)),o 107 (.mv (.t 14)),o 108 (.mkf 26 [.t 107] []),o 109 (.call (.c (.fn 25 [] [])) [.t 100,.t 105,.t 106,.t 108])]))) (.reg [o 110 (.bin .add (.t 96) (.c (.int .i64 1))),o 96 (.mv (.t 110))]))))))) (.seq (.reg [o 112 (.ld 2 true (.t 17)),o 113 (.pcall 17 [.t 112]),o 111 (.mv (.t 113)),o 114 (.ext (.t 111) 0),o 115 (.ext (.t 111) 1),o 9 (.mv (.t 114))]) c7_s11))
def c7_s7:SCode:=(.seq (.reg [o 81 (.ld 2 true (.t 3)),o 82 (.ld 12 true (.t 5)),o 83 (.pcall 23 [.t 81,.t 82]),o 80 (.mv (.t 83)),o 84 (.ext (.t 80) 0),o 85 (.ext (.t 80) 1),o 86 (.ext (.t 80) 2),o 17 (.new 24 2 [.emp,.bool false]),⟨none,.st 2 (.t 17) (.t 84),none⟩,o 18 (.mv (.t 85)),o 10 (.mv (.t 86))]) (.seq (.seq (.reg [o 87 (.mv (.t 10)),o 88 (.bin .neq (.t 87) (.c (.int .i64 0)))]) (.cond (.t 88) (.seq (.reg [o 89 (.bld [.emp,.bool false] []),o 90 (.bld [.emp,.emp,.emp,.emp] []),o 91 (.mv (.t 10)),⟨none,.st 2 (.t 6) (.t 89),none⟩,⟨none,.st 4 (.t 7) (.t 90),none⟩,o 8 (.mv (.t 91))]) .ret) .skip)) c7_s9))
def c7_s6:SCode:=(.seq (.seq (.reg [o 44 (.mv (.t 14)),o 45 (.fldA 0 (.t 44)),o 46 (.fldA 0 (.t 45)),o 47 (.call (.c (.fn 19 [] [])) [.t 46]),o 48 (.len (.t 47)),o 49 (.mv (.c (.int .i64 0)))]) (.block 0 (.loop (.seq (.reg [o 50 (.bin .lss (.t 49) (.t 48))]) (.seq (.cond (.t 50) .skip (.exit 0)) (.seq (.block 1 (.seq (.reg [o 51 (.mv (.t 49)),o 52 (.idxA 1 (.t 47) (.t 49)),o 53 (.ld 1 false (.t 52)),o 15 (.mv (.t 51)),o 16 (.mv (.t 53))]) (.seq (.seq (.dreg [(o 54 (.mv (.t 12)),none),(o 55 (.mv (.t 15)),none),(o 56 (.idxA 1 (.t 54) (.t 55)),none),(o 57 (.ld 1 false (.t 56)),none),(o 58 (.fldA 0 (.t 57)),none),(o 59 (.ld 1 false (.t 58)),none),(o 60 (.mv (.t 13)),none),(o 61 (.mv (.t 15)),none),(o 62 (.idxA 1 (.t 60) (.t 61)),none),(o 63 (.ld 1 false (.t 62)),none),(o 64 (.fldA 0 (.t 63)),none),(o 65 (.ld 1 false (.t 64)),none),(o 66 (.pcall 21 [.t 59,.t 65]),none),(o 67 (.un .not (.t 66)),none)]) (.cond (.t 67) (.seq (.reg [o 68 (.bld [.emp,.bool false] []),o 69 (.bld [.emp,.emp,.emp,.emp] []),⟨none,.st 2 (.t 6) (.t 68),none⟩,⟨none,.st 4 (.t 7) (.t 69),none⟩,o 8 (.mv (.c (.int .i64 9)))]) .ret) .skip)) (.reg [o 70 (.mv (.t 16)),o 71 (.mv (.t 13)),o 72 (.mv (.t 15)),o 73 (.idxA 1 (.t 71) (.t 72)),o 74 (.ld 1 false (.t 73)),o 75 (.fldA 0 (.t 74)),o 76 (.ld 1 false (.t 75)),o 77 (.call (.c (.fn 22 [] [])) [.t 76]),o 78 (.fldA 0 (.t 70)),⟨none,.st 1 (.t 78) (.t 77),none⟩])))) (.reg [o 79 (.bin .add (.t 49) (.c (.int .i64 1))),o 49 (.mv (.t 79))]))))))) c7_s7)
def c7:SFun:=⟨.seq (.reg [o 3 (.boxF 24 2 (.t 0)),o 4 (.boxF 27 4 (.t 1)),o 5 (.boxF 33 12 (.t 2)),o 6 (.new 24 2 [.emp,.bool false]),o 7 (.new 27 4 [.emp,.emp,.emp,.emp]),o 8 (.mv (.c (.int .i64 0)))]) (.seq (.reg [o 26 (.ld 2 true (.t 3)),o 27 (.pcall 17 [.t 26]),o 25 (.mv (.t 27)),o 28 (.ext (.t 25) 0),o 29 (.ext (.t 25) 1),o 9 (.mv (.t 28)),o 10 (.mv (.t 29))]) (.seq (.seq (.reg [o 30 (.mv (.t 10)),o 31 (.bin .neq (.t 30) (.c (.int .i64 0)))]) (.cond (.t 31) (.seq (.reg [o 32 (.bld [.emp,.bool false] []),o 33 (.bld [.emp,.emp,.emp,.emp] []),o 34 (.mv (.t 10)),⟨none,.st 2 (.t 6) (.t 32),none⟩,⟨none,.st 4 (.t 7) (.t 33),none⟩,o 8 (.mv (.t 34))]) .ret) .skip)) (.seq (.reg [o 35 (.ld 2 true (.t 3)),o 36 (.mv (.t 9)),o 37 (.pcall 18 [.t 35,.t 36]),o 11 (.new 27 4 [.emp,.emp,.emp,.emp]),⟨none,.st 4 (.t 11) (.t 37),none⟩]) (.seq (.reg [o 38 (.call (.c (.fn 19 [] [])) [.t 11]),o 39 (.call (.c (.fn 19 [] [])) [.t 4]),o 12 (.mv (.t 38)),o 13 (.mv (.t 39))]) (.seq (.reg [o 40 (.mv (.t 9)),o 41 (.call (.c (.fn 20 [] [])) [.t 40]),o 42 (.bld [.emp,.emp,.emp,.emp,.prim (Value.map none)] [(4,(1,(.t 41)))]),o 43 (.box 61 5 (.t 42)),o 14 (.mv (.t 43))]) c7_s6))))),[.cell 6 2 true,.cell 7 4 true,.tmp 8]⟩
theorem hc7:Y3 Tryz.prog {pure:=[17,18,21,23,24],how:=[(43,6)]} Tryz.f7=some c7:=by kernel_rfl
theorem hn7 : (Tryz.f7.name == "runtime.NumGoroutine") = false := by kernel_rfl
structure Af (h HZ:Q2) (r6 r7:Nat):Prop where
 s:Sim.Sub h HZ
 f6:h r6=none
 f7:h r7=none
 g6:HZ r6=some ⟨.t 24,2,[[.emp,.bool false]]⟩
 g7:HZ r7=some ⟨.t 27,4,[[.emp,.emp,.emp,.emp]]⟩
def AfK (h:Q2) (D:HDoc) (X:HIdx) (E:Int) (a:AVal) (h':Q2):Prop:=Sim.Sub h h'/\VwT (newH h h') a (.tup [.agg (Q8 D),.agg (QQ X),Q3 E])
theorem Af.ne {h HZ:Q2} {r6 r7:Nat} (A:Af h HZ r6 r7):r6≠r7:=fun e=>by
 have h1:=A.g6
 rw [e,A.g7] at h1;cases h1
theorem after_end {d dn:HDoc} {h HZ h':Q2} {r6 r7 r17 rk rM:Nat} {es:List (Int×Int)} {E:Env} (A:Af h HZ r6 r7) (X:KL HZ h' rk rM es (V5 dn)) (g17:HZ r17=some ⟨.t 24,2,[Q8 dn]⟩)
 (e6:E 6=.vp r6 0) (e7:E 7=.vp r7 0) (e14:E 14=.vp rk 0) (e17:E 17=.vp r17 0) :
 vc (Pg G) c7_s13 (KU [.cell 6 2 true,.cell 7 4 true,.tmp 8] (AfK h dn (YT dn) 0)) E h':=by
 obtain ⟨As,Ls,nvs,Fs,S,hQ⟩:=X
 have hkp:=S.kp
 have k6:=S.sub _ _ A.g6
 have k7:=S.sub _ _ A.g7
 have k17:=S.sub _ _ g17
 have ne:=A.ne
 unfold kpO at hkp
 unfold Q8 at k17
 obtain ⟨a0,a1,a2,a3,rfl⟩:∃ a0 a1 a2 a3,As=[a0,a1,a2,a3]:=by
  match As,S.len with
  | [a0,a1,a2,a3],_=>exact ⟨a0,a1,a2,a3,rfl⟩
 have hdr:List.drop 0 ([a0,a1,a2,a3]++[AVal.mpr rM])=[a0,a1,a2,a3,AVal.mpr rM]:=rfl
 have htk:List.take 4 ([a0,a1,a2,a3]++[AVal.mpr rM])=[a0,a1,a2,a3]:=rfl
 have n76:¬ r7=r6:=fun e=>ne e.symm
 have nk6:¬ rk=r6:=fun e=>by have h1:=S.k0;rw [e,A.g6] at h1;cases h1
 have nk7:¬ rk=r7:=fun e=>by have h1:=S.k0;rw [e,A.g7] at h1;cases h1
 unfold c7_s13
 skip
 simp -dsimp -implicitDefEqProofs (disch:=omega) only [VCA,Nat.reduceEqDiff,Nat.reduceBEq,Nat.reduceAdd,Nat.reduceLT,Nat.reduceLeDiff,↓reduceIte,Y8,Z0,SOp.rd,SI.rd,SX.rd,Z8,implies_true,exists_eq_left',J1,e6,e7,e14,e17,hkp,k6,k7,k17,ne,n76,nk6,nk7]
 refine ⟨_,Sub.refl _,((A.s.trans S.sub).upd A.f6).upd A.f7,.tup' (.cons (.refl (.agg (Q8 dn))) (.cons ?_ (.cons (.refl _) .nil)))⟩
 have hh:∀ c a,c<4->[a0,a1,a2,a3][c]? = some a -> ∀ o o',Vw (newH h (upd (upd h' r6 (some o)) r7 (some o'))) a (sl X8 (V5 dn c)):=fun c a hc ha o o'=>by
  obtain ⟨a',ha',R⟩:=S.ref c hc
  rw [ha] at ha'
  cases ha'
  have R2:=R.keep (h':=upd (upd h' r6 (some o)) r7 (some o')) fun r ob hr ho=>by
   have h1:=(S.dom c r hc hr).2.1
   rw [Q4 _ _ (fun e=>by rw [e,A.g7] at h1;cases h1),Q4 _ _ (fun e=>by rw [e,A.g6] at h1;cases h1)];exact ho
  rw [hQ c hc] at R2
  exact R2.vwN fun r hr=>A.s.none (S.dom c r hc hr).2.1
 exact Vw.agg' (.cons (hh 0 a0 (by decide) rfl _ _) (.cons (hh 1 a1 (by decide) rfl _ _) (.cons (hh 2 a2 (by decide) rfl _ _) (.cons (hh 3 a3 (by decide) rfl _ _) .nil))))
theorem after_put {d dn:HDoc} {e:HEdit} {T:List Int} {rk1:Int->Int} {h HZ h':Q2} {r6 r7 r17 rk rM:Nat} {es:List (Int×Int)} {E:Env} (A:Af h HZ r6 r7) (sm':DocSm dn) (D:Edited d dn T rk1 (rkI es)) (hf:∀ n,n∈Z5 dn 0 -> ∃ i,UQ es n=some i) (hno:∀ n,n∉Z5 dn 0->UQ es n=none)
 (cT:PCalls (Pg G) 24 [.agg (Q8 d),.agg (Z4 e)] (sl Z6 T))
 (X:KL HZ h' rk rM es (fun c=>dropA d c T (V5 d c))) (g17:HZ r17=some ⟨.t 24,2,[Q8 dn]⟩)
 (e3:E 3=.pin (Q8 d)) (e5:E 5=.pin (Z4 e)) (e6:E 6=.vp r6 0) (e7:E 7=.vp r7 0) (e14:E 14=.vp rk 0) (e17:E 17=.vp r17 0) :
 vc (Pg G) c7_s12 (KU [.cell 6 2 true,.cell 7 4 true,.tmp 8] (AfK h dn (YT dn) 0)) E h':=by
 have dl:=D.V.len
 have dl':=D.V'.len
 have tl:T.length<=200:=by have:=YK d.nodes.length T D.tnd fun x hx=>D.tin x hx;omega
 have t2:(Q8 d).length=2:=rfl
 have t2':List.take 2 (Q8 d)=Q8 d:=rfl
 have t3:(Z4 e).length=12:=rfl
 have t3':List.take 12 (Z4 e)=Z4 e:=rfl
 unfold c7_s12
 skip
 simp -dsimp -implicitDefEqProofs (disch:=omega) only [VCA,Nat.reduceEqDiff,↓reduceIte,e3,e5,t2,t2',t3,t3']
 repeat' (first | ((with_reducible refine brC (fun _=>?_) fun _=>?_) <;> try (exfalso;omega)) | (with_reducible apply pcallE.of; · exact cT) | (with_reducible refine And.intro ?_ ?_; · omega) | simp -dsimp -implicitDefEqProofs (disch:=omega) only [VCA,↓reduceIte])
 refine LoopVC.intro (fun m e1 h1=>∃ i:Nat,i<=T.length/\m=T.length-i/\e1 6=.vp r6 0/\e1 7=.vp r7 0/\e1 14=.vp rk 0/\e1 17=.vp r17 0/\e1 123=sl Z6 T/\e1 124=Q3 T.length/\e1 125=Q3 i/\KL HZ h1 rk rM es (fun c=>putA (rkI es) dn c (inT dn (T.take i)) (dropA d c T (V5 d c)))) T.length
  (by exact ⟨0,by omega,by omega,e6,e7,e14,e17,rfl,rfl,rfl,X⟩) ?_
 rintro m e1 h1 ⟨i,hi,rfl,f6,f7,f14,f17,f123,f124,f125,Y⟩
 by_cases hlt:i<T.length
 ·have d1:decide ((i:Int)<(T.length:Int))=true:=decide_eq_true (by omega)
  have hin:=D.hi _ (D.tin _ (Y7 hlt))
  have n0:=hin.1
  have n1:=hin.2
  obtain ⟨As,Ls,nvs,Fs,S,hQ⟩:=Y
  have hkp:h1 rk=some ⟨.t 61,5,[As++[.mpr rM]]⟩:=S.kp
  have hM:=S.mp
  have h17:=S.sub _ _ g17
  unfold Q8 at h17
  have hdr:List.drop 4 (As++[AVal.mpr rM])=[.mpr rM]:=by rw [List.drop_left' S.len]
  have hln:(As++[AVal.mpr rM]).length=5:=by rw [List.length_append,S.len];rfl
  have Y:KL HZ h1 rk rM es (fun c=>putA (rkI es) dn c (inT dn (T.take i)) (dropA d c T (V5 d c))):=⟨As,Ls,nvs,Fs,S,hQ⟩
  have en:nth dn.nodes (nth T i).toNat=nd dn (nth T i):=rfl
  have t6:(Q7 (nd dn (nth T i))).length=6:=rfl
  have t6':List.take 6 (Q7 (nd dn (nth T i)))=Q7 (nd dn (nth T i)):=rfl
  by_cases hb:nth T i∈Z5 dn 0
  ·have his:(UQ es (nth T i)).isSome=true:=by obtain ⟨ix,hix⟩:=hf _ hb;rw [hix];rfl
   have hnx:∀ c,putW (rkI es) (nth T i) (nth (J7 (nd dn (nth T i))) c) (putA (rkI es) dn c (inT dn (T.take i)) (dropA d c T (V5 d c)))=putA (rkI es) dn c (inT dn (T.take (i+1))) (dropA d c T (V5 d c)):=fun c=>by
    rw [inT_snoc dn hlt,if_pos hb,putA_snoc]
   have cK:=turnK_ok (G:=G) (f:=27) (fun L w=>putG (rkI es) L w (nth T i)) (putW (rkI es) (nth T i)) (fun _=>rfl) (fun W w l=>putW_snoc _ _ W w l) Y (nd dn (nth T i)) (sm'.nd _) (by have:=TU (D.V'.node _ hin) ZJ;omega) (KZ D.V' hin) (nth T i)
    fun c k h2 hc hk L' Z hL=>by
     obtain ⟨P,SM,hP⟩:=put_half D hc hlt hb k
     have hL:L' c=putW (rkI es) (nth T i) ((nth (J7 (nd dn (nth T i))) c).take k) (putA (rkI es) dn c (inT dn (T.take i)) (dropA d c T (V5 d c))):=hL
     have hr:=SM.rows D.V' (X5 D.V' 0 D.V'.zero) (QW D.V' 0 D.V'.zero) hc hP
     rw [<-hL] at SM hr
     exact putG_ok (G:=G) Z hc SM hr.1 hr.2
   obtain ⟨n,hn⟩:∃ n,nth T i=n:=⟨_,rfl⟩
   rw [hn] at hin n0 n1 en hb his cK hnx t6 t6'
   repeat' (first | ((with_reducible refine brC (fun _=>?_) fun _=>?_) <;> try (exfalso;omega)) | (with_reducible refine And.intro ?_ ?_; · omega) | simp -dsimp -implicitDefEqProofs (disch:=omega) only [VCA,Nat.reduceEqDiff,Nat.reduceAdd,Nat.reduceLT,Nat.reduceLeDiff,↓reduceIte,exists_eq_left',Z6,f14,f17,f123,f124,f125,d1,hn,hkp,hM,hdr,hln,his,h17,en,t6,t6'])
   refine DCalls.of cK ?_
   rintro v h2 Z
   repeat' (first | ((with_reducible refine brC (fun _=>?_) fun _=>?_) <;> try (exfalso;omega)) | (with_reducible refine And.intro ?_ ?_; · omega) | simp -dsimp -implicitDefEqProofs (disch:=omega) only [VCA,Nat.reduceEqDiff,↓reduceIte,f14,f17,f123,f124,f125])
   refine ⟨_,by omega,i+1,by omega,rfl,f6,f7,by first | rfl | omega,Z.congr fun c hc=>hnx c⟩
  ·have his:(UQ es (nth T i)).isSome=false:=by rw [hno _ hb];rfl
   have hnx:inT dn (T.take (i+1))=inT dn (T.take i):=by rw [inT_snoc dn hlt,if_neg hb,List.append_nil]
   obtain ⟨n,hn⟩:∃ n,nth T i=n:=⟨_,rfl⟩
   rw [hn] at hin n0 n1 en hb his t6 t6'
   repeat' (first | ((with_reducible refine brC (fun _=>?_) fun _=>?_) <;> try (exfalso;omega)) | (with_reducible refine And.intro ?_ ?_; · omega) | simp -dsimp -implicitDefEqProofs (disch:=omega) only [VCA,Nat.reduceEqDiff,Nat.reduceAdd,Nat.reduceLT,↓reduceIte,exists_eq_left',Z6,f14,f17,f123,f124,f125,d1,hn,hkp,hM,hdr,hln,his])
   exact ⟨_,by omega,i+1,by omega,rfl,f6,f7,by first | rfl | omega,by rw [hnx];exact Y⟩
 ·obtain rfl:i=T.length:=by omega
  have d1:decide ((T.length:Int)<(T.length:Int))=false:=decide_eq_false (by omega)
  rw [List.take_length] at Y
  repeat' (first | ((with_reducible refine brC (fun _=>?_) fun _=>?_) <;> try (exfalso;omega)) | (with_reducible refine And.intro ?_ ?_; · omega) | simp -dsimp -implicitDefEqProofs (disch:=omega) only [VCA,↓reduceIte,f124,f125,d1])
  exact after_end (d:=d) A (Y.congr fun c hc=>D.is hc) g17 f6 f7 f14 f17
def c40:SFun:=⟨.seq (.reg [o 2 (.boxF 31 6 (.t 0)),o 4 (.mv (.c .emp))]) (.seq (.seq (.reg [o 10 (.fldA 0 (.t 2)),o 11 (.ld 1 false (.t 10)),o 12 (.bin .neq (.t 11) (.c (.int .i64 2)))]) (.cond (.t 12) (.seq (.reg [o 4 (.mv (.c .emp))]) .ret) .skip)) (.seq (.seq (.reg [o 13 (.mv (.t 1)),o 14 (.bin .eql (.t 13) (.c (.int .i64 3)))]) (.cond (.t 14) (.seq (.reg [o 15 (.fldA 1 (.t 2)),o 16 (.ld 1 false (.t 15)),o 17 (.bldF 9 1 [.t 16]),o 4 (.mv (.t 17))]) .ret) .skip)) (.seq (.seq (.reg [o 18 (.mv (.t 1)),o 19 (.bin .eql (.t 18) (.c (.int .i64 2)))]) (.cond (.t 19) (.seq (.reg [o 21 (.fldA 2 (.t 2)),o 22 (.ld 1 false (.t 21)),o 23 (.pcall 38 [.t 22,.c (.str [99,108,97,115,115])]),o 20 (.mv (.t 23)),o 24 (.ext (.t 20) 0),o 25 (.ext (.t 20) 1),o 5 (.mv (.t 24)),o 6 (.mv (.t 25))]) (.seq (.reg [o 26 (.mv (.t 5)),o 27 (.pcall 69 [.t 26]),o 4 (.mv (.t 27))]) .ret)) .skip)) (.seq (.reg [o 7 (.mv (.c (.str [105,100])))]) (.seq (.seq (.reg [o 28 (.mv (.t 1)),o 29 (.bin .eql (.t 28) (.c (.int .i64 4)))]) (.cond (.t 29) (.reg [o 7 (.mv (.c (.str [110,97,109,101])))]) .skip)) (.seq (.reg [o 31 (.fldA 2 (.t 2)),o 32 (.ld 1 false (.t 31)),o 33 (.mv (.t 7)),o 34 (.pcall 38 [.t 32,.t 33]),o 30 (.mv (.t 34)),o 35 (.ext (.t 30) 0),o 36 (.ext (.t 30) 1),o 8 (.mv (.t 35)),o 9 (.mv (.t 36))]) (.seq (.seq (.reg [o 37 (.mv (.t 8)),o 38 (.bin .eql (.t 37) (.c (.str [])))]) (.cond (.t 38) (.seq (.reg [o 4 (.mv (.c .emp))]) .ret) .skip)) (.seq (.reg [o 39 (.mv (.t 8)),o 40 (.bldF 9 1 [.t 39]),o 4 (.mv (.t 40))]) .ret)))))))),[.tmp 4]⟩
theorem hc40:Y3 Tryz.prog {pure:=[38,69]} Tryz.f40=some c40:=by kernel_rfl
theorem hn40 : (Tryz.f40.name == "runtime.NumGoroutine") = false := by kernel_rfl
theorem refWordsOf_ok (x:HNode) (hx:NodeSm x) (hs:(YW x.attrs ZJ).length<=1000000) (c:Nat) (hc:c<4):PCalls (Pg G) 40 [.agg (Q7 x),Q3 ((c:Int)+1)] (sl T0 (nth (J7 x) c)):=PCalls.outV fun h=>by
 have c1:=attrOf_ok (G:=G) x.attrs idS hx.attrs
 have c2:=attrOf_ok (G:=G) x.attrs ZJ hx.attrs
 have c3:=attrOf_ok (G:=G) x.attrs nameS hx.attrs
 rw [attV_eq] at c1 c2 c3
 have c4:=refIxWords_ok (G:=G) _ hs
 unfold idS at c1
 unfold ZJ at c2 c4
 unfold nameS at c3
 unfold J7 one1 idS ZJ nameS
 by_cases hk:x.kind=2
 ·have d1:(x.kind != 2)=false:=by simpa using hk
  rw [if_neg (by simpa using hk)]
  rcases (show c=0\/c=1\/c=2\/c=3 by omega) with rfl | rfl | rfl | rfl
  ·show DCalls _ _ [_,Q3 1] _ fun a h'=>_/\VwT _ a (sl T0 (if YW x.attrs [105,100]=[] then [] else [YW x.attrs [105,100]]))
   obtain ⟨v,hv⟩:∃ v,YW x.attrs [105,100]=v:=⟨_,rfl⟩
   rw [hv] at c1 ⊢
   by_cases h0:v=[]
   ·rw [if_pos h0]
    subst h0
    have d2:(([]:List UInt8)==[])=true:=rfl
    refine Q0 Tryz.func40 hn40 hc40 (by rw [Tryz.ntmps40];simp) (by rw [Tryz.ntmps40];decide) ?_
    simp -dsimp -implicitDefEqProofs (disch:=omega) only [VCA,Nat.reduceEqDiff,Nat.reduceAdd,Nat.reduceLeDiff,↓reduceIte,Q7,c40,d1,Q7]
    repeat' (first | ((with_reducible refine brC (fun _=>?_) fun _=>?_) <;> try (exfalso;omega)) | (with_reducible apply pcallE.of; · exact c1) | (with_reducible refine And.intro ?_ ?_; · omega) | simp -dsimp -implicitDefEqProofs (disch:=omega) only [VCA,Nat.reduceEqDiff,Nat.reduceAdd,Nat.reduceLT,Nat.reduceLeDiff,↓reduceIte,d2])
    exact ⟨_,Sub.refl _,Sub.refl _,.one _ _ .emp⟩
   ·rw [if_neg h0]
    have d2:(v==[])=false:=by simpa using h0
    refine Q0 Tryz.func40 hn40 hc40 (by rw [Tryz.ntmps40];simp) (by rw [Tryz.ntmps40];decide) ?_
    simp -dsimp -implicitDefEqProofs (disch:=omega) only [VCA,Nat.reduceEqDiff,Nat.reduceAdd,Nat.reduceLeDiff,↓reduceIte,Q7,c40,d1,Q7]
    repeat' (first | ((with_reducible refine brC (fun _=>?_) fun _=>?_) <;> try (exfalso;omega)) | (with_reducible apply pcallE.of; · exact c1) | (with_reducible refine And.intro ?_ ?_; · omega) | simp -dsimp -implicitDefEqProofs (disch:=omega) only [VCA,Nat.reduceEqDiff,Nat.reduceAdd,Nat.reduceLT,Nat.reduceLeDiff,↓reduceIte,Z7,d2])
    exact ⟨_,Sub.refl _,Sub.refl _,.one _ _ (.refl _)⟩
  ·show DCalls _ _ [_,Q3 2] _ fun a h'=>_/\VwT _ a (sl T0 (XU (YW x.attrs [99,108,97,115,115])))
   refine Q0 Tryz.func40 hn40 hc40 (by rw [Tryz.ntmps40];simp) (by rw [Tryz.ntmps40];decide) ?_
   simp -dsimp -implicitDefEqProofs (disch:=omega) only [VCA,Nat.reduceEqDiff,Nat.reduceAdd,Nat.reduceLeDiff,↓reduceIte,Q7,c40,d1,Q7]
   repeat' (first | ((with_reducible refine brC (fun _=>?_) fun _=>?_) <;> try (exfalso;omega)) | (with_reducible apply pcallE.of; · exact c2) | (with_reducible apply pcallE.of; · exact c4) | (with_reducible refine And.intro ?_ ?_; · omega) | simp -dsimp -implicitDefEqProofs (disch:=omega) only [VCA,Nat.reduceEqDiff,Nat.reduceAdd,Nat.reduceLT,Nat.reduceLeDiff,↓reduceIte])
   exact ⟨_,Sub.refl _,Sub.refl _,.one _ _ (.refl _)⟩
  ·show DCalls _ _ [_,Q3 3] _ fun a h'=>_/\VwT _ a (sl T0 [x.name])
   refine Q0 Tryz.func40 hn40 hc40 (by rw [Tryz.ntmps40];simp) (by rw [Tryz.ntmps40];decide) ?_
   simp -dsimp -implicitDefEqProofs (disch:=omega) only [VCA,Nat.reduceEqDiff,Nat.reduceAdd,Nat.reduceLeDiff,↓reduceIte,Q7,c40,d1,Q7]
   repeat' (first | ((with_reducible refine brC (fun _=>?_) fun _=>?_) <;> try (exfalso;omega)) | (with_reducible refine And.intro ?_ ?_; · omega) | simp -dsimp -implicitDefEqProofs (disch:=omega) only [VCA,Nat.reduceEqDiff,Nat.reduceAdd,Nat.reduceLeDiff,↓reduceIte,Z7])
   exact ⟨_,Sub.refl _,Sub.refl _,.one _ _ (.refl _)⟩
  ·show DCalls _ _ [_,Q3 4] _ fun a h'=>_/\VwT _ a (sl T0 (if YW x.attrs [110,97,109,101]=[] then [] else [YW x.attrs [110,97,109,101]]))
   obtain ⟨v,hv⟩:∃ v,YW x.attrs [110,97,109,101]=v:=⟨_,rfl⟩
   rw [hv] at c3 ⊢
   by_cases h0:v=[]
   ·rw [if_pos h0]
    subst h0
    have d2:(([]:List UInt8)==[])=true:=rfl
    refine Q0 Tryz.func40 hn40 hc40 (by rw [Tryz.ntmps40];simp) (by rw [Tryz.ntmps40];decide) ?_
    simp -dsimp -implicitDefEqProofs (disch:=omega) only [VCA,Nat.reduceEqDiff,Nat.reduceAdd,Nat.reduceLeDiff,↓reduceIte,Q7,c40,d1,Q7]
    repeat' (first | ((with_reducible refine brC (fun _=>?_) fun _=>?_) <;> try (exfalso;omega)) | (with_reducible apply pcallE.of; · exact c3) | (with_reducible refine And.intro ?_ ?_; · omega) | simp -dsimp -implicitDefEqProofs (disch:=omega) only [VCA,Nat.reduceEqDiff,Nat.reduceAdd,Nat.reduceLT,Nat.reduceLeDiff,↓reduceIte,d2])
    exact ⟨_,Sub.refl _,Sub.refl _,.one _ _ .emp⟩
   ·rw [if_neg h0]
    have d2:(v==[])=false:=by simpa using h0
    refine Q0 Tryz.func40 hn40 hc40 (by rw [Tryz.ntmps40];simp) (by rw [Tryz.ntmps40];decide) ?_
    simp -dsimp -implicitDefEqProofs (disch:=omega) only [VCA,Nat.reduceEqDiff,Nat.reduceAdd,Nat.reduceLeDiff,↓reduceIte,Q7,c40,d1,Q7]
    repeat' (first | ((with_reducible refine brC (fun _=>?_) fun _=>?_) <;> try (exfalso;omega)) | (with_reducible apply pcallE.of; · exact c3) | (with_reducible refine And.intro ?_ ?_; · omega) | simp -dsimp -implicitDefEqProofs (disch:=omega) only [VCA,Nat.reduceEqDiff,Nat.reduceAdd,Nat.reduceLT,Nat.reduceLeDiff,↓reduceIte,Z7,d2])
    exact ⟨_,Sub.refl _,Sub.refl _,.one _ _ (.refl _)⟩
 ·have d1:(x.kind != 2)=true:=by simpa using hk
  rw [if_pos hk]
  have e0:nth ([[],[],[],[]]:List (List (List UInt8))) c=[]:=by
   rcases (show c=0\/c=1\/c=2\/c=3 by omega) with rfl | rfl | rfl | rfl <;> rfl
  rw [e0]
  refine Q0 Tryz.func40 hn40 hc40 (by rw [Tryz.ntmps40];simp) (by rw [Tryz.ntmps40];decide) ?_
  simp -dsimp -implicitDefEqProofs (disch:=omega) only [VCA,Nat.reduceEqDiff,Nat.reduceAdd,Nat.reduceLeDiff,↓reduceIte,Q7,c40,d1,Q7]
  exact ⟨_,Sub.refl _,Sub.refl _,.one _ _ .emp⟩
structure RefsSm (l:List HRef):Prop where
 len:l.length<=1073741824
 each:∀ x∈l,RefSm x
def c28:SFun:=⟨.seq (.reg [o 4 (.mv (.c (.bool false)))]) (.seq (.seq (.reg [o 6 (.mv (.t 0)),o 7 (.len (.t 6)),o 8 (.mv (.t 1)),o 9 (.len (.t 8)),o 10 (.bin .neq (.t 7) (.t 9))]) (.cond (.t 10) (.seq (.reg [o 4 (.mv (.c (.bool false)))]) .ret) .skip)) (.seq (.seq (.reg [o 5 (.mv (.c (.int .i64 0)))]) (.block 0 (.loop (.seq (.seq (.reg [o 11 (.mv (.t 5)),o 12 (.mv (.t 0)),o 13 (.len (.t 12)),o 14 (.bin .lss (.t 11) (.t 13))]) (.cond (.t 14) .skip (.exit 0))) (.seq (.block 1 (.seq (.dreg [(o 17 (.mv (.t 0)),none),(o 18 (.mv (.t 5)),none),(o 19 (.idxA 2 (.t 17) (.t 18)),none),(o 20 (.fldA 0 (.t 19)),none),(o 21 (.ld 1 false (.t 20)),none),(o 22 (.mv (.t 1)),none),(o 23 (.mv (.t 5)),none),(o 24 (.idxA 2 (.t 22) (.t 23)),none),(o 25 (.fldA 0 (.t 24)),none),(o 26 (.ld 1 false (.t 25)),none),(o 27 (.bin .neq (.t 21) (.t 26)),none),(o 28 (.mv (.t 27)),none),(⟨some 29,.mv (.t 0),some (28,false)⟩,none),(⟨some 30,.mv (.t 5),some (28,false)⟩,none),(⟨some 31,.idxA 2 (.t 29) (.t 30),some (28,false)⟩,none),(⟨some 32,.fldA 1 (.t 31),some (28,false)⟩,none),(⟨some 33,.ld 1 false (.t 32),some (28,false)⟩,none),(⟨some 34,.mv (.t 1),some (28,false)⟩,none),(⟨some 35,.mv (.t 5),some (28,false)⟩,none),(⟨some 36,.idxA 2 (.t 34) (.t 35),some (28,false)⟩,none),(⟨some 37,.fldA 1 (.t 36),some (28,false)⟩,none),(⟨some 38,.ld 1 false (.t 37),some (28,false)⟩,none),(⟨some 39,.pcall 61 [.t 33,.t 38],some (28,false)⟩,none),(⟨some 40,.un .not (.t 39),some (28,false)⟩,none),(o 41 (.pick (.t 28) (.c (.bool true)) (.t 40)),none)]) (.cond (.t 41) (.seq (.reg [o 4 (.mv (.c (.bool false)))]) .ret) .skip))) (.reg [o 15 (.mv (.t 5)),o 16 (.bin .add (.t 15) (.c (.int .i64 1))),o 5 (.mv (.t 16))])))))) (.seq (.reg [o 4 (.mv (.c (.bool true)))]) .ret))),[.tmp 4]⟩
theorem hc28:Y3 Tryz.prog {pure:=[61]} Tryz.f28=some c28:=by kernel_rfl
theorem sameRefs_ok (a b:List HRef) (ha:RefsSm a) (hb:RefsSm b):PCalls (Pg G) 28 [sl X8 a,sl X8 b] (.bool (decide (a=b))):=fun h=>by
 have al:=ha.len
 have bl:=hb.len
 refine Q0 Tryz.func28 (by kernel_rfl) hc28 (by rw [Tryz.ntmps28];simp) (by rw [Tryz.ntmps28];decide) ?_
 simp -dsimp -implicitDefEqProofs (disch:=omega) only [VCA,Nat.reduceEqDiff,↓reduceIte,reduceCtorEq,c28]
 refine Br.ne (fun h1=>?_) (fun h1=>?_)
 ·simp -dsimp -implicitDefEqProofs (disch:=omega) only [VCA,↓reduceIte,exists_eq_right_right]
  exact ⟨Sub.refl _,(decide_eq_false fun e=>h1 (by rw [e])).symm⟩
 have hl:a.length=b.length:=by omega
 simp -dsimp -implicitDefEqProofs (disch:=omega) only [VCA]
 refine LoopVC.intro (fun m e h'=>∃ k:Nat,k<=a.length/\m=a.length-k/\e 0=sl X8 a/\e 1=sl X8 b/\e 5=Q3 k/\h'=h /\ ∀ j,j<k->nth a j=nth b j) a.length ⟨0,by omega,by omega,rfl,rfl,rfl,rfl,fun j hj=>absurd hj (Nat.not_lt_zero j)⟩ ?_
 rintro m e h' ⟨k,hk,rfl,e0,e1,e5,rfl,hj⟩
 simp -dsimp -implicitDefEqProofs (disch:=omega) only [VCA,Nat.reduceEqDiff,↓reduceIte,reduceCtorEq,e0,e5]
 refine Br.dec (fun hlt=>?_) (fun hge=>?_)
 ·have hk':k<a.length:=by omega
  have cS:=sameN_ok (G:=G) (nth a k).nodes (nth b k).nodes (ha.each _ (Y7 hk')).nodes (hb.each _ (Y7 (by omega))).nodes
  have no:nth a k≠nth b k->false=decide (a=b):=fun q=>(decide_eq_false fun e=>q (by rw [e])).symm
  by_cases hw:(nth a k).word=(nth b k).word
  ·have d1:((nth a k).word != (nth b k).word)=false:=by simpa using hw
   by_cases hn:(nth a k).nodes=(nth b k).nodes
   ·rw [show ((nth a k).nodes==(nth b k).nodes)=true by simpa using hn] at cS
    have he:nth a k=nth b k:=by
     generalize nth a k=x at hw hn
     generalize nth b k=y at hw hn
     cases x;cases y;simp_all
    repeat' (first | ((with_reducible refine brC (fun _=>?_) fun _=>?_) <;> try (exfalso;omega)) | (with_reducible apply pcallE.of; · exact cS) | (with_reducible refine And.intro ?_ ?_; · omega) | simp -dsimp -implicitDefEqProofs (disch:=omega) only [↓T5 28,VCA,Nat.reduceEqDiff,Nat.reduceAdd,Nat.reduceLeDiff,↓reduceIte,reduceCtorEq,Y8,Z0,J1,X8,e0,e1,e5,d1,X8])
    all_goals first
     | exact ⟨_,by omega,k+1,by omega,rfl,by omega,fun j hj'=>by
        by_cases q:j=k
        ·rw [q];exact he
        ·exact hj j (by omega)⟩
     | trace_state
   ·rw [show ((nth a k).nodes==(nth b k).nodes)=false by simpa using hn] at cS
    repeat' (first | ((with_reducible refine brC (fun _=>?_) fun _=>?_) <;> try (exfalso;omega)) | (with_reducible apply pcallE.of; · exact cS) | (with_reducible refine And.intro ?_ ?_; · omega) | simp -dsimp -implicitDefEqProofs (disch:=omega) only [↓T5 28,VCA,Nat.reduceEqDiff,Nat.reduceAdd,Nat.reduceLeDiff,↓reduceIte,reduceCtorEq,Y8,Z0,exists_eq_right_right,J1,X8,e0,e1,e5,d1,X8])
    all_goals first
     | exact ⟨Sub.refl _,no fun q=>hn (by rw [q])⟩
     | trace_state
  ·have d1:((nth a k).word != (nth b k).word)=true:=by simpa using hw
   repeat' (first | ((with_reducible refine brC (fun _=>?_) fun _=>?_) <;> try (exfalso;omega)) | (with_reducible refine And.intro ?_ ?_; · omega) | simp -dsimp -implicitDefEqProofs (disch:=omega) only [↓T5 28,VCA,Nat.reduceEqDiff,Nat.reduceAdd,Nat.reduceLeDiff,↓reduceIte,reduceCtorEq,Y8,Z0,exists_eq_right_right,J1,X8,e0,e1,e5,d1,X8])
   all_goals first
    | exact ⟨Sub.refl _,no fun q=>hw (by rw [q])⟩
    | trace_state
 ·obtain rfl:k=a.length:=by omega
  simp -dsimp -implicitDefEqProofs (disch:=omega) only [VCA,↓reduceIte,exists_eq_right_right]
  have he:a=b:=by
   apply List.ext_getElem?
   intro j
   by_cases hlt:j<a.length
   ·rw [J5 hlt,J5 (by omega),hj j hlt]
   ·rw [List.getElem?_eq_none (by omega),List.getElem?_eq_none (by omega)]
  exact ⟨Sub.refl _,(decide_eq_true he).symm⟩
structure IdxSm (x:HIdx):Prop where
 ids:RefsSm x.ids
 classes:RefsSm x.classes
 tags:RefsSm x.tags
 names:RefsSm x.names
def c8:SFun:=⟨.seq (.reg [o 2 (.boxF 27 4 (.t 0)),o 3 (.boxF 27 4 (.t 1)),o 4 (.mv (.c (.bool false)))]) (.seq (.reg [o 5 (.fldA 0 (.t 2)),o 6 (.ld 1 false (.t 5)),o 7 (.fldA 0 (.t 3)),o 8 (.ld 1 false (.t 7)),o 9 (.pcall 28 [.t 6,.t 8]),o 10 (.mv (.t 9)),⟨some 11,.fldA 1 (.t 2),some (10,true)⟩,⟨some 12,.ld 1 false (.t 11),some (10,true)⟩,⟨some 13,.fldA 1 (.t 3),some (10,true)⟩,⟨some 14,.ld 1 false (.t 13),some (10,true)⟩,⟨some 15,.pcall 28 [.t 12,.t 14],some (10,true)⟩,o 16 (.pick (.t 10) (.t 15) (.c (.bool false))),o 17 (.mv (.t 16)),⟨some 18,.fldA 2 (.t 2),some (17,true)⟩,⟨some 19,.ld 1 false (.t 18),some (17,true)⟩,⟨some 20,.fldA 2 (.t 3),some (17,true)⟩,⟨some 21,.ld 1 false (.t 20),some (17,true)⟩,⟨some 22,.pcall 28 [.t 19,.t 21],some (17,true)⟩,o 23 (.pick (.t 17) (.t 22) (.c (.bool false))),o 24 (.mv (.t 23)),⟨some 25,.fldA 3 (.t 2),some (24,true)⟩,⟨some 26,.ld 1 false (.t 25),some (24,true)⟩,⟨some 27,.fldA 3 (.t 3),some (24,true)⟩,⟨some 28,.ld 1 false (.t 27),some (24,true)⟩,⟨some 29,.pcall 28 [.t 26,.t 28],some (24,true)⟩,o 30 (.pick (.t 24) (.t 29) (.c (.bool false))),o 4 (.mv (.t 30))]) .ret),[.tmp 4]⟩
theorem hc8:Y3 Tryz.prog {pure:=[28]} Tryz.f8=some c8:=by kernel_rfl
theorem sameIndex_ok (a b:HIdx) (ha:IdxSm a) (hb:IdxSm b):PCalls (Pg G) 8 [.agg (QQ a),.agg (QQ b)] (.bool (decide (a=b))):=fun h=>by
 have c1:=sameRefs_ok (G:=G) a.ids b.ids ha.ids hb.ids
 have c2:=sameRefs_ok (G:=G) a.classes b.classes ha.classes hb.classes
 have c3:=sameRefs_ok (G:=G) a.tags b.tags ha.tags hb.tags
 have c4:=sameRefs_ok (G:=G) a.names b.names ha.names hb.names
 have key:decide (a=b)=(decide (a.ids=b.ids)&&(decide (a.classes=b.classes)&&(decide (a.tags=b.tags)&&decide (a.names=b.names)))):=by
  cases a;cases b;simp
 rw [key]
 refine Q0 Tryz.func8 (by kernel_rfl) hc8 (by rw [Tryz.ntmps8];simp) (by rw [Tryz.ntmps8];decide) ?_
 simp -dsimp -implicitDefEqProofs (disch:=omega) only [VCA,Nat.reduceEqDiff,Nat.reduceAdd,Nat.reduceLeDiff,↓reduceIte,QQ,c8,QQ]
 repeat' (first | ((with_reducible refine brC (fun _=>?_) fun _=>?_) <;> try (exfalso;omega)) | (with_reducible apply pcallE.of; · exact c1) | (with_reducible apply pcallE.of; · exact c2) | (with_reducible apply pcallE.of; · exact c3) | (with_reducible apply pcallE.of; · exact c4) | (with_reducible refine And.intro ?_ ?_; · omega) | simp -dsimp -implicitDefEqProofs (disch:=omega) only [↓Q1 10,↓Q1 17,↓Q1 24,VCA,Nat.reduceEqDiff,Nat.reduceAdd,Nat.reduceLeDiff,↓reduceIte,exists_eq_right_right])
 all_goals exact ⟨Sub.refl _,by simp_all⟩
def c45:SFun:=⟨.seq (.reg [o 4 (.mv (.c (.bool false)))]) (.seq (.seq (.reg [o 6 (.mv (.t 0)),o 7 (.len (.t 6)),o 8 (.mv (.t 1)),o 9 (.len (.t 8)),o 10 (.bin .neq (.t 7) (.t 9))]) (.cond (.t 10) (.seq (.reg [o 4 (.mv (.c (.bool false)))]) .ret) .skip)) (.seq (.seq (.reg [o 11 (.mv (.t 0)),o 12 (.len (.t 11)),o 13 (.mv (.c (.int .i64 0)))]) (.block 0 (.loop (.seq (.reg [o 14 (.bin .lss (.t 13) (.t 12))]) (.seq (.cond (.t 14) .skip (.exit 0)) (.seq (.block 1 (.seq (.reg [o 15 (.mv (.t 13)),o 5 (.mv (.t 15))]) (.seq (.dreg [(o 16 (.mv (.t 0)),none),(o 17 (.mv (.t 5)),none),(o 18 (.idxA 1 (.t 16) (.t 17)),none),(o 19 (.ld 1 false (.t 18)),none),(o 20 (.mv (.t 1)),none),(o 21 (.mv (.t 5)),none),(o 22 (.idxA 1 (.t 20) (.t 21)),none),(o 23 (.ld 1 false (.t 22)),none),(o 24 (.bin .neq (.t 19) (.t 23)),none)]) (.cond (.t 24) (.seq (.reg [o 4 (.mv (.c (.bool false)))]) .ret) .skip)))) (.reg [o 25 (.bin .add (.t 13) (.c (.int .i64 1))),o 13 (.mv (.t 25))]))))))) (.seq (.reg [o 4 (.mv (.c (.bool true)))]) .ret))),[.tmp 4]⟩
theorem hc45:Y3 Tryz.prog {} Tryz.f45=some c45:=by kernel_rfl
theorem equalI_ok (x y:List Int) (hx:x.length<=1073741824) (hy:y.length<=1073741824):PCalls (Pg G) 45 [sl Z6 x,sl Z6 y] (.bool (x==y)):=fun h=>by
 by_cases hl:x.length=y.length
 ·have b0:((x.length:Int) != (y.length:Int))=false:=by simp [hl]
  refine Q0 Tryz.func45 (by kernel_rfl) hc45 (by rw [Tryz.ntmps45];simp) (by rw [Tryz.ntmps45];decide) ?_
  simp -dsimp -implicitDefEqProofs (disch:=omega) only [VCA,Nat.reduceEqDiff,↓reduceIte,reduceCtorEq,c45,b0]
  repeat' (first | ((with_reducible refine brC (fun _=>?_) fun _=>?_) <;> try (exfalso;omega)) | (with_reducible refine And.intro ?_ ?_; · omega) | simp -dsimp -implicitDefEqProofs (disch:=omega) only [VCA,pg_gl,↓X6,Nat.reduceEqDiff,Nat.reduceBEq,Nat.reduceAdd,Nat.reduceSub,Nat.reduceMul,Nat.reduceLT,Nat.reduceLeDiff,↓reduceIte,reduceCtorEq,Y8,Z0,SOp.rd,SI.rd,SX.rd,rdL,rdO,rdP,Z7,X4,Y4,K8,X3,Z8,implies_true,forall_const,forall_eq,ne_eq,exists_eq_right_right,exists_eq_right,exists_eq_left,exists_eq_left',J1,Z6,T0,X8,JT,b0])
  refine LoopVC.intro (fun m e h'=>∃ k:Nat,k<=x.length/\m=x.length-k/\e 0=sl Z6 x/\e 1=sl Z6 y/\e 12=Q3 x.length/\e 13=Q3 k/\h'=h /\ ∀ j,j<k->nth x j=nth y j) x.length
   (by exact ⟨0,by omega,by omega,rfl,rfl,rfl,rfl,rfl,fun j hj=>by omega⟩) ?_
  rintro m e h' ⟨k,hk,rfl,e0,e1,e12,e13,rfl,hj⟩
  by_cases hlt:k<x.length
  ·have d1:decide ((k:Int)<(x.length:Int))=true:=decide_eq_true (by omega)
   obtain ⟨a,ha⟩:∃ a,nth x k=a:=⟨_,rfl⟩
   obtain ⟨b,hb⟩:∃ b,nth y k=b:=⟨_,rfl⟩
   by_cases hab:a=b
   ·have b1:(a != b)=false:=by simpa using hab
    repeat' (first | ((with_reducible refine brC (fun _=>?_) fun _=>?_) <;> try (exfalso;omega)) | (with_reducible refine And.intro ?_ ?_; · omega) | simp -dsimp -implicitDefEqProofs (disch:=omega) only [VCA,Nat.reduceEqDiff,↓reduceIte,reduceCtorEq,Y8,Z0,J1,Z6,e0,e1,e12,e13,d1,ha,hb,b1])
    all_goals first
     | (refine ⟨_,by omega,k+1,by omega,rfl,by omega,fun j hj'=>?_⟩
        by_cases hjk:j=k
        ·subst hjk;rw [ha,hb,hab]
        ·exact hj j (by omega))
     | trace_state
   ·have b1:(a != b)=true:=by simpa using hab
    have hne:(x==y)=false:=by
     rw [beq_eq_false_iff_ne]
     intro q;subst q
     exact hab (ha.symm.trans hb)
    rw [hne]
    repeat' (first | ((with_reducible refine brC (fun _=>?_) fun _=>?_) <;> try (exfalso;omega)) | (with_reducible refine And.intro ?_ ?_; · omega) | simp -dsimp -implicitDefEqProofs (disch:=omega) only [VCA,Nat.reduceEqDiff,↓reduceIte,reduceCtorEq,Y8,Z0,exists_eq_right,J1,Z6,e0,e1,e12,e13,d1,ha,hb,b1])
    all_goals first | exact Sub.refl _ | exact ⟨Sub.refl _,rfl⟩ | trace_state
  ·obtain rfl:k=x.length:=by omega
   have d1:decide ((x.length:Int)<(x.length:Int))=false:=decide_eq_false (by omega)
   have heq:(x==y)=true:=by
    rw [beq_iff_eq]
    apply List.ext_getElem?
    intro j
    by_cases hjl:j<x.length
    ·rw [J5 hjl,J5 (show j<y.length by omega),hj j hjl]
    ·rw [List.getElem?_eq_none (by omega),List.getElem?_eq_none (by omega)]
   rw [heq]
   repeat' (first | ((with_reducible refine brC (fun _=>?_) fun _=>?_) <;> try (exfalso;omega)) | (with_reducible refine And.intro ?_ ?_; · omega) | simp -dsimp -implicitDefEqProofs (disch:=omega) only [VCA,↓reduceIte,exists_eq_right,e12,e13,d1])
   all_goals first | exact Sub.refl _ | exact ⟨Sub.refl _,rfl⟩ | trace_state
 ·have b0:((x.length:Int) != (y.length:Int))=true:=by simp;omega
  have hne:(x==y)=false:=by
   rw [beq_eq_false_iff_ne]
   intro q;exact hl (congrArg List.length q)
  rw [hne]
  refine Q0 Tryz.func45 (by kernel_rfl) hc45 (by rw [Tryz.ntmps45];simp) (by rw [Tryz.ntmps45];decide) ?_
  simp -dsimp -implicitDefEqProofs (disch:=omega) only [VCA,Nat.reduceEqDiff,↓reduceIte,reduceCtorEq,exists_eq_right,c45,b0]
  repeat' (first | ((with_reducible refine brC (fun _=>?_) fun _=>?_) <;> try (exfalso;omega)) | (with_reducible refine And.intro ?_ ?_; · omega) | simp -dsimp -implicitDefEqProofs (disch:=omega) only [VCA,pg_gl,↓X6,Nat.reduceEqDiff,Nat.reduceBEq,Nat.reduceAdd,Nat.reduceSub,Nat.reduceMul,Nat.reduceLT,Nat.reduceLeDiff,↓reduceIte,reduceCtorEq,Y8,Z0,SOp.rd,SI.rd,SX.rd,rdL,rdO,rdP,Z7,X4,Y4,K8,X3,Z8,implies_true,forall_const,forall_eq,ne_eq,exists_eq_right_right,exists_eq_right,exists_eq_left,exists_eq_left',J1,Z6,T0,X8,JT,b0])
  all_goals first | exact Sub.refl _ | exact ⟨Sub.refl _,rfl⟩ | trace_state
def c44:SFun:=⟨.seq (.reg [o 2 (.boxF 87 2 (.t 0)),o 3 (.boxF 87 2 (.t 1)),o 4 (.mv (.c (.bool false)))]) (.seq (.reg [o 5 (.fldA 0 (.t 2)),o 6 (.ld 1 false (.t 5)),o 7 (.fldA 0 (.t 3)),o 8 (.ld 1 false (.t 7)),o 9 (.bin .eql (.t 6) (.t 8)),o 10 (.mv (.t 9)),⟨some 11,.fldA 1 (.t 2),some (10,true)⟩,⟨some 12,.ld 1 false (.t 11),some (10,true)⟩,⟨some 13,.fldA 1 (.t 3),some (10,true)⟩,⟨some 14,.ld 1 false (.t 13),some (10,true)⟩,⟨some 15,.pcall 45 [.t 12,.t 14],some (10,true)⟩,o 16 (.pick (.t 10) (.t 15) (.c (.bool false))),o 4 (.mv (.t 16))]) .ret),[.tmp 4]⟩
theorem hc44:Y3 Tryz.prog {pure:=[45]} Tryz.f44=some c44:=by kernel_rfl
theorem same1_ok (x y:HRef) (hx:x.nodes.length<=1073741824) (hy:y.nodes.length<=1073741824):PCalls (Pg G) 44 [.agg (X8 x),.agg (X8 y)] (.bool (x==y)):=fun h=>by
 have c1:=equalI_ok (G:=G) x.nodes y.nodes hx hy
 have hxy:(x==y)=((x.word==y.word)&&(x.nodes==y.nodes)):=by
  cases x;cases y
  rw [Bool.eq_iff_iff,beq_iff_eq,Bool.and_eq_true,beq_iff_eq,beq_iff_eq]
  simp
 rw [hxy]
 generalize (x.nodes==y.nodes)=b2 at *
 obtain ⟨b1,h1⟩:∃ b,(x.word==y.word)=b:=⟨_,rfl⟩
 rw [h1]
 cases b1
 all_goals
  refine Q0 Tryz.func44 (by kernel_rfl) hc44 (by rw [Tryz.ntmps44];simp) (by rw [Tryz.ntmps44];decide) ?_
  simp -dsimp -implicitDefEqProofs (disch:=omega) only [↓Q1 10,VCA,Nat.reduceEqDiff,Nat.reduceAdd,Nat.reduceLeDiff,↓reduceIte,exists_eq_right_right,X8,c44,h1]
  repeat' (first | ((with_reducible refine brC (fun _=>?_) fun _=>?_) <;> try (exfalso;omega)) | (with_reducible apply pcallE.of; · exact c1) | (with_reducible refine And.intro ?_ ?_; · omega) | simp -dsimp -implicitDefEqProofs (disch:=omega) only [VCA,Nat.reduceEqDiff,↓reduceIte,exists_eq_right_right])
 all_goals first | exact Sub.refl _ | exact ⟨Sub.refl _,rfl⟩ | trace_state
def c43:SFun:=⟨.seq (.reg [o 6 (.mv (.c (.bool false)))]) (.seq (.seq (.reg [o 10 (.mv (.t 0)),o 11 (.len (.t 10)),o 12 (.mv (.t 1)),o 13 (.len (.t 12)),o 14 (.bin .neq (.t 11) (.t 13))]) (.cond (.t 14) (.seq (.reg [o 6 (.mv (.c (.bool false)))]) .ret) .skip)) (.seq (.seq (.reg [o 15 (.mv (.t 0)),o 16 (.len (.t 15)),o 17 (.mv (.c (.int .i64 0)))]) (.block 0 (.loop (.seq (.reg [o 18 (.bin .lss (.t 17) (.t 16))]) (.seq (.cond (.t 18) .skip (.exit 0)) (.seq (.block 1 (.seq (.reg [o 19 (.mv (.t 17)),o 20 (.idxA 2 (.t 15) (.t 17)),o 21 (.ld 2 true (.t 20)),o 8 (.new 87 2 [.str [],.emp]),o 7 (.mv (.t 19)),⟨none,.st 2 (.t 8) (.t 21),none⟩]) (.seq (.reg [o 22 (.mv (.t 1)),o 23 (.mv (.t 7)),o 24 (.idxA 2 (.t 22) (.t 23)),o 25 (.ld 2 true (.t 24)),o 9 (.new 87 2 [.str [],.emp]),⟨none,.st 2 (.t 9) (.t 25),none⟩]) (.seq (.reg [o 26 (.mv (.t 2)),o 27 (.ld 2 true (.t 8)),o 28 (.ld 2 true (.t 9)),o 29 (.call (.t 26) [.t 27,.t 28]),o 30 (.un .not (.t 29))]) (.cond (.t 30) (.seq (.reg [o 6 (.mv (.c (.bool false)))]) .ret) .skip))))) (.reg [o 31 (.bin .add (.t 17) (.c (.int .i64 1))),o 17 (.mv (.t 31))]))))))) (.seq (.reg [o 6 (.mv (.c (.bool true)))]) .ret))),[.tmp 6]⟩
theorem hc43:Y3 Tryz.prog {} Tryz.f43=some c43:=by kernel_rfl
theorem equalR_ok (x y:List HRef) (hx:x.length<=1073741824) (hy:y.length<=1073741824) (sx:∀ r∈x,r.nodes.length<=1073741824) (sy:∀ r∈y,r.nodes.length<=1073741824) :
 PCalls (Pg G) 43 [sl X8 x,sl X8 y,.fn 44 [] []] (.bool (x==y)):=fun h=>by
 by_cases hl:x.length=y.length
 ·have b0:((x.length:Int) != (y.length:Int))=false:=by simp [hl]
  refine Q0 Tryz.func43 (by kernel_rfl) hc43 (by rw [Tryz.ntmps43];simp) (by rw [Tryz.ntmps43];decide) ?_
  simp -dsimp -implicitDefEqProofs (disch:=omega) only [VCA,Nat.reduceEqDiff,↓reduceIte,reduceCtorEq,c43,b0]
  repeat' (first | ((with_reducible refine brC (fun _=>?_) fun _=>?_) <;> try (exfalso;omega)) | (with_reducible refine And.intro ?_ ?_; · omega) | simp -dsimp -implicitDefEqProofs (disch:=omega) only [VCA,pg_gl,↓X6,Nat.reduceEqDiff,Nat.reduceBEq,Nat.reduceAdd,Nat.reduceSub,Nat.reduceMul,Nat.reduceLT,Nat.reduceLeDiff,↓reduceIte,reduceCtorEq,Y8,Z0,SOp.rd,SI.rd,SX.rd,rdL,rdO,rdP,Z7,X4,Y4,K8,X3,Z8,implies_true,forall_const,forall_eq,ne_eq,exists_eq_right_right,exists_eq_right,exists_eq_left,exists_eq_left',J1,Z6,T0,X8,JT,b0])
  refine LoopVC.intro (fun m e h'=>∃ k:Nat,k<=x.length/\m=x.length-k/\e 1=sl X8 y/\e 2=.fn 44 [] []/\e 15=sl X8 x/\e 16=Q3 x.length/\e 17=Q3 k/\Sim.Sub h h' /\ ∀ j,j<k->nth x j=nth y j) x.length
   (by exact ⟨0,by omega,by omega,rfl,rfl,rfl,rfl,rfl,Sub.refl _,fun j hj=>by omega⟩) ?_
  rintro m e h' ⟨k,hk,rfl,e1,e2,e15,e16,e17,S,hj⟩
  by_cases hlt:k<x.length
  ·have d1:decide ((k:Int)<(x.length:Int))=true:=decide_eq_true (by omega)
   have hy':k<y.length:=by omega
   have g:=same1_ok (G:=G) (nth x k) (nth y k) (sx _ (Y7 hlt)) (sy _ (Y7 hy'))
   obtain ⟨a,ha⟩:∃ a,nth x k=a:=⟨_,rfl⟩
   obtain ⟨b,hb⟩:∃ b,nth y k=b:=⟨_,rfl⟩
   rw [ha,hb] at g
   by_cases hab:a=b
   ·have b1:(a==b)=true:=by simpa using hab
    rw [b1] at g
    repeat' (first | ((with_reducible refine brC (fun _=>?_) fun _=>?_) <;> try (exfalso;omega)) | (with_reducible refine And.intro ?_ ?_; · omega) | simp -dsimp -implicitDefEqProofs (disch:=omega) only [VCA,↓X6,Nat.reduceEqDiff,Nat.reduceAdd,Nat.reduceLT,↓reduceIte,Z8,ne_eq,exists_eq_left',X8,e1,e2,e15,e16,e17,d1,ha,hb])
    intro r hr
    refine ⟨⟨by omega,by omega⟩,?_⟩
    rintro r1 ⟨q1,q2⟩
    have q1:¬ r=r1:=fun e=>q1 e.symm
    simp only [if_neg q1]
    refine ⟨⟨_,rfl,Nat.zero_lt_one,Nat.le_refl 2⟩,PCalls.of g ?_⟩
    repeat' (first | ((with_reducible refine brC (fun _=>?_) fun _=>?_) <;> try (exfalso;omega)) | (with_reducible refine And.intro ?_ ?_; · omega) | simp -dsimp -implicitDefEqProofs (disch:=omega) only [VCA,Nat.reduceEqDiff,↓reduceIte,e1,e2,e15,e16,e17])
    refine ⟨_,by omega,k+1,by omega,rfl,by first | rfl | omega,(S.upd (S.none hr)).upd (S.none q2),fun j hj'=>?_⟩
    by_cases hjk:j=k
    ·subst hjk;rw [ha,hb,hab]
    ·exact hj j (by omega)
   ·have b1:(a==b)=false:=by simpa using hab
    rw [b1] at g
    have hne:(x==y)=false:=by
     rw [beq_eq_false_iff_ne]
     intro q;subst q
     exact hab (ha.symm.trans hb)
    rw [hne]
    repeat' (first | ((with_reducible refine brC (fun _=>?_) fun _=>?_) <;> try (exfalso;omega)) | (with_reducible refine And.intro ?_ ?_; · omega) | simp -dsimp -implicitDefEqProofs (disch:=omega) only [VCA,↓X6,Nat.reduceEqDiff,Nat.reduceAdd,Nat.reduceLT,↓reduceIte,Z8,ne_eq,exists_eq_left',X8,e1,e2,e15,e16,e17,d1,ha,hb])
    intro r hr
    refine ⟨⟨by omega,by omega⟩,?_⟩
    rintro r1 ⟨q1,q2⟩
    have q1:¬ r=r1:=fun e=>q1 e.symm
    simp only [if_neg q1]
    refine ⟨⟨_,rfl,Nat.zero_lt_one,Nat.le_refl 2⟩,PCalls.of g ?_⟩
    repeat' (first | ((with_reducible refine brC (fun _=>?_) fun _=>?_) <;> try (exfalso;omega)) | (with_reducible refine And.intro ?_ ?_; · omega) | simp -dsimp -implicitDefEqProofs (disch:=omega) only [VCA,↓reduceIte,exists_eq_right])
    exact (S.upd (S.none hr)).upd (S.none q2)
  ·obtain rfl:k=x.length:=by omega
   have d1:decide ((x.length:Int)<(x.length:Int))=false:=decide_eq_false (by omega)
   have heq:(x==y)=true:=by
    rw [beq_iff_eq]
    apply List.ext_getElem?
    intro j
    by_cases hjl:j<x.length
    ·rw [J5 hjl,J5 (show j<y.length by omega),hj j hjl]
    ·rw [List.getElem?_eq_none (by omega),List.getElem?_eq_none (by omega)]
   rw [heq]
   repeat' (first | ((with_reducible refine brC (fun _=>?_) fun _=>?_) <;> try (exfalso;omega)) | (with_reducible refine And.intro ?_ ?_; · omega) | simp -dsimp -implicitDefEqProofs (disch:=omega) only [VCA,↓reduceIte,exists_eq_right,e16,e17,d1])
   all_goals first | exact S | exact ⟨S,rfl⟩ | trace_state
 ·have b0:((x.length:Int) != (y.length:Int))=true:=by simp;omega
  have hne:(x==y)=false:=by
   rw [beq_eq_false_iff_ne]
   intro q;exact hl (congrArg List.length q)
  rw [hne]
  refine Q0 Tryz.func43 (by kernel_rfl) hc43 (by rw [Tryz.ntmps43];simp) (by rw [Tryz.ntmps43];decide) ?_
  simp -dsimp -implicitDefEqProofs (disch:=omega) only [VCA,Nat.reduceEqDiff,↓reduceIte,reduceCtorEq,exists_eq_right,c43,b0]
  repeat' (first | ((with_reducible refine brC (fun _=>?_) fun _=>?_) <;> try (exfalso;omega)) | (with_reducible refine And.intro ?_ ?_; · omega) | simp -dsimp -implicitDefEqProofs (disch:=omega) only [VCA,pg_gl,↓X6,Nat.reduceEqDiff,Nat.reduceBEq,Nat.reduceAdd,Nat.reduceSub,Nat.reduceMul,Nat.reduceLT,Nat.reduceLeDiff,↓reduceIte,reduceCtorEq,Y8,Z0,SOp.rd,SI.rd,SX.rd,rdL,rdO,rdP,Z7,X4,Y4,K8,X3,Z8,implies_true,forall_const,forall_eq,ne_eq,exists_eq_right_right,exists_eq_right,exists_eq_left,exists_eq_left',J1,Z6,T0,X8,JT,b0])
  all_goals first | exact Sub.refl _ | exact ⟨Sub.refl _,rfl⟩ | trace_state
def c21:SFun:=⟨.seq (.reg [o 4 (.mv (.c (.bool false)))]) (.seq (.reg [o 5 (.mv (.t 0)),o 6 (.mv (.t 1)),o 7 (.pcall 43 [.t 5,.t 6,.c (.fn 44 [] [])]),o 4 (.mv (.t 7))]) .ret),[.tmp 4]⟩
theorem hc21:Y3 Tryz.prog {pure:=[43]} Tryz.f21=some c21:=by kernel_rfl
theorem same_ok (x y:List HRef) (hx:x.length<=1073741824) (hy:y.length<=1073741824) (sx:∀ r∈x,r.nodes.length<=1073741824) (sy:∀ r∈y,r.nodes.length<=1073741824):PCalls (Pg G) 21 [sl X8 x,sl X8 y] (.bool (x==y)):=fun h=>by
 have c1:=equalR_ok (G:=G) x y hx hy sx sy
 refine Q0 Tryz.func21 (by kernel_rfl) hc21 (by rw [Tryz.ntmps21];simp) (by rw [Tryz.ntmps21];decide) ?_
 simp -dsimp -implicitDefEqProofs (disch:=omega) only [VCA,Nat.reduceEqDiff,↓reduceIte,reduceCtorEq,c21]
 repeat' (first | ((with_reducible refine brC (fun _=>?_) fun _=>?_) <;> try (exfalso;omega)) | (with_reducible apply pcallE.of; · exact c1) | (with_reducible refine And.intro ?_ ?_; · omega) | simp -dsimp -implicitDefEqProofs (disch:=omega) only [VCA,↓reduceIte,exists_eq_right])
 all_goals exact Sub.refl _
def c50:SFun:=⟨.seq (.reg [o 2 (.boxF 24 2 (.t 0)),o 4 (.mv (.c .emp))]) (.seq (.reg [o 8 (.mv (.t 1)),o 9 (.bldR 3 1 [.t 8]),o 5 (.mv (.t 9))]) (.seq (.seq (.reg [o 10 (.fldA 0 (.t 2)),o 11 (.ld 1 false (.t 10)),o 12 (.mv (.t 1)),o 13 (.idxA 6 (.t 11) (.t 12)),o 14 (.fldA 5 (.t 13)),o 15 (.ld 1 false (.t 14)),o 16 (.len (.t 15)),o 17 (.mv (.c (.int .i64 0)))]) (.block 0 (.loop (.seq (.reg [o 18 (.bin .lss (.t 17) (.t 16))]) (.seq (.cond (.t 18) .skip (.exit 0)) (.seq (.block 1 (.seq (.reg [o 19 (.idxA 1 (.t 15) (.t 17)),o 20 (.ld 1 false (.t 19)),o 7 (.mv (.t 20))]) (.reg [o 21 (.mv (.t 5)),o 22 (.ld 2 true (.t 2)),o 23 (.mv (.t 7)),o 24 (.pcall 50 [.t 22,.t 23]),o 25 (.app 3 1 8 (.t 21) (.t 24)),o 5 (.mv (.t 25))]))) (.reg [o 26 (.bin .add (.t 17) (.c (.int .i64 1))),o 17 (.mv (.t 26))]))))))) (.seq (.reg [o 27 (.mv (.t 5)),o 4 (.mv (.t 27))]) .ret))),[.tmp 4]⟩
theorem hc50:Y3 Tryz.prog {pure:=[50],how:=[(9,2)]} Tryz.f50=some c50:=by kernel_rfl
theorem ixBelow_ok (d:HDoc) (V:DV d) (sm:DocSm d):∀ n,inD d n->PCalls (Pg G) 50 [.agg (Q8 d),Q3 n] (sl Z6 (Z5 d n)):=V.down fun n hn ih=>PCalls.acc (ty:=3) (sz:=1) fun h=>by
 have hl:=V.len
 have n0:=hn.1
 have n1:=hn.2
 have e0:nth d.nodes n.toNat=nd d n:=rfl
 have kl:=(sm.nd n).kids
 have bl:=XV V hn
 rw [W7 V hn] at bl ⊢
 simp only [List.length_cons] at bl
 refine Q0 Tryz.func50 (by kernel_rfl) hc50 (by rw [Tryz.ntmps50];simp) (by rw [Tryz.ntmps50];decide) ?_
 simp -dsimp -implicitDefEqProofs (disch:=omega) only [VCA,Nat.reduceEqDiff,Nat.reduceAdd,Nat.reduceLeDiff,↓reduceIte,Z7,Z6,JT,c50,Q8,Q7,e0]
 intro r hr
 refine ⟨by omega,?_⟩
 refine LoopVC.intro (fun m e h'=>∃ k:Nat,k<=(nd d n).kids.length/\m=(nd d n).kids.length-k/\e 2=.pin [sl Q7 d.nodes,.bool d.quirks]/\e 15=sl Z6 (nd d n).kids/\e 16=Q3 (nd d n).kids.length/\e 17=Q3 k/\Acc h 3 1 ((n :: ((nd d n).kids.take k).flatMap (Z5 d)).map Z6) (e 5) h'/\Sim.Sub h h') (nd d n).kids.length
  ⟨0,by omega,by omega,rfl,rfl,rfl,rfl,Acc.root hr (Q5 _ _ _),(Sub.refl h).upd hr⟩ ?_
 rintro m e h' ⟨k,hk,rfl,e2,e15,e16,e17,A,S⟩
 by_cases hlt:k<(nd d n).kids.length
 ·have d1:decide ((k:Int)<((nd d n).kids.length:Int))=true:=decide_eq_true (by omega)
  have hB:=ih _ (Y7 hlt)
  have hfl:(((nd d n).kids.take (k+1)).flatMap (Z5 d)).length<=((nd d n).kids.flatMap (Z5 d)).length:=by
   conv=>rhs;rw [<-List.take_append_drop (k+1) (nd d n).kids,List.flatMap_append,List.length_append]
   omega
  rw [X1 hlt,List.flatMap_append,List.length_append] at hfl
  simp only [List.flatMap_cons,List.flatMap_nil,List.append_nil] at hfl
  obtain ⟨x,hx⟩:∃ x,nth (nd d n).kids k=x:=⟨_,rfl⟩
  have tk:((nd d n).kids.take (k+1)).flatMap (Z5 d)=((nd d n).kids.take k).flatMap (Z5 d)++Z5 d x:=by rw [X1 hlt,List.flatMap_append,hx];simp
  rw [hx] at hB hfl
  unfold Q8 at hB
  repeat' (first | ((with_reducible refine brC (fun _=>?_) fun _=>?_) <;> try (exfalso;omega)) | (with_reducible apply pcallE.of; · exact hB) | (with_reducible refine And.intro ?_ ?_; · omega) | simp -dsimp -implicitDefEqProofs (disch:=omega) only [VCA,Nat.reduceEqDiff,Nat.reduceAdd,↓reduceIte,exists_eq_left,Z6,e2,e15,e16,e17,d1,hx])
  refine A.app S (by simp only [List.length_map,List.length_cons];omega) (by simp only [List.length_map,List.length_cons];omega) fun a' h'' A' S'=>?_
  simp -dsimp -implicitDefEqProofs (disch:=omega) only [VCA,Nat.reduceEqDiff,↓reduceIte,e2,e15,e16,e17]
  refine ⟨_,by omega,k+1,by omega,rfl,by omega,?_,S'⟩
  rw [tk]
  simpa [Z6] using A'
 ·obtain rfl:k=(nd d n).kids.length:=by omega
  have d1:decide (((nd d n).kids.length:Int)<((nd d n).kids.length:Int))=false:=decide_eq_false (by omega)
  rw [List.take_length] at A
  repeat' (first | ((with_reducible refine brC (fun _=>?_) fun _=>?_) <;> try (exfalso;omega)) | (with_reducible refine And.intro ?_ ?_; · omega) | simp -dsimp -implicitDefEqProofs (disch:=omega) only [VCA,Nat.reduceEqDiff,↓reduceIte,Z6,e16,e17,d1])
  all_goals first | exact ⟨_,Sub.refl _,A,S⟩ | trace_state
def c24:SFun:=⟨.seq (.reg [o 2 (.boxF 24 2 (.t 0)),o 3 (.boxF 33 12 (.t 1)),o 4 (.mv (.c .emp))]) (.seq (.seq (.reg [o 5 (.fldA 0 (.t 3)),o 6 (.ld 1 false (.t 5))]) (.block 0 (.seq (.seq (.reg [o 8 (.bin .eql (.t 6) (.c (.int .i64 1))),o 7 (.mv (.t 8))]) (.cond (.t 7) .skip (.reg [o 9 (.bin .eql (.t 6) (.c (.int .i64 2))),o 7 (.mv (.t 9))]))) (.cond (.t 7) (.seq (.reg [o 10 (.fldA 1 (.t 3)),o 11 (.ld 1 false (.t 10)),o 12 (.bldF 3 1 [.t 11]),o 4 (.mv (.t 12))]) .ret) (.seq (.reg [o 14 (.bin .eql (.t 6) (.c (.int .i64 5))),o 13 (.mv (.t 14))]) (.cond (.t 13) (.seq (.reg [o 15 (.ld 2 true (.t 2)),o 16 (.fldA 2 (.t 3)),o 17 (.ld 1 false (.t 16)),o 18 (.pcall 50 [.t 15,.t 17]),o 4 (.mv (.t 18))]) .ret) (.seq (.reg [o 20 (.bin .eql (.t 6) (.c (.int .i64 6))),o 19 (.mv (.t 20))]) (.cond (.t 19) (.seq (.reg [o 21 (.ld 2 true (.t 2)),o 22 (.fldA 1 (.t 3)),o 23 (.ld 1 false (.t 22)),o 24 (.pcall 50 [.t 21,.t 23]),o 4 (.mv (.t 24))]) .ret) .skip)))))))) (.seq (.reg [o 4 (.mv (.c .emp))]) .ret)),[.tmp 4]⟩
theorem hc24:Y3 Tryz.prog {pure:=[50]} Tryz.f24=some c24:=by kernel_rfl
theorem hn24 : (Tryz.f24.name == "runtime.NumGoroutine") = false := by kernel_rfl
theorem touched_ok (d:HDoc) (V:DV d) (sm:DocSm d) (e:HEdit) (h5:e.do'=5->inD d e.into) (h6:e.do'=6->inD d e.at'):PCalls (Pg G) 24 [.agg (Q8 d),.agg (Z4 e)] (sl Z6 (tcM d e)):=fun h=>by
 have t2:(Q8 d).length=2:=rfl
 have t3:(Z4 e).length=12:=rfl
 by_cases c1:e.do'=1
 ·have b1:(e.do'==1)=true:=by simpa using c1
  have hT:tcM d e=[e.at']:=by unfold tcM;rw [if_pos (.inl c1)]
  rw [hT]
  refine Q0 Tryz.func24 hn24 hc24 (by rw [Tryz.ntmps24];simp) (by rw [Tryz.ntmps24];decide) ?_
  simp -dsimp -implicitDefEqProofs (disch:=omega) only [VCA,Nat.reduceEqDiff,Nat.reduceAdd,Nat.reduceLeDiff,↓reduceIte,Z7,exists_eq_right_right,c24,Z4,b1]
  repeat' (first | ((with_reducible refine brC (fun _=>?_) fun _=>?_) <;> try (exfalso;omega)) | (with_reducible refine And.intro ?_ ?_; · omega) | simp -dsimp -implicitDefEqProofs (disch:=omega) only [VCA,pg_gl,↓X6,Nat.reduceEqDiff,Nat.reduceBEq,Nat.reduceAdd,Nat.reduceSub,Nat.reduceMul,Nat.reduceLT,Nat.reduceLeDiff,↓reduceIte,reduceCtorEq,Y8,Z0,SOp.rd,SI.rd,SX.rd,rdL,rdO,rdP,Z7,X4,Y4,K8,X3,Z8,implies_true,forall_const,forall_eq,ne_eq,exists_eq_right_right,exists_eq_right,exists_eq_left,exists_eq_left',J1,Z6,T0,X8,JT,b1,Z4])
  all_goals first | exact Sub.refl _ | exact ⟨Sub.refl _,rfl⟩ | trace_state
 ·have b1:(e.do'==1)=false:=by simpa using c1
  by_cases c2:e.do'=2
  ·have b2:(e.do'==2)=true:=by simpa using c2
   have hT:tcM d e=[e.at']:=by unfold tcM;rw [if_pos (.inr c2)]
   rw [hT]
   refine Q0 Tryz.func24 hn24 hc24 (by rw [Tryz.ntmps24];simp) (by rw [Tryz.ntmps24];decide) ?_
   simp -dsimp -implicitDefEqProofs (disch:=omega) only [VCA,Nat.reduceEqDiff,Nat.reduceAdd,Nat.reduceLeDiff,↓reduceIte,Z7,exists_eq_right_right,c24,Z4,b1,b2]
   repeat' (first | ((with_reducible refine brC (fun _=>?_) fun _=>?_) <;> try (exfalso;omega)) | (with_reducible refine And.intro ?_ ?_; · omega) | simp -dsimp -implicitDefEqProofs (disch:=omega) only [VCA,pg_gl,↓X6,Nat.reduceEqDiff,Nat.reduceBEq,Nat.reduceAdd,Nat.reduceSub,Nat.reduceMul,Nat.reduceLT,Nat.reduceLeDiff,↓reduceIte,reduceCtorEq,Y8,Z0,SOp.rd,SI.rd,SX.rd,rdL,rdO,rdP,Z7,X4,Y4,K8,X3,Z8,implies_true,forall_const,forall_eq,ne_eq,exists_eq_right_right,exists_eq_right,exists_eq_left,exists_eq_left',J1,Z6,T0,X8,JT,b1,b2,Z4])
   all_goals first | exact Sub.refl _ | exact ⟨Sub.refl _,rfl⟩ | trace_state
  ·have b2:(e.do'==2)=false:=by simpa using c2
   by_cases c5:e.do'=5
   ·have b5:(e.do'==5)=true:=by simpa using c5
    have hT:tcM d e=Z5 d e.into:=by unfold tcM;rw [if_neg (by omega),if_pos c5]
    rw [hT]
    have cB:=ixBelow_ok (G:=G) d V sm e.into (h5 c5)
    refine Q0 Tryz.func24 hn24 hc24 (by rw [Tryz.ntmps24];simp) (by rw [Tryz.ntmps24];decide) ?_
    simp -dsimp -implicitDefEqProofs (disch:=omega) only [VCA,Nat.reduceEqDiff,Nat.reduceAdd,Nat.reduceLeDiff,↓reduceIte,c24,Z4,b1,b2,b5]
    repeat' (first | ((with_reducible refine brC (fun _=>?_) fun _=>?_) <;> try (exfalso;omega)) | (with_reducible apply pcallE.of; · exact cB) | (with_reducible refine And.intro ?_ ?_; · omega) | simp -dsimp -implicitDefEqProofs (disch:=omega) only [VCA,↓reduceIte,exists_eq_right,KT])
    all_goals first | exact Sub.refl _ | exact ⟨Sub.refl _,rfl⟩ | trace_state
   ·have b5:(e.do'==5)=false:=by simpa using c5
    by_cases c6:e.do'=6
    ·have b6:(e.do'==6)=true:=by simpa using c6
     have hT:tcM d e=Z5 d e.at':=by unfold tcM;rw [if_neg (by omega),if_neg c5,if_pos c6]
     rw [hT]
     have cB:=ixBelow_ok (G:=G) d V sm e.at' (h6 c6)
     refine Q0 Tryz.func24 hn24 hc24 (by rw [Tryz.ntmps24];simp) (by rw [Tryz.ntmps24];decide) ?_
     simp -dsimp -implicitDefEqProofs (disch:=omega) only [VCA,Nat.reduceEqDiff,Nat.reduceAdd,Nat.reduceLeDiff,↓reduceIte,c24,Z4,b1,b2,b5,b6]
     repeat' (first | ((with_reducible refine brC (fun _=>?_) fun _=>?_) <;> try (exfalso;omega)) | (with_reducible apply pcallE.of; · exact cB) | (with_reducible refine And.intro ?_ ?_; · omega) | simp -dsimp -implicitDefEqProofs (disch:=omega) only [VCA,↓reduceIte,exists_eq_right,KT])
     all_goals first | exact Sub.refl _ | exact ⟨Sub.refl _,rfl⟩ | trace_state
    ·have b6:(e.do'==6)=false:=by simpa using c6
     have hT:tcM d e=[]:=by unfold tcM;rw [if_neg (by omega),if_neg c5,if_neg c6]
     rw [hT]
     refine PCalls.out (sz:=1) (cells:=[]) (fun h=>?_) h
     refine Q0 Tryz.func24 hn24 hc24 (by rw [Tryz.ntmps24];simp) (by rw [Tryz.ntmps24];decide) ?_
     simp -dsimp -implicitDefEqProofs (disch:=omega) only [VCA,Nat.reduceEqDiff,Nat.reduceAdd,Nat.reduceLeDiff,↓reduceIte,c24,Z4,b1,b2,b5,b6]
     repeat' (first | ((with_reducible refine brC (fun _=>?_) fun _=>?_) <;> try (exfalso;omega)) | (with_reducible refine And.intro ?_ ?_; · omega) | simp -dsimp -implicitDefEqProofs (disch:=omega) only [VCA,pg_gl,↓X6,Nat.reduceEqDiff,Nat.reduceBEq,Nat.reduceAdd,Nat.reduceSub,Nat.reduceMul,Nat.reduceLT,Nat.reduceLeDiff,↓reduceIte,reduceCtorEq,Y8,Z0,SOp.rd,SI.rd,SX.rd,rdL,rdO,rdP,Z7,X4,Y4,K8,X3,Z8,implies_true,forall_const,forall_eq,ne_eq,exists_eq_right_right,exists_eq_right,exists_eq_left,exists_eq_left',J1,Z6,T0,X8,JT,b1,b2,b5,b6,Z4])
     all_goals first | exact ⟨_,Sub.refl _,.inl ⟨rfl,rfl,rfl⟩⟩ | exact .inl ⟨rfl,rfl,rfl⟩ | trace_state
end Go.Proofs.K
end
section
set_option linter.unusedSimpArgs false
set_option linter.unusedVariables false
namespace Go.Proofs.K
open Go Go.Sim Go.Proofs
variable {G:YZ}
section
variable {d:HDoc} {n:Int} {A B:List Int}
end
theorem DCalls.res {P:PG} {f:Nat} {args:List AVal} {h:Q2} {K K':AVal->Q2->Prop} (hd:DCalls P f args h K) (hk:∀ a h',K a h' -> ∃ b,Wk a b/\K' b h'):DCalls P f args h K':=
 ⟨hd.1,fun g w vs H GR V=>(hd.2 g w vs H GR V).mono fun e w' ⟨v',a,h',g',he,k0,H',Va,S⟩=>by
   obtain ⟨b,hb,k1⟩:=hk a h' k0
   exact ⟨v',b,h',g',he,k1,H',hb.rel Va,S⟩⟩
end Go.Proofs.K
end
section
set_option linter.unusedSimpArgs false
set_option linter.unusedVariables false
namespace Go.Proofs.K
open Go Go.Sim Go.Proofs
variable {G:YZ}
section
variable {d:HDoc}
def path (d:HDoc) (n:Int):List Int:=(X7 d n).reverse
theorem path_len (V:DV d) {n:Int} (hn:inD d n):(path d n).length=up d n+1:=by unfold path;rw [List.length_reverse,chain_len V n hn]
theorem path_up (V:DV d) {n:Int} (hn:inD d n) (hp:0<=(nd d n).parent):path d n=path d (nd d n).parent++[n]:=by unfold path;rw [W8 V hn hp,List.reverse_cons]
theorem path_top (V:DV d) {n:Int} (hp:¬ 0<=(nd d n).parent):path d n=[n]:=by unfold path;rw [T9 V hp];rfl
theorem nth_snoc_lt {l:List Int} {x:Int} {j:Nat} (h:j<l.length):nth (l++[x]) j=nth l j:=by
 unfold nth;rw [List.getD_eq_getElem?_getD,List.getElem?_append_left h,<-List.getD_eq_getElem?_getD]
theorem nth_snoc_eq {l:List Int} {x:Int}:nth (l++[x]) l.length=x:=by simp [nth,List.getD_eq_getElem?_getD]
theorem path_at (V:DV d):∀ n,inD d n -> ∀ j,j<=up d n->nth (path d n) j∈X7 d n/\up d (nth (path d n) j)=j:=V.rise fun n hn ih j hj=>by
 by_cases hp:0<=(nd d n).parent
 ·have hu:=V.up_par hn hp
  have hl:=path_len V (V.par_in hn hp).1
  rw [path_up V hn hp]
  by_cases h1:j=up d n
  ·have:j=(path d (nd d n).parent).length:=by omega
   rw [this,nth_snoc_eq];exact ⟨U1 _ _,by omega⟩
  ·obtain ⟨h2,h3⟩:=ih hp j (by omega)
   rw [nth_snoc_lt (by omega)]
   exact ⟨by rw [W8 V hn hp];exact List.mem_cons_of_mem _ h2,h3⟩
 ·have hu:=V.up_top hp
  obtain rfl:j=0:=by omega
  rw [path_top V hp];exact ⟨U1 _ _,hu⟩
structure Part (d:HDoc) (a b:Int) (i:Nat):Prop where
 pos:1<=i
 la:i<=(path d a).length
 lb:i<=(path d b).length
 eq:∀ j,j<i->nth (path d a) j=nth (path d b) j
 ne:¬ (i<(path d a).length/\i<(path d b).length/\nth (path d a) i=nth (path d b) i)
variable {a b:Int} {i:Nat}
theorem Part.node (V:DV d) (ha:inD d a) (hb:inD d b) (p:Part d a b i):nth (path d a) (i-1)∈X7 d a/\nth (path d a) (i-1)∈X7 d b/\up d (nth (path d a) (i-1))=i-1:=by
 have h1:=path_at V a ha (i-1) (by have:=p.la;rw [path_len V ha] at this;omega)
 have h2:=path_at V b hb (i-1) (by have:=p.lb;rw [path_len V hb] at this;omega)
 exact ⟨h1.1,by rw [p.eq _ (by have:=p.pos;omega)];exact h2.1,h1.2⟩
end
end Go.Proofs.K
end
section
set_option linter.unusedSimpArgs false
set_option linter.unusedVariables false
namespace Go.Proofs.K
open Go Go.Sim Go.Proofs
variable {G:YZ}
structure HPoint where
 node:Int
 at':Int
deriving DecidableEq,Inhabited
def eP (p:HPoint):List AVal:=[Q3 p.node,Q3 p.at']
instance:LenE eP 2:=⟨fun _=>rfl⟩
structure HSpan where
 a:HPoint
 b:HPoint
deriving DecidableEq,Inhabited
def eS (s:HSpan):List AVal:=[Q3 s.a.node,Q3 s.a.at',Q3 s.b.node,Q3 s.b.at']
instance:LenE eS 4:=⟨fun _=>rfl⟩
section
variable {d:HDoc}
end
end Go.Proofs.K
end
section
set_option linter.unusedSimpArgs false
set_option linter.unusedVariables false
namespace Go.Proofs.K
open Go Go.Sim Go.Proofs
section
variable {d:HDoc}
end
end Go.Proofs.K
end
section
set_option linter.unusedSimpArgs false
set_option linter.unusedVariables false
namespace Go.Proofs.K
open Go Go.Sim Go.Proofs
variable {G:YZ}
end Go.Proofs.K
end
