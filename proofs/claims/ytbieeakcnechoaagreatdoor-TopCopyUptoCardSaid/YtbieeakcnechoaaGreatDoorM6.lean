/- Texts of this claim, one behind the other. -/
import Derived.Test.YtbieeakcnechoaaGreatDoorM5
set_option maxHeartbeats 4000000
set_option maxRecDepth 100000
section
set_option linter.unusedSimpArgs false
set_option linter.unusedVariables false
namespace Go.Proofs.K
open Go Go.Sim Go.Proofs
variable {G:U5}
def c8:SFun:=⟨.seq (.reg [o 2 (.mv (.c (.int .i64 0)))]) (.seq (.seq (.reg [o 3 (.mv (.t 0))]) (.block 0 (.seq (.seq (.reg [o 5 (.bin .eql (.t 3) (.c (.str [115,99,114,105,112,116]))),o 4 (.mv (.t 5))]) (.cond (.t 4) .skip (.reg [o 6 (.bin .eql (.t 3) (.c (.str [115,116,121,108,101]))),o 4 (.mv (.t 6))]))) (.cond (.t 4) (.seq (.reg [o 2 (.mv (.c (.int .i64 1)))]) .ret) (.seq (.seq (.reg [o 8 (.bin .eql (.t 3) (.c (.str [116,101,120,116,97,114,101,97]))),o 7 (.mv (.t 8))]) (.cond (.t 7) .skip (.reg [o 9 (.bin .eql (.t 3) (.c (.str [116,105,116,108,101]))),o 7 (.mv (.t 9))]))) (.cond (.t 7) (.seq (.reg [o 2 (.mv (.c (.int .i64 2)))]) .ret) .skip)))))) (.seq (.reg [o 2 (.mv (.c (.int .i64 0)))]) .ret)),[.tmp 2]⟩
theorem hc8:Y6 Tryz.prog {} Tryz.f8=some c8:=by kernel_rfl
theorem hn8 : (Tryz.f8.name == "runtime.NumGoroutine") = false := by kernel_rfl
theorem raw_ok (nm:List UInt8):PCalls (Pg G) 8 [.str nm] (Y0 (rawM nm)):=fun h=>by
 unfold rawM
 refine Z4 Tryz.func8 hn8 hc8 (by rw [Tryz.ntmps8];simp) (by rw [Tryz.ntmps8];decide) ?_
 simp -dsimp -implicitDefEqProofs (disch:=omega) only [VCA,Z1,↓Q3,Nat.reduceEqDiff,Nat.reduceBEq,Nat.reduceAdd,Nat.reduceSub,Nat.reduceMul,Nat.reduceLT,Nat.reduceLeDiff,↓reduceIte,reduceCtorEq,Z3,Q6,SOp.rd,SI.rd,SX.rd,rdL,rdO,rdP,Q5,Q4,Q1,Q8,Q7,Z0,implies_true,forall_const,forall_eq,ne_eq,exists_eq_right_right,exists_eq_right,exists_eq_left,exists_eq_left',Q9,Z5,Z7,J6,Z8,c8]
 repeat' (first | ((with_reducible refine brC (fun _=>?_) fun _=>?_) <;> try (exfalso;omega)) | (with_reducible refine And.intro ?_ ?_; · omega) | simp -dsimp -implicitDefEqProofs (disch:=omega) only [VCA,Z1,↓Q3,Nat.reduceEqDiff,Nat.reduceBEq,Nat.reduceAdd,Nat.reduceSub,Nat.reduceMul,Nat.reduceLT,Nat.reduceLeDiff,↓reduceIte,reduceCtorEq,Z3,Q6,SOp.rd,SI.rd,SX.rd,rdL,rdO,rdP,Q5,Q4,Q1,Q8,Q7,Z0,implies_true,forall_const,forall_eq,ne_eq,exists_eq_right_right,exists_eq_right,exists_eq_left,exists_eq_left',Q9,Z5,Z7,J6,Z8])
 all_goals (refine ⟨Sub.refl _,?_⟩;simp_all)
abbrev WD (d:HDoc):=BlE (sl Z6 d.nodes) (.bool d.quirks)
def textH (d:HDoc) (x:HNode):List UInt8:=if 0<=x.parent/\rawM (nd d x.parent).name=1 then x.text else JU false x.text
theorem textH_len (d:HDoc) {x:HNode} (Z:NodeSz x):(textH d x).length<=2400:=by
 have:=XV false _ x.text (Nat.le_refl _)
 have:=Z.text
 unfold textH;split <;> omega
def c25:SFun:=⟨.seq (.reg [o 3 (.boxF 35 6 (.t 1))]) (.seq (.seq (.dreg [(o 4 (.fldA 4 (.t 3)),none),(o 5 (.ld 1 false (.t 4)),none),(o 6 (.bin .geq (.t 5) (.c (.int .i64 0))),none),(o 7 (.mv (.t 6)),none),(⟨some 8,.mv (.t 0),some (7,true)⟩,none),(⟨some 9,.fldA 0 (.t 8),some (7,true)⟩,none),(⟨some 10,.fldA 2 (.t 9),some (7,true)⟩,none),(⟨some 11,.fldA 0 (.t 10),some (7,true)⟩,none),(⟨some 12,.ld 1 false (.t 11),some (7,true)⟩,none),(⟨some 13,.fldA 4 (.t 3),some (7,true)⟩,none),(⟨some 14,.ld 1 false (.t 13),some (7,true)⟩,none),(⟨some 15,.idxA 6 (.t 12) (.t 14),some (7,true)⟩,none),(⟨some 16,.fldA 1 (.t 15),some (7,true)⟩,none),(⟨some 17,.ld 1 false (.t 16),some (7,true)⟩,none),(⟨some 18,.pcall 8 [.t 17],some (7,true)⟩,none),(⟨some 19,.bin .eql (.t 18) (.c (.int .i64 1)),some (7,true)⟩,none),(o 20 (.pick (.t 7) (.t 19) (.c (.bool false))),none)]) (.cond (.t 20) (.seq (.dreg [(o 21 (.mv (.t 0)),none),(o 22 (.fldA 0 (.t 21)),none),(o 23 (.fldA 0 (.t 22)),none),(o 24 (.fldA 3 (.t 3)),none),(o 25 (.ld 1 false (.t 24)),none),(o 26 (.call (.c (.fn 24 [] [])) [.t 23,.t 25]),(some [25]))]) .ret) .skip)) (.dreg [(o 27 (.mv (.t 0)),none),(o 28 (.fldA 0 (.t 27)),none),(o 29 (.fldA 0 (.t 28)),none),(o 30 (.fldA 3 (.t 3)),none),(o 31 (.ld 1 false (.t 30)),none),(o 32 (.pcall 34 [.t 31,.c (.bool false)]),none),(o 33 (.call (.c (.fn 24 [] [])) [.t 29,.t 32]),(some [31]))])),[]⟩
theorem hc25:Y6 Tryz.prog {pure:=[8,34]} Tryz.f25=some c25:=by kernel_rfl
theorem hn25 : (Tryz.f25.name == "runtime.NumGoroutine") = false := by kernel_rfl
theorem wtext_ok (hG:MaxOK G) (d:HDoc) {x:HNode} (Z:NodeSz x) (hpar:0<=x.parent->inD d x.parent) {h0 h:Z2} {rb:Nat} {s:List UInt8} (B:WD d h0 rb s h) (hs:s.length<=100000000) :
 DCalls (Pg G) 25 [.vp rb 0,.agg (Z6 x)] h fun a h'=>a=.tup []/\WD d h0 rb (s++textH d x) h':=by
 obtain ⟨p,buf,hat⟩:=B.at
 have hE:=escape_ok (G:=G) hG x.text false (by have:=Z.text;omega)
 have hl:=textH_len d Z
 have hW:=U0 (G:=G) (textH d x) B (by omega)
 have hR:=raw_ok (G:=G) (nd d x.parent).name
 by_cases hp:0<=x.parent
 ·have hi:=hpar hp
  have i0:=hi.1
  have i1:=hi.2
  have e0:nth d.nodes x.parent.toNat=nd d x.parent:=rfl
  by_cases hr:rawM (nd d x.parent).name=1
  ·have e:textH d x=x.text:=if_pos ⟨hp,hr⟩
   rw [e] at hW ⊢
   refine Z4 Tryz.func25 hn25 hc25 (by rw [Tryz.ntmps25];simp) (by rw [Tryz.ntmps25];decide) ?_
   simp -dsimp -implicitDefEqProofs (disch:=omega) only [↓Q0 7,↓Q2 7,VCA,Z1,↓Q3,Nat.reduceEqDiff,Nat.reduceBEq,Nat.reduceAdd,Nat.reduceSub,Nat.reduceMul,Nat.reduceLT,Nat.reduceLeDiff,↓reduceIte,reduceCtorEq,Z3,Q6,SOp.rd,SI.rd,SX.rd,rdL,rdO,rdP,Q5,Q4,Q1,Q8,Q7,Z0,implies_true,forall_const,forall_eq,ne_eq,exists_eq_right_right,exists_eq_right,exists_eq_left,exists_eq_left',Q9,Z5,Z7,J6,Z8,c25,Z6,hat]
   repeat' (first | ((with_reducible refine brC (fun _=>?_) fun _=>?_) <;> try (exfalso;omega)) | (with_reducible apply pcallE.of; · exact hR) | (with_reducible refine And.intro ?_ ?_; · omega) | simp -dsimp -implicitDefEqProofs (disch:=omega) only [↓Q0 7,↓Q2 7,VCA,Z1,↓Q3,Nat.reduceEqDiff,Nat.reduceBEq,Nat.reduceAdd,Nat.reduceSub,Nat.reduceMul,Nat.reduceLT,Nat.reduceLeDiff,↓reduceIte,reduceCtorEq,Z3,Q6,SOp.rd,SI.rd,SX.rd,rdL,rdO,rdP,Q5,Q4,Q1,Q8,Q7,Z0,implies_true,forall_const,forall_eq,ne_eq,exists_eq_right_right,exists_eq_right,exists_eq_left,exists_eq_left',Q9,Z5,Z7,J6,Z8,Z6,hat,e0,hr])
   refine DCalls.of hW ?_
   rintro a h2 ⟨rfl,B'⟩
   simp -dsimp -implicitDefEqProofs (disch:=omega) only [↓Q0 7,↓Q2 7,VCA,Z1,↓Q3,Nat.reduceEqDiff,Nat.reduceBEq,Nat.reduceAdd,Nat.reduceSub,Nat.reduceMul,Nat.reduceLT,Nat.reduceLeDiff,↓reduceIte,reduceCtorEq,Z3,Q6,SOp.rd,SI.rd,SX.rd,rdL,rdO,rdP,Q5,Q4,Q1,Q8,Q7,Z0,implies_true,forall_const,forall_eq,ne_eq,exists_eq_right_right,exists_eq_right,exists_eq_left,exists_eq_left',Q9,Z5,Z7,J6,Z8,Z6]
   exact ⟨_,Sub.refl _,B'⟩
  ·have e:textH d x=JU false x.text:=if_neg (fun h=>hr h.2)
   rw [e] at hW ⊢
   refine Z4 Tryz.func25 hn25 hc25 (by rw [Tryz.ntmps25];simp) (by rw [Tryz.ntmps25];decide) ?_
   simp -dsimp -implicitDefEqProofs (disch:=omega) only [↓Q0 7,↓Q2 7,VCA,Z1,↓Q3,Nat.reduceEqDiff,Nat.reduceBEq,Nat.reduceAdd,Nat.reduceSub,Nat.reduceMul,Nat.reduceLT,Nat.reduceLeDiff,↓reduceIte,reduceCtorEq,Z3,Q6,SOp.rd,SI.rd,SX.rd,rdL,rdO,rdP,Q5,Q4,Q1,Q8,Q7,Z0,implies_true,forall_const,forall_eq,ne_eq,exists_eq_right_right,exists_eq_right,exists_eq_left,exists_eq_left',Q9,Z5,Z7,J6,Z8,c25,Z6,hat]
   repeat' (first | ((with_reducible refine brC (fun _=>?_) fun _=>?_) <;> try (exfalso;omega)) | (with_reducible apply pcallE.of; · exact hR) | (with_reducible apply pcallE.of; · exact hE) | (with_reducible refine And.intro ?_ ?_; · omega) | simp -dsimp -implicitDefEqProofs (disch:=omega) only [↓Q0 7,↓Q2 7,VCA,Z1,↓Q3,Nat.reduceEqDiff,Nat.reduceBEq,Nat.reduceAdd,Nat.reduceSub,Nat.reduceMul,Nat.reduceLT,Nat.reduceLeDiff,↓reduceIte,reduceCtorEq,Z3,Q6,SOp.rd,SI.rd,SX.rd,rdL,rdO,rdP,Q5,Q4,Q1,Q8,Q7,Z0,implies_true,forall_const,forall_eq,ne_eq,exists_eq_right_right,exists_eq_right,exists_eq_left,exists_eq_left',Q9,Z5,Z7,J6,Z8,Z6,hat,e0])
   refine DCalls.of hW ?_
   rintro a h2 ⟨rfl,B'⟩
   simp -dsimp -implicitDefEqProofs (disch:=omega) only [↓Q0 7,↓Q2 7,VCA,Z1,↓Q3,Nat.reduceEqDiff,Nat.reduceBEq,Nat.reduceAdd,Nat.reduceSub,Nat.reduceMul,Nat.reduceLT,Nat.reduceLeDiff,↓reduceIte,reduceCtorEq,Z3,Q6,SOp.rd,SI.rd,SX.rd,rdL,rdO,rdP,Q5,Q4,Q1,Q8,Q7,Z0,implies_true,forall_const,forall_eq,ne_eq,exists_eq_right_right,exists_eq_right,exists_eq_left,exists_eq_left',Q9,Z5,Z7,J6,Z8,Z6]
   exact ⟨_,Sub.refl _,B'⟩
 ·have e:textH d x=JU false x.text:=if_neg (fun h=>hp h.1)
  rw [e] at hW ⊢
  refine Z4 Tryz.func25 hn25 hc25 (by rw [Tryz.ntmps25];simp) (by rw [Tryz.ntmps25];decide) ?_
  simp -dsimp -implicitDefEqProofs (disch:=omega) only [↓Q0 7,↓Q2 7,VCA,Z1,↓Q3,Nat.reduceEqDiff,Nat.reduceBEq,Nat.reduceAdd,Nat.reduceSub,Nat.reduceMul,Nat.reduceLT,Nat.reduceLeDiff,↓reduceIte,reduceCtorEq,Z3,Q6,SOp.rd,SI.rd,SX.rd,rdL,rdO,rdP,Q5,Q4,Q1,Q8,Q7,Z0,implies_true,forall_const,forall_eq,ne_eq,exists_eq_right_right,exists_eq_right,exists_eq_left,exists_eq_left',Q9,Z5,Z7,J6,Z8,c25,Z6,hat]
  repeat' (first | ((with_reducible refine brC (fun _=>?_) fun _=>?_) <;> try (exfalso;omega)) | (with_reducible apply pcallE.of; · exact hE) | (with_reducible refine And.intro ?_ ?_; · omega) | simp -dsimp -implicitDefEqProofs (disch:=omega) only [↓Q0 7,↓Q2 7,VCA,Z1,↓Q3,Nat.reduceEqDiff,Nat.reduceBEq,Nat.reduceAdd,Nat.reduceSub,Nat.reduceMul,Nat.reduceLT,Nat.reduceLeDiff,↓reduceIte,reduceCtorEq,Z3,Q6,SOp.rd,SI.rd,SX.rd,rdL,rdO,rdP,Q5,Q4,Q1,Q8,Q7,Z0,implies_true,forall_const,forall_eq,ne_eq,exists_eq_right_right,exists_eq_right,exists_eq_left,exists_eq_left',Q9,Z5,Z7,J6,Z8,Z6,hat])
  refine DCalls.of hW ?_
  rintro a h2 ⟨rfl,B'⟩
  simp -dsimp -implicitDefEqProofs (disch:=omega) only [↓Q0 7,↓Q2 7,VCA,Z1,↓Q3,Nat.reduceEqDiff,Nat.reduceBEq,Nat.reduceAdd,Nat.reduceSub,Nat.reduceMul,Nat.reduceLT,Nat.reduceLeDiff,↓reduceIte,reduceCtorEq,Z3,Q6,SOp.rd,SI.rd,SX.rd,rdL,rdO,rdP,Q5,Q4,Q1,Q8,Q7,Z0,implies_true,forall_const,forall_eq,ne_eq,exists_eq_right_right,exists_eq_right,exists_eq_left,exists_eq_left',Q9,Z5,Z7,J6,Z8,Z6]
  exact ⟨_,Sub.refl _,B'⟩
def NodeC (G:U5) (d:HDoc) (n:Int):Prop:=∀ (h0 h:Z2) (rb:Nat) (s:List UInt8),WD d h0 rb s h->s.length+(X6 d n).length<=100000000 ->
 DCalls (Pg G) 13 [.vp rb 0,Y0 n] h fun a h'=>a=.tup []/\WD d h0 rb (s++X6 d n) h'
def c23:SFun:=⟨.seq (.reg [o 6 (.mv (.t 0)),o 7 (.fldA 0 (.t 6)),o 8 (.fldA 2 (.t 7)),o 9 (.fldA 0 (.t 8)),o 10 (.ld 1 false (.t 9)),o 11 (.mv (.t 1)),o 12 (.idxA 6 (.t 10) (.t 11)),o 13 (.fldA 5 (.t 12)),o 14 (.ld 1 false (.t 13)),o 15 (.len (.t 14)),o 16 (.mv (.c (.int .i64 0)))]) (.block 0 (.loop (.seq (.reg [o 17 (.bin .lss (.t 16) (.t 15))]) (.seq (.cond (.t 17) .skip (.exit 0)) (.seq (.block 1 (.seq (.reg [o 18 (.idxA 1 (.t 14) (.t 16)),o 19 (.ld 1 false (.t 18)),o 5 (.mv (.t 19))]) (.reg [o 20 (.mv (.t 0)),o 21 (.mv (.t 5)),o 22 (.call (.c (.fn 13 [] [])) [.t 20,.t 21])]))) (.reg [o 23 (.bin .add (.t 16) (.c (.int .i64 1))),o 16 (.mv (.t 23))])))))),[]⟩
theorem hc23:Y6 Tryz.prog {} Tryz.f23=some c23:=by kernel_rfl
theorem hn23 : (Tryz.f23.name == "runtime.NumGoroutine") = false := by kernel_rfl
theorem wkids_ok (d:HDoc) (V:DV d) (n:Int) (hn:inD d n) (ih:∀ k∈(nd d n).kids,NodeC G d k) {h0 h:Z2} {rb:Nat} {s:List UInt8} (B:WD d h0 rb s h) (hs:s.length+((nd d n).kids.flatMap (X6 d)).length<=100000000) :
 DCalls (Pg G) 23 [.vp rb 0,Y0 n] h fun a h'=>a=.tup []/\WD d h0 rb (s++(nd d n).kids.flatMap (X6 d)) h':=by
 obtain ⟨p,buf,hat⟩:=B.at
 have i0:=hn.1
 have i1:=hn.2
 have e0:nth d.nodes n.toNat=nd d n:=rfl
 have kl:(nd d n).kids.length<=200:=by
  have:=nodup_len d.nodes.length (nd d n).kids (V.nodup n hn) fun k hk=>(V.kid n hn k hk).1
  have:=V.len;omega
 refine Z4 Tryz.func23 hn23 hc23 (by rw [Tryz.ntmps23];simp) (by rw [Tryz.ntmps23];decide) ?_
 simp -dsimp -implicitDefEqProofs (disch:=omega) only [VCA,Z1,↓Q3,Nat.reduceEqDiff,Nat.reduceBEq,Nat.reduceAdd,Nat.reduceSub,Nat.reduceMul,Nat.reduceLT,Nat.reduceLeDiff,↓reduceIte,reduceCtorEq,Z3,Q6,SOp.rd,SI.rd,SX.rd,rdL,rdO,rdP,Q5,Q4,Q1,Q8,Q7,Z0,implies_true,forall_const,forall_eq,ne_eq,exists_eq_right_right,exists_eq_right,exists_eq_left,exists_eq_left',Q9,Z5,Z7,J6,Z8,c23,hat]
 repeat' (first | ((with_reducible refine brC (fun _=>?_) fun _=>?_) <;> try (exfalso;omega)) | (with_reducible refine And.intro ?_ ?_; · omega) | simp -dsimp -implicitDefEqProofs (disch:=omega) only [VCA,Z1,↓Q3,Nat.reduceEqDiff,Nat.reduceBEq,Nat.reduceAdd,Nat.reduceSub,Nat.reduceMul,Nat.reduceLT,Nat.reduceLeDiff,↓reduceIte,reduceCtorEq,Z3,Q6,SOp.rd,SI.rd,SX.rd,rdL,rdO,rdP,Q5,Q4,Q1,Q8,Q7,Z0,implies_true,forall_const,forall_eq,ne_eq,exists_eq_right_right,exists_eq_right,exists_eq_left,exists_eq_left',Q9,Z5,Z7,J6,Z8,hat,e0,Z6])
 refine LoopVC.intro (fun m e h'=>∃ k:Nat,k<=(nd d n).kids.length/\m=(nd d n).kids.length-k/\e 0=.vp rb 0/\e 14=sl Z7 (nd d n).kids/\e 15=Y0 (nd d n).kids.length/\e 16=Y0 k/\WD d h0 rb (s++((nd d n).kids.take k).flatMap (X6 d)) h') (nd d n).kids.length
  ⟨0,by omega,by omega,rfl,rfl,rfl,rfl,by simpa using B⟩ ?_
 rintro m e h' ⟨k,hk,rfl,e0',e14,e15,e16,B'⟩
 by_cases hlt:k<(nd d n).kids.length
 ·obtain ⟨c,hcc⟩:∃ c,nth (nd d n).kids k=c:=⟨_,rfl⟩
  have hm:c∈(nd d n).kids:=hcc ▸ U8 hlt
  have ts:((nd d n).kids.take (k+1)).flatMap (X6 d)=((nd d n).kids.take k).flatMap (X6 d)++X6 d c:=by
   rw [KZ hlt,List.flatMap_append,List.flatMap_cons,List.flatMap_nil,List.append_nil,hcc]
  have hlen:(((nd d n).kids.take (k+1)).flatMap (X6 d)).length<=((nd d n).kids.flatMap (X6 d)).length:=by
   conv=>rhs;rw [<-List.take_append_drop (k+1) (nd d n).kids,List.flatMap_append,List.length_append]
   omega
  rw [ts,List.length_append] at hlen
  have hN:=ih c hm h0 h' rb _ B' (by rw [List.length_append];omega)
  repeat' (first | ((with_reducible refine brC (fun _=>?_) fun _=>?_) <;> try (exfalso;omega)) | (with_reducible refine And.intro ?_ ?_; · omega) | simp -dsimp -implicitDefEqProofs (disch:=omega) only [VCA,Z1,↓Q3,Nat.reduceEqDiff,Nat.reduceBEq,Nat.reduceAdd,Nat.reduceSub,Nat.reduceMul,Nat.reduceLT,Nat.reduceLeDiff,↓reduceIte,reduceCtorEq,Z3,Q6,SOp.rd,SI.rd,SX.rd,rdL,rdO,rdP,Q5,Q4,Q1,Q8,Q7,Z0,implies_true,forall_const,forall_eq,ne_eq,exists_eq_right_right,exists_eq_right,exists_eq_left,exists_eq_left',Q9,Z5,Z7,J6,Z8,e0',e14,e15,e16,hcc])
  refine DCalls.of hN ?_
  rintro a h2 ⟨rfl,B2⟩
  simp -dsimp -implicitDefEqProofs (disch:=omega) only [VCA,Z1,↓Q3,Nat.reduceEqDiff,Nat.reduceBEq,Nat.reduceAdd,Nat.reduceSub,Nat.reduceMul,Nat.reduceLT,Nat.reduceLeDiff,↓reduceIte,reduceCtorEq,Z3,Q6,SOp.rd,SI.rd,SX.rd,rdL,rdO,rdP,Q5,Q4,Q1,Q8,Q7,Z0,implies_true,forall_const,forall_eq,ne_eq,exists_eq_right_right,exists_eq_right,exists_eq_left,exists_eq_left',Q9,Z5,Z7,J6,Z8,e0',e14,e15,e16]
  exact ⟨_,by omega,k+1,by omega,rfl,by omega,by rw [ts,<-List.append_assoc];exact B2⟩
 ·obtain rfl:k=(nd d n).kids.length:=by omega
  repeat' (first | ((with_reducible refine brC (fun _=>?_) fun _=>?_) <;> try (exfalso;omega)) | (with_reducible refine And.intro ?_ ?_; · omega) | simp -dsimp -implicitDefEqProofs (disch:=omega) only [VCA,Z1,↓Q3,Nat.reduceEqDiff,Nat.reduceBEq,Nat.reduceAdd,Nat.reduceSub,Nat.reduceMul,Nat.reduceLT,Nat.reduceLeDiff,↓reduceIte,reduceCtorEq,Z3,Q6,SOp.rd,SI.rd,SX.rd,rdL,rdO,rdP,Q5,Q4,Q1,Q8,Q7,Z0,implies_true,forall_const,forall_eq,ne_eq,exists_eq_right_right,exists_eq_right,exists_eq_left,exists_eq_left',Q9,Z5,Z7,J6,Z8,e0',e14,e15,e16])
  rw [List.take_length] at B'
  exact ⟨_,Sub.refl _,B'⟩
def c26_s6:SCode:=(.seq (.reg [o 104 (.mv (.t 0)),o 105 (.mv (.t 1)),o 106 (.call (.c (.fn 23 [] [])) [.t 104,.t 105])]) (.dreg [(o 107 (.mv (.t 0)),none),(o 108 (.fldA 0 (.t 107)),none),(o 109 (.fldA 0 (.t 108)),none),(o 110 (.fldA 1 (.t 4)),none),(o 111 (.ld 1 false (.t 110)),none),(o 112 (.bin .add (.c (.str [60,47])) (.t 111)),none),(o 113 (.bin .add (.t 112) (.c (.str [62]))),none),(o 114 (.call (.c (.fn 24 [] [])) [.t 109,.t 113]),(some [111]))]))
def TV:SCode:=(.seq (.seq (.dreg [(o 56 (.fldA 1 (.t 4)),none),(o 57 (.ld 1 false (.t 56)),none),(o 58 (.bin .eql (.t 57) (.c (.str [112,114,101]))),none),(o 59 (.mv (.t 58)),none),(⟨some 60,.fldA 1 (.t 4),some (59,false)⟩,none),(⟨some 61,.ld 1 false (.t 60),some (59,false)⟩,none),(⟨some 62,.bin .eql (.t 61) (.c (.str [116,101,120,116,97,114,101,97])),some (59,false)⟩,none),(o 63 (.pick (.t 59) (.c (.bool true)) (.t 62)),none),(o 64 (.mv (.t 63)),none),(⟨some 65,.fldA 5 (.t 4),some (64,true)⟩,none),(⟨some 66,.ld 1 false (.t 65),some (64,true)⟩,none),(⟨some 67,.len (.t 66),some (64,true)⟩,none),(⟨some 68,.bin .gtr (.t 67) (.c (.int .i64 0)),some (64,true)⟩,none),(o 69 (.pick (.t 64) (.t 68) (.c (.bool false))),none),(o 70 (.mv (.t 69)),none),(⟨some 71,.mv (.t 0),some (70,true)⟩,none),(⟨some 72,.fldA 0 (.t 71),some (70,true)⟩,none),(⟨some 73,.fldA 2 (.t 72),some (70,true)⟩,none),(⟨some 74,.fldA 0 (.t 73),some (70,true)⟩,none),(⟨some 75,.ld 1 false (.t 74),some (70,true)⟩,none),(⟨some 76,.fldA 5 (.t 4),some (70,true)⟩,none),(⟨some 77,.ld 1 false (.t 76),some (70,true)⟩,none),(⟨some 78,.idxA 1 (.t 77) (.c (.int .i64 0)),some (70,true)⟩,none),(⟨some 79,.ld 1 false (.t 78),some (70,true)⟩,none),(⟨some 80,.idxA 6 (.t 75) (.t 79),some (70,true)⟩,none),(⟨some 81,.fldA 3 (.t 80),some (70,true)⟩,none),(⟨some 82,.ld 1 false (.t 81),some (70,true)⟩,none),(⟨some 83,.pcall 36 [.t 82,.c (.str [10])],some (70,true)⟩,none),(o 84 (.pick (.t 70) (.t 83) (.c (.bool false))),none),(o 85 (.mv (.t 84)),none),(⟨some 86,.mv (.t 0),some (85,true)⟩,none),(⟨some 87,.fldA 0 (.t 86),some (85,true)⟩,none),(⟨some 88,.fldA 2 (.t 87),some (85,true)⟩,none),(⟨some 89,.fldA 0 (.t 88),some (85,true)⟩,none),(⟨some 90,.ld 1 false (.t 89),some (85,true)⟩,none),(⟨some 91,.fldA 5 (.t 4),some (85,true)⟩,none),(⟨some 92,.ld 1 false (.t 91),some (85,true)⟩,none),(⟨some 93,.idxA 1 (.t 92) (.c (.int .i64 0)),some (85,true)⟩,none),(⟨some 94,.ld 1 false (.t 93),some (85,true)⟩,none),(⟨some 95,.idxA 6 (.t 90) (.t 94),some (85,true)⟩,none),(⟨some 96,.fldA 0 (.t 95),some (85,true)⟩,none),(⟨some 97,.ld 1 false (.t 96),some (85,true)⟩,none),(⟨some 98,.bin .eql (.t 97) (.c (.int .i64 3)),some (85,true)⟩,none),(o 99 (.pick (.t 85) (.t 98) (.c (.bool false))),none)]) (.cond (.t 99) (.reg [o 100 (.mv (.t 0)),o 101 (.fldA 0 (.t 100)),o 102 (.fldA 0 (.t 101)),o 103 (.call (.c (.fn 24 [] [])) [.t 102,.c (.str [10])])]) .skip)) c26_s6)
def c26_s3:SCode:=(.seq (.reg [o 43 (.mv (.t 0)),o 44 (.fldA 0 (.t 43)),o 45 (.fldA 0 (.t 44)),o 46 (.call (.c (.fn 24 [] [])) [.t 45,.c (.str [62])])]) (.seq (.seq (.reg [o 47 (.fldA 1 (.t 4)),o 48 (.ld 1 false (.t 47)),o 49 (.pcall 35 [.t 48]),o 50 (.mv (.t 49)),⟨some 51,.fldA 5 (.t 4),some (50,true)⟩,⟨some 52,.ld 1 false (.t 51),some (50,true)⟩,⟨some 53,.len (.t 52),some (50,true)⟩,⟨some 54,.bin .eql (.t 53) (.c (.int .i64 0)),some (50,true)⟩,o 55 (.pick (.t 50) (.t 54) (.c (.bool false)))]) (.cond (.t 55) .ret .skip)) TV))
def c26:SFun:=⟨.seq (.reg [o 7 (.mv (.t 0)),o 8 (.fldA 0 (.t 7)),o 9 (.fldA 2 (.t 8)),o 10 (.fldA 0 (.t 9)),o 11 (.ld 1 false (.t 10)),o 12 (.mv (.t 1)),o 13 (.idxA 6 (.t 11) (.t 12)),o 14 (.ld 6 true (.t 13)),o 4 (.new 35 6 [.int .i64 0,.str [],.emp,.str [],.int .i64 0,.emp]),⟨none,.st 6 (.t 4) (.t 14),none⟩]) (.seq (.dreg [(o 15 (.mv (.t 0)),none),(o 16 (.fldA 0 (.t 15)),none),(o 17 (.fldA 0 (.t 16)),none),(o 18 (.fldA 1 (.t 4)),none),(o 19 (.ld 1 false (.t 18)),none),(o 20 (.bin .add (.c (.str [60])) (.t 19)),none),(o 21 (.call (.c (.fn 24 [] [])) [.t 17,.t 20]),(some [19]))]) (.seq (.seq (.reg [o 22 (.fldA 2 (.t 4)),o 23 (.ld 1 false (.t 22)),o 24 (.len (.t 23)),o 25 (.mv (.c (.int .i64 0)))]) (.block 0 (.loop (.seq (.reg [o 26 (.bin .lss (.t 25) (.t 24))]) (.seq (.cond (.t 26) .skip (.exit 0)) (.seq (.block 1 (.seq (.reg [o 27 (.idxA 2 (.t 23) (.t 25)),o 28 (.ld 2 true (.t 27)),o 6 (.new 59 2 [.str [],.str []]),⟨none,.st 2 (.t 6) (.t 28),none⟩]) (.dreg [(o 29 (.mv (.t 0)),none),(o 30 (.fldA 0 (.t 29)),none),(o 31 (.fldA 0 (.t 30)),none),(o 32 (.fldA 0 (.t 6)),none),(o 33 (.ld 1 false (.t 32)),none),(o 34 (.bin .add (.c (.str [32])) (.t 33)),none),(o 35 (.bin .add (.t 34) (.c (.str [61,34]))),none),(o 36 (.fldA 1 (.t 6)),none),(o 37 (.ld 1 false (.t 36)),none),(o 38 (.pcall 34 [.t 37,.c (.bool true)]),none),(o 39 (.bin .add (.t 35) (.t 38)),none),(o 40 (.bin .add (.t 39) (.c (.str [34]))),none),(o 41 (.call (.c (.fn 24 [] [])) [.t 31,.t 40]),(some [33,37]))]))) (.reg [o 42 (.bin .add (.t 25) (.c (.int .i64 1))),o 25 (.mv (.t 42))]))))))) c26_s3)),[]⟩
theorem hc26:Y6 Tryz.prog {pure:=[34,35,36]} Tryz.f26=some c26:=by kernel_rfl
theorem hn26 : (Tryz.f26.name == "runtime.NumGoroutine") = false := by kernel_rfl
theorem pre1 (s:List UInt8):hasPre s [10]=(s != []&&bt s 0==10):=by
 cases s with
 | nil=>rfl
 | cons c r=>
   rw [Bool.eq_iff_iff]
   unfold hasPre bt
   simp
   constructor
   ·rintro rfl;rfl
   ·intro h
    have:c.toNat=(10:UInt8).toNat:=by simp;omega
    exact UInt8.toNat_inj.1 this
theorem el_last (d:HDoc) (V:DV d) (n:Int) (hn:inD d n) {x:HNode} (hx:nd d n=x) (ih:∀ k∈(nd d n).kids,NodeC G d k) {h0 h:Z2} {rb r4:Nat} {s:List UInt8} (h4:h0 r4=none)
 (B:WD d (upd h0 r4 (some ⟨.t 35,6,[Z6 x]⟩)) rb s h) (hs:s.length+(x.kids.flatMap (X6 d)).length+x.name.length<=100000000) {e:Env} (e0':e 0=.vp rb 0) (e1:e 1=Y0 n) (e4:e 4=.vp r4 0) :
 vc (Pg G) c26_s6 (retK [] fun a h'=>a=.tup []/\WD d h0 rb (s++x.kids.flatMap (X6 d)++(60 :: 47 :: (x.name++[62]))) h') e h:=by
 have hK:=wkids_ok (G:=G) d V n hn ih B (by rw [hx];omega)
 rw [hx] at hK
 skip
 repeat' (first | ((with_reducible refine brC (fun _=>?_) fun _=>?_) <;> try (exfalso;omega)) | (with_reducible refine And.intro ?_ ?_; · omega) | simp -dsimp -implicitDefEqProofs (disch:=omega) only [↓Q0 50,↓Q2 50,↓Q0 59,↓Q2 59,↓Q0 64,↓Q2 64,↓Q0 70,↓Q2 70,↓Q0 85,↓Q2 85,VCA,Z1,↓Q3,Nat.reduceEqDiff,Nat.reduceBEq,Nat.reduceAdd,Nat.reduceSub,Nat.reduceMul,Nat.reduceLT,Nat.reduceLeDiff,↓reduceIte,reduceCtorEq,Z3,Q6,SOp.rd,SI.rd,SX.rd,rdL,rdO,rdP,Q5,Q4,Q1,Q8,Q7,Z0,implies_true,forall_const,forall_eq,ne_eq,exists_eq_right_right,exists_eq_right,exists_eq_left,exists_eq_left',Q9,Z5,Z7,J6,Z8,c26_s6,e0',e1,e4])
 refine DCalls.of hK ?_
 rintro a h5 ⟨rfl,B5⟩
 have f5:=B5.has
 unfold Z6 at f5
 have hW:=U0 (G:=G) (60 :: 47 :: (x.name++[62])) B5 (by simp only [List.length_append,List.length_cons,List.length_nil];omega)
 repeat' (first | ((with_reducible refine brC (fun _=>?_) fun _=>?_) <;> try (exfalso;omega)) | (with_reducible refine And.intro ?_ ?_; · omega) | simp -dsimp -implicitDefEqProofs (disch:=omega) only [↓Q0 50,↓Q2 50,↓Q0 59,↓Q2 59,↓Q0 64,↓Q2 64,↓Q0 70,↓Q2 70,↓Q0 85,↓Q2 85,VCA,Z1,↓Q3,Nat.reduceEqDiff,Nat.reduceBEq,Nat.reduceAdd,Nat.reduceSub,Nat.reduceMul,Nat.reduceLT,Nat.reduceLeDiff,↓reduceIte,reduceCtorEq,Z3,Q6,SOp.rd,SI.rd,SX.rd,rdL,rdO,rdP,Q5,Q4,Q1,Q8,Q7,Z0,implies_true,forall_const,forall_eq,ne_eq,exists_eq_right_right,exists_eq_right,exists_eq_left,exists_eq_left',Q9,Z5,Z7,J6,Z8,e0',e1,e4,f5])
 refine DCalls.of hW ?_
 rintro a h7 ⟨rfl,B7⟩
 simp -dsimp -implicitDefEqProofs (disch:=omega) only [↓Q0 50,↓Q2 50,↓Q0 59,↓Q2 59,↓Q0 64,↓Q2 64,↓Q0 70,↓Q2 70,↓Q0 85,↓Q2 85,VCA,Z1,↓Q3,Nat.reduceEqDiff,Nat.reduceBEq,Nat.reduceAdd,Nat.reduceSub,Nat.reduceMul,Nat.reduceLT,Nat.reduceLeDiff,↓reduceIte,reduceCtorEq,Z3,Q6,SOp.rd,SI.rd,SX.rd,rdL,rdO,rdP,Q5,Q4,Q1,Q8,Q7,Z0,implies_true,forall_const,forall_eq,ne_eq,exists_eq_right_right,exists_eq_right,exists_eq_left,exists_eq_left',Q9,Z5,Z7,J6,Z8,e0',e1,e4]
 exact ⟨_,Sub.refl _,B7.less h4⟩
theorem el_mid (d:HDoc) (V:DV d) (n:Int) (hn:inD d n) {x:HNode} (hx:nd d n=x) (ih:∀ k∈(nd d n).kids,NodeC G d k) {h0 h:Z2} {rb r4:Nat} {s:List UInt8} (h4:h0 r4=none)
 (B:WD d (upd h0 r4 (some ⟨.t 35,6,[Z6 x]⟩)) rb s h) (hs:s.length+(x.kids.flatMap (X6 d)).length+x.name.length<=99999999) {e:Env} (e0':e 0=.vp rb 0) (e1:e 1=Y0 n) (e4:e 4=.vp r4 0) :
 vc (Pg G) TV (retK [] fun a h'=>a=.tup []/\WD d h0 rb (s++(if X9 d x=true then [10] else [])++x.kids.flatMap (X6 d)++(60 :: 47 :: (x.name++[62]))) h') e h:=by
 have f4:=B.has
 unfold Z6 at f4
 obtain ⟨p5,buf5,hat⟩:=B.at
 have n4:¬ rb=r4:=fun q=>by rw [<-q,hat] at f4;cases f4
 have hW:=U0 (G:=G) [10] B (by simp only [List.length_cons,List.length_nil];omega)
 have fin:∀ (b:Bool) (e':Env),X9 d x=b->e' 0=.vp rb 0->e' 1=Y0 n->e' 4=.vp r4 0 -> ∀ h',WD d (upd h0 r4 (some ⟨.t 35,6,[Z6 x]⟩)) rb (s++(if b=true then [10] else [])) h' ->
  vc (Pg G) c26_s6 (retK [] fun a h'=>a=.tup []/\WD d h0 rb (s++(if X9 d x=true then [10] else [])++x.kids.flatMap (X6 d)++(60 :: 47 :: (x.name++[62]))) h') e' h':=by
  intro b e' hb q0 q1 q4 h' B'
  rw [hb]
  exact el_last d V n hn hx ih h4 B' (by
   rw [List.length_append]
   have:(if b=true then [10] else []:List UInt8).length<=1:=by split <;> simp
   omega) q0 q1 q4
 have hL:X9 d x=((x.name==[112,114,101]||x.name==[116,101,120,116,97,114,101,97])&&(decide (0<x.kids.length)&&(hasPre (nd d (nth x.kids 0)).text [10]&&(nd d (nth x.kids 0)).kind==3))):=by
  unfold X9
  rw [pre1,show decide (0<x.kids.length)=decide (x.kids≠[]) from by rw [decide_eq_decide,List.length_pos_iff]]
  cases (nd d (nth x.kids 0)).kind==3 <;> simp
 by_cases c1:x.name=[112,114,101]\/x.name=[116,101,120,116,97,114,101,97]
 ·by_cases c2:0<x.kids.length
  ·obtain ⟨k,hk⟩:∃ k,nth x.kids 0=k:=⟨_,rfl⟩
   have hki:=(V.kid n hn k (by rw [hx,<-hk];exact U8 c2)).1
   have k0:=hki.1
   have k1:=hki.2
   have ek:nth d.nodes k.toNat=nd d k:=rfl
   have Zk:=nodeE_sz (V.node k hki)
   have hP:=hasPre_ok (G:=G) (nd d k).text [10] (by have:=Zk.text;omega) (by decide)
   rw [hk] at hL
   have c1b:(x.name==[112,114,101]||x.name==[116,101,120,116,97,114,101,97])=true:=by simpa using c1
   rw [c1b,decide_eq_true c2] at hL
   by_cases c3:hasPre (nd d k).text [10]=true
   ·rw [c3] at hL hP
    by_cases c4:(nd d k).kind=3
    ·have hF:X9 d x=true:=by rw [hL,c4];rfl
     skip
     repeat' (first | ((with_reducible refine brC (fun _=>?_) fun _=>?_) <;> try (exfalso;omega)) | (with_reducible apply pcallE.of; · exact hP) | (with_reducible refine And.intro ?_ ?_; · omega) | simp -dsimp -implicitDefEqProofs (disch:=omega) only [↓Q0 50,↓Q2 50,↓Q0 59,↓Q2 59,↓Q0 64,↓Q2 64,↓Q0 70,↓Q2 70,↓Q0 85,↓Q2 85,VCA,Z1,↓Q3,Nat.reduceEqDiff,Nat.reduceBEq,Nat.reduceAdd,Nat.reduceSub,Nat.reduceMul,Nat.reduceLT,Nat.reduceLeDiff,↓reduceIte,reduceCtorEq,Z3,Q6,SOp.rd,SI.rd,SX.rd,rdL,rdO,rdP,Q5,Q4,Q1,Q8,Q7,Z0,implies_true,forall_const,forall_eq,ne_eq,exists_eq_right_right,exists_eq_right,exists_eq_left,exists_eq_left',Q9,Z5,Z7,J6,Z8,TV,e0',e1,e4,f4,hat,hk,ek,c4,Z6])
     all_goals first
      | (refine DCalls.of hW ?_
         rintro a h7 ⟨rfl,B7⟩
         simp -dsimp -implicitDefEqProofs (disch:=omega) only [↓Q0 50,↓Q2 50,↓Q0 59,↓Q2 59,↓Q0 64,↓Q2 64,↓Q0 70,↓Q2 70,↓Q0 85,↓Q2 85,VCA,Z1,↓Q3,Nat.reduceEqDiff,Nat.reduceBEq,Nat.reduceAdd,Nat.reduceSub,Nat.reduceMul,Nat.reduceLT,Nat.reduceLeDiff,↓reduceIte,reduceCtorEq,Z3,Q6,SOp.rd,SI.rd,SX.rd,rdL,rdO,rdP,Q5,Q4,Q1,Q8,Q7,Z0,implies_true,forall_const,forall_eq,ne_eq,exists_eq_right_right,exists_eq_right,exists_eq_left,exists_eq_left',Q9,Z5,Z7,J6,Z8,e0',e1,e4]
         exact fin true _ hF (by simp [upd,e0']) (by simp [upd,e1]) (by simp [upd,e4]) _ (by simpa using B7))
      | (exfalso;simp_all;done)
    ·have hF:X9 d x=false:=by rw [hL];simpa using c4
     have c4b:((nd d k).kind==3)=false:=by simpa using c4
     skip
     repeat' (first | ((with_reducible refine brC (fun _=>?_) fun _=>?_) <;> try (exfalso;omega)) | (with_reducible apply pcallE.of; · exact hP) | (with_reducible refine And.intro ?_ ?_; · omega) | simp -dsimp -implicitDefEqProofs (disch:=omega) only [↓Q0 50,↓Q2 50,↓Q0 59,↓Q2 59,↓Q0 64,↓Q2 64,↓Q0 70,↓Q2 70,↓Q0 85,↓Q2 85,VCA,Z1,↓Q3,Nat.reduceEqDiff,Nat.reduceBEq,Nat.reduceAdd,Nat.reduceSub,Nat.reduceMul,Nat.reduceLT,Nat.reduceLeDiff,↓reduceIte,reduceCtorEq,Z3,Q6,SOp.rd,SI.rd,SX.rd,rdL,rdO,rdP,Q5,Q4,Q1,Q8,Q7,Z0,implies_true,forall_const,forall_eq,ne_eq,exists_eq_right_right,exists_eq_right,exists_eq_left,exists_eq_left',Q9,Z5,Z7,J6,Z8,TV,e0',e1,e4,f4,hat,hk,ek,c4b,Z6])
     all_goals first
   | (refine fin false _ hF ?_ ?_ ?_ _ (by simpa using B) <;> first | (simp [upd,e0'];done) | (simp [upd,e1];done) | (simp [upd,e4];done))
   | (exfalso;simp_all;done)
   ·have c3:hasPre (nd d k).text [10]=false:=by simpa using c3
    rw [c3] at hL hP
    have hF:X9 d x=false:=by rw [hL];rfl
    skip
    repeat' (first | ((with_reducible refine brC (fun _=>?_) fun _=>?_) <;> try (exfalso;omega)) | (with_reducible apply pcallE.of; · exact hP) | (with_reducible refine And.intro ?_ ?_; · omega) | simp -dsimp -implicitDefEqProofs (disch:=omega) only [↓Q0 50,↓Q2 50,↓Q0 59,↓Q2 59,↓Q0 64,↓Q2 64,↓Q0 70,↓Q2 70,↓Q0 85,↓Q2 85,VCA,Z1,↓Q3,Nat.reduceEqDiff,Nat.reduceBEq,Nat.reduceAdd,Nat.reduceSub,Nat.reduceMul,Nat.reduceLT,Nat.reduceLeDiff,↓reduceIte,reduceCtorEq,Z3,Q6,SOp.rd,SI.rd,SX.rd,rdL,rdO,rdP,Q5,Q4,Q1,Q8,Q7,Z0,implies_true,forall_const,forall_eq,ne_eq,exists_eq_right_right,exists_eq_right,exists_eq_left,exists_eq_left',Q9,Z5,Z7,J6,Z8,TV,e0',e1,e4,f4,hat,hk,ek,Z6])
    all_goals first
   | (refine fin false _ hF ?_ ?_ ?_ _ (by simpa using B) <;> first | (simp [upd,e0'];done) | (simp [upd,e1];done) | (simp [upd,e4];done))
   | (exfalso;simp_all;done)
  ·have hF:X9 d x=false:=by rw [hL,decide_eq_false c2];simp
   have hP:=hasPre_ok (G:=G) [] [10] (by decide) (by decide)
   skip
   repeat' (first | ((with_reducible refine brC (fun _=>?_) fun _=>?_) <;> try (exfalso;omega)) | (with_reducible apply pcallE.of; · exact hP) | (with_reducible refine And.intro ?_ ?_; · omega) | simp -dsimp -implicitDefEqProofs (disch:=omega) only [↓Q0 50,↓Q2 50,↓Q0 59,↓Q2 59,↓Q0 64,↓Q2 64,↓Q0 70,↓Q2 70,↓Q0 85,↓Q2 85,VCA,Z1,↓Q3,Nat.reduceEqDiff,Nat.reduceBEq,Nat.reduceAdd,Nat.reduceSub,Nat.reduceMul,Nat.reduceLT,Nat.reduceLeDiff,↓reduceIte,reduceCtorEq,Z3,Q6,SOp.rd,SI.rd,SX.rd,rdL,rdO,rdP,Q5,Q4,Q1,Q8,Q7,Z0,implies_true,forall_const,forall_eq,ne_eq,exists_eq_right_right,exists_eq_right,exists_eq_left,exists_eq_left',Q9,Z5,Z7,J6,Z8,TV,e0',e1,e4,f4,hat,Z6])
   all_goals first
   | (refine fin false _ hF ?_ ?_ ?_ _ (by simpa using B) <;> first | (simp [upd,e0'];done) | (simp [upd,e1];done) | (simp [upd,e4];done))
   | (exfalso;simp_all;done)
 ·have c1b:(x.name==[112,114,101]||x.name==[116,101,120,116,97,114,101,97])=false:=by simpa using c1
  have hF:X9 d x=false:=by rw [hL,c1b];simp
  have hP:=hasPre_ok (G:=G) [] [10] (by decide) (by decide)
  skip
  repeat' (first | ((with_reducible refine brC (fun _=>?_) fun _=>?_) <;> try (exfalso;omega)) | (with_reducible apply pcallE.of; · exact hP) | (with_reducible refine And.intro ?_ ?_; · omega) | simp -dsimp -implicitDefEqProofs (disch:=omega) only [↓Q0 50,↓Q2 50,↓Q0 59,↓Q2 59,↓Q0 64,↓Q2 64,↓Q0 70,↓Q2 70,↓Q0 85,↓Q2 85,VCA,Z1,↓Q3,Nat.reduceEqDiff,Nat.reduceBEq,Nat.reduceAdd,Nat.reduceSub,Nat.reduceMul,Nat.reduceLT,Nat.reduceLeDiff,↓reduceIte,reduceCtorEq,Z3,Q6,SOp.rd,SI.rd,SX.rd,rdL,rdO,rdP,Q5,Q4,Q1,Q8,Q7,Z0,implies_true,forall_const,forall_eq,ne_eq,exists_eq_right_right,exists_eq_right,exists_eq_left,exists_eq_left',Q9,Z5,Z7,J6,Z8,TV,e0',e1,e4,f4,hat,Z6])
  all_goals first
   | (refine fin false _ hF ?_ ?_ ?_ _ (by simpa using B) <;> first | (simp [upd,e0'];done) | (simp [upd,e1];done) | (simp [upd,e4];done))
   | (exfalso;simp_all;done)
theorem openH_app (x:HNode) (s:List UInt8):s++(60 :: x.name)++x.attrs.flatMap ZK++[62]=s++XY x:=by
 unfold XY;simp
theorem el_end (hG:MaxOK G) (d:HDoc) (V:DV d) (n:Int) (hn:inD d n) {x:HNode} (hx:nd d n=x) (h2:x.kind=2) (ih:∀ k∈(nd d n).kids,NodeC G d k) {h0 h:Z2} {rb r4:Nat} {s:List UInt8} (h4:h0 r4=none)
 (B:WD d (upd h0 r4 (some ⟨.t 35,6,[Z6 x]⟩)) rb (s++(60 :: x.name)++x.attrs.flatMap ZK) h) (hs:s.length+(X6 d n).length<=100000000) {e:Env} (e0':e 0=.vp rb 0) (e1:e 1=Y0 n) (e4:e 4=.vp r4 0) :
 vc (Pg G) c26_s3 (retK [] fun a h'=>a=.tup []/\WD d h0 rb (s++X6 d n) h') e h:=by
 have Z:=nodeE_sz (V.node n hn)
 have he:=UZ V hn
 rw [hx] at Z he
 have z1:=Z.name
 have f4:=B.has
 unfold Z6 at f4
 have hoa:=openH_app x s
 have hoL:(XY x).length<=40000:=by
  unfold XY
  have:=flat_le (f:=ZK) (k:=2500) x.attrs fun a ha=>by
   have h1:=Z.each a ha
   have h2:=XV true _ a.value (Nat.le_refl _)
   unfold ZK
   simp only [List.length_append,List.length_cons,List.length_nil]
   omega
  have:=Z.attrs
  simp only [List.length_append,List.length_cons,List.length_nil]
  omega
 have hW:=U0 (G:=G) [62] B (by
  have:=congrArg List.length hoa
  simp only [List.length_append,List.length_cons,List.length_nil] at this ⊢; omega)
 have hV:=void_ok (G:=G) hG x.name (by omega)
 have hnz:XY x≠[]:=by unfold XY;simp
 skip
 repeat' (first | ((with_reducible refine brC (fun _=>?_) fun _=>?_) <;> try (exfalso;omega)) | (with_reducible refine And.intro ?_ ?_; · omega) | simp -dsimp -implicitDefEqProofs (disch:=omega) only [↓Q0 50,↓Q2 50,↓Q0 59,↓Q2 59,↓Q0 64,↓Q2 64,↓Q0 70,↓Q2 70,↓Q0 85,↓Q2 85,VCA,Z1,↓Q3,Nat.reduceEqDiff,Nat.reduceBEq,Nat.reduceAdd,Nat.reduceSub,Nat.reduceMul,Nat.reduceLT,Nat.reduceLeDiff,↓reduceIte,reduceCtorEq,Z3,Q6,SOp.rd,SI.rd,SX.rd,rdL,rdO,rdP,Q5,Q4,Q1,Q8,Q7,Z0,implies_true,forall_const,forall_eq,ne_eq,exists_eq_right_right,exists_eq_right,exists_eq_left,exists_eq_left',Q9,Z5,Z7,J6,Z8,c26_s3,e0',e1,e4])
 refine DCalls.of hW ?_
 rintro a h5 ⟨rfl,B5⟩
 rw [hoa] at B5
 have f5:=B5.has
 unfold Z6 at f5
 obtain ⟨p5,buf5,hat5⟩:=B5.at
 have eH:X6 d n=if inW x.name voidS=true/\x.kids=[] then XY x else XY x++(if X9 d x=true then [10] else [])++x.kids.flatMap (X6 d)++[60,47]++x.name++[62]:=by
  rw [he];unfold htG
  rw [if_neg (by omega),if_neg (by omega),if_neg (by omega),if_neg (by omega)]
 by_cases hv:inW x.name voidS=true
 ·by_cases hk:x.kids=[]
  ·rw [if_pos ⟨hv,hk⟩] at eH
   rw [hv] at hV
   rw [eH]
   repeat' (first | ((with_reducible refine brC (fun _=>?_) fun _=>?_) <;> try (exfalso;omega)) | (with_reducible apply pcallE.of; · exact hV) | (with_reducible refine And.intro ?_ ?_; · omega) | simp -dsimp -implicitDefEqProofs (disch:=omega) only [↓Q0 50,↓Q2 50,↓Q0 59,↓Q2 59,↓Q0 64,↓Q2 64,↓Q0 70,↓Q2 70,↓Q0 85,↓Q2 85,VCA,Z1,↓Q3,Nat.reduceEqDiff,Nat.reduceBEq,Nat.reduceAdd,Nat.reduceSub,Nat.reduceMul,Nat.reduceLT,Nat.reduceLeDiff,↓reduceIte,reduceCtorEq,Z3,Q6,SOp.rd,SI.rd,SX.rd,rdL,rdO,rdP,Q5,Q4,Q1,Q8,Q7,Z0,implies_true,forall_const,forall_eq,ne_eq,exists_eq_right_right,exists_eq_right,exists_eq_left,exists_eq_left',Q9,Z5,Z7,J6,Z8,e0',e1,e4,f5,hk])
   exact ⟨_,Sub.refl _,B5.less h4⟩
  ·rw [if_neg (fun h=>hk h.2)] at eH
   rw [hv] at hV
   have hkp:0<x.kids.length:=List.length_pos_iff.2 hk
   rw [eH]
   have hs':=hs
   rw [eH] at hs'
   have hmid:∀ e':Env,e' 0=.vp rb 0->e' 1=Y0 n->e' 4=.vp r4 0->vc (Pg G) TV (retK [] fun a h'=>a=.tup []/\WD d h0 rb (s++(XY x++(if X9 d x=true then [10] else [])++x.kids.flatMap (X6 d)++[60,47]++x.name++[62])) h') e' h5:=fun e' q0 q1 q4=>by
    have:=el_mid d V n hn hx ih h4 B5 (by
     simp only [List.length_append,List.length_cons,List.length_nil] at hs' ⊢; omega) q0 q1 q4
    simpa using this
   repeat' (first | ((with_reducible refine brC (fun _=>?_) fun _=>?_) <;> try (exfalso;omega)) | (with_reducible apply pcallE.of; · exact hV) | (with_reducible refine And.intro ?_ ?_; · omega) | simp -dsimp -implicitDefEqProofs (disch:=omega) only [↓Q0 50,↓Q2 50,↓Q0 59,↓Q2 59,↓Q0 64,↓Q2 64,↓Q0 70,↓Q2 70,↓Q0 85,↓Q2 85,VCA,Z1,↓Q3,Nat.reduceEqDiff,Nat.reduceBEq,Nat.reduceAdd,Nat.reduceSub,Nat.reduceMul,Nat.reduceLT,Nat.reduceLeDiff,↓reduceIte,reduceCtorEq,Z3,Q6,SOp.rd,SI.rd,SX.rd,rdL,rdO,rdP,Q5,Q4,Q1,Q8,Q7,Z0,implies_true,forall_const,forall_eq,ne_eq,exists_eq_right_right,exists_eq_right,exists_eq_left,exists_eq_left',Q9,Z5,Z7,J6,Z8,e0',e1,e4,f5,lenp,hk])
   all_goals (refine hmid _ ?_ ?_ ?_ <;> first | (simp [upd,e0'];done) | (simp [upd,e1];done) | (simp [upd,e4];done))
 ·have hv:inW x.name voidS=false:=by simpa using hv
  rw [if_neg (fun h=>by rw [hv] at h;cases h.1)] at eH
  rw [hv] at hV
  rw [eH]
  have hs':=hs
  rw [eH] at hs'
  have hmid:∀ e':Env,e' 0=.vp rb 0->e' 1=Y0 n->e' 4=.vp r4 0->vc (Pg G) TV (retK [] fun a h'=>a=.tup []/\WD d h0 rb (s++(XY x++(if X9 d x=true then [10] else [])++x.kids.flatMap (X6 d)++[60,47]++x.name++[62])) h') e' h5:=fun e' q0 q1 q4=>by
   have:=el_mid d V n hn hx ih h4 B5 (by
    simp only [List.length_append,List.length_cons,List.length_nil] at hs' ⊢; omega) q0 q1 q4
   simpa using this
  repeat' (first | ((with_reducible refine brC (fun _=>?_) fun _=>?_) <;> try (exfalso;omega)) | (with_reducible apply pcallE.of; · exact hV) | (with_reducible refine And.intro ?_ ?_; · omega) | simp -dsimp -implicitDefEqProofs (disch:=omega) only [↓Q0 50,↓Q2 50,↓Q0 59,↓Q2 59,↓Q0 64,↓Q2 64,↓Q0 70,↓Q2 70,↓Q0 85,↓Q2 85,VCA,Z1,↓Q3,Nat.reduceEqDiff,Nat.reduceBEq,Nat.reduceAdd,Nat.reduceSub,Nat.reduceMul,Nat.reduceLT,Nat.reduceLeDiff,↓reduceIte,reduceCtorEq,Z3,Q6,SOp.rd,SI.rd,SX.rd,rdL,rdO,rdP,Q5,Q4,Q1,Q8,Q7,Z0,implies_true,forall_const,forall_eq,ne_eq,exists_eq_right_right,exists_eq_right,exists_eq_left,exists_eq_left',Q9,Z5,Z7,J6,Z8,e0',e1,e4,f5])
  all_goals (refine hmid _ ?_ ?_ ?_ <;> first | (simp [upd,e0'];done) | (simp [upd,e1];done) | (simp [upd,e4];done))
theorem welement_ok (hG:MaxOK G) (d:HDoc) (V:DV d) (n:Int) (hn:inD d n) (h2:(nd d n).kind=2) (ih:∀ k∈(nd d n).kids,NodeC G d k) {h0 h:Z2} {rb:Nat} {s:List UInt8} (B:WD d h0 rb s h) (hs:s.length+(X6 d n).length<=100000000) :
 DCalls (Pg G) 26 [.vp rb 0,Y0 n] h fun a h'=>a=.tup []/\WD d h0 rb (s++X6 d n) h':=by
 obtain ⟨p,buf,hat⟩:=B.at
 have i0:=hn.1
 have i1:=hn.2
 have e0:nth d.nodes n.toNat=nd d n:=rfl
 have Z:=nodeE_sz (V.node n hn)
 have he:=UZ V hn
 obtain ⟨x,hx⟩:∃ x,nd d n=x:=⟨_,rfl⟩
 rw [hx] at e0 Z he h2
 have z1:=Z.name
 have z5:=Z.attrs
 have hle:(XY x).length<=40000:=by
  unfold XY
  have:=flat_le (f:=ZK) (k:=2500) x.attrs fun a ha=>by
   have h1:=Z.each a ha
   have h2:=XV true _ a.value (Nat.le_refl _)
   unfold ZK
   simp only [List.length_append,List.length_cons,List.length_nil]
   omega
  simp only [List.length_append,List.length_cons,List.length_nil]
  omega
 refine Z4 Tryz.func26 hn26 hc26 (by rw [Tryz.ntmps26];simp) (by rw [Tryz.ntmps26];decide) ?_
 simp -dsimp -implicitDefEqProofs (disch:=omega) only [↓Q0 50,↓Q2 50,↓Q0 59,↓Q2 59,↓Q0 64,↓Q2 64,↓Q0 70,↓Q2 70,↓Q0 85,↓Q2 85,VCA,Z1,↓Q3,Nat.reduceEqDiff,Nat.reduceBEq,Nat.reduceAdd,Nat.reduceSub,Nat.reduceMul,Nat.reduceLT,Nat.reduceLeDiff,↓reduceIte,reduceCtorEq,Z3,Q6,SOp.rd,SI.rd,SX.rd,rdL,rdO,rdP,Q5,Q4,Q1,Q8,Q7,Z0,implies_true,forall_const,forall_eq,ne_eq,exists_eq_right_right,exists_eq_right,exists_eq_left,exists_eq_left',Q9,Z5,Z7,J6,Z8,c26,hat]
 repeat' (first | ((with_reducible refine brC (fun _=>?_) fun _=>?_) <;> try (exfalso;omega)) | (with_reducible refine And.intro ?_ ?_; · omega) | simp -dsimp -implicitDefEqProofs (disch:=omega) only [↓Q0 50,↓Q2 50,↓Q0 59,↓Q2 59,↓Q0 64,↓Q2 64,↓Q0 70,↓Q2 70,↓Q0 85,↓Q2 85,VCA,Z1,↓Q3,Nat.reduceEqDiff,Nat.reduceBEq,Nat.reduceAdd,Nat.reduceSub,Nat.reduceMul,Nat.reduceLT,Nat.reduceLeDiff,↓reduceIte,reduceCtorEq,Z3,Q6,SOp.rd,SI.rd,SX.rd,rdL,rdO,rdP,Q5,Q4,Q1,Q8,Q7,Z0,implies_true,forall_const,forall_eq,ne_eq,exists_eq_right_right,exists_eq_right,exists_eq_left,exists_eq_left',Q9,Z5,Z7,J6,Z8,hat,e0,Z6])
 intro r4 hr4
 have n4:¬ rb=r4:=fun e=>by rw [<-e,hat] at hr4;cases hr4
 have n4':¬ r4=rb:=fun e=>n4 e.symm
 have B4:=B.more hr4 ⟨35,6,[Z6 x]⟩
 have hW:=U0 (G:=G) (60 :: x.name) B4 (by simp;omega)
 have h4:=B.free hr4
 repeat' (first | ((with_reducible refine brC (fun _=>?_) fun _=>?_) <;> try (exfalso;omega)) | (with_reducible refine And.intro ?_ ?_; · omega) | simp -dsimp -implicitDefEqProofs (disch:=omega) only [↓Q0 50,↓Q2 50,↓Q0 59,↓Q2 59,↓Q0 64,↓Q2 64,↓Q0 70,↓Q2 70,↓Q0 85,↓Q2 85,VCA,Z1,↓Q3,Nat.reduceEqDiff,Nat.reduceBEq,Nat.reduceAdd,Nat.reduceSub,Nat.reduceMul,Nat.reduceLT,Nat.reduceLeDiff,↓reduceIte,reduceCtorEq,Z3,Q6,SOp.rd,SI.rd,SX.rd,rdL,rdO,rdP,Q5,Q4,Q1,Q8,Q7,Z0,implies_true,forall_const,forall_eq,ne_eq,exists_eq_right_right,exists_eq_right,exists_eq_left,exists_eq_left',Q9,Z5,Z7,J6,Z8,hat,e0,Z6,Z9,n4,n4'])
 refine DCalls.of hW ?_
 rintro a h5 ⟨rfl,B5⟩
 have f4:=B5.has
 unfold Z6 at f4
 simp -dsimp -implicitDefEqProofs (disch:=omega) only [↓Q0 50,↓Q2 50,↓Q0 59,↓Q2 59,↓Q0 64,↓Q2 64,↓Q0 70,↓Q2 70,↓Q0 85,↓Q2 85,VCA,Z1,↓Q3,Nat.reduceEqDiff,Nat.reduceBEq,Nat.reduceAdd,Nat.reduceSub,Nat.reduceMul,Nat.reduceLT,Nat.reduceLeDiff,↓reduceIte,reduceCtorEq,Z3,Q6,SOp.rd,SI.rd,SX.rd,rdL,rdO,rdP,Q5,Q4,Q1,Q8,Q7,Z0,implies_true,forall_const,forall_eq,ne_eq,exists_eq_right_right,exists_eq_right,exists_eq_left,exists_eq_left',Q9,Z5,Z7,J6,Z8,hat,e0,Z6,f4]
 refine LoopVC.intro (fun m e h'=>∃ k:Nat,k<=x.attrs.length/\m=x.attrs.length-k/\e 0=.vp rb 0/\e 1=Y0 n/\e 4=.vp r4 0/\e 23=sl Z5 x.attrs/\e 24=Y0 x.attrs.length/\e 25=Y0 k /\
  WD d (upd h0 r4 (some ⟨.t 35,6,[Z6 x]⟩)) rb (s++(60 :: x.name)++(x.attrs.take k).flatMap ZK) h') x.attrs.length
  ⟨0,by omega,by omega,rfl,rfl,rfl,rfl,rfl,rfl,by simpa using B5⟩ ?_
 rintro m e h' ⟨k,hk,rfl,e0',e1,e4,e23,e24,e25,B'⟩
 have f4':=B'.has
 unfold Z6 at f4'
 obtain ⟨p',buf',hat'⟩:=B'.at
 by_cases hlt:k<x.attrs.length
 ·obtain ⟨c,hcc⟩:∃ c,nth x.attrs k=c:=⟨_,rfl⟩
  have hm:c∈x.attrs:=hcc ▸ U8 hlt
  have zc:=Z.each c hm
  have ts:(x.attrs.take (k+1)).flatMap ZK=(x.attrs.take k).flatMap ZK++ZK c:=by
   rw [KZ hlt,List.flatMap_append,List.flatMap_cons,List.flatMap_nil,List.append_nil,hcc]
  have hE:=escape_ok (G:=G) hG c.value true (by omega)
  have hEl:=XV true _ c.value (Nat.le_refl _)
  have hfl:=flat_le (f:=ZK) (k:=2500) (x.attrs.take k) fun a ha=>by
   have h1:=Z.each a (List.mem_of_mem_take ha)
   have h2:=XV true _ a.value (Nat.le_refl _)
   unfold ZK
   simp only [List.length_append,List.length_cons,List.length_nil]
   omega
  rw [List.length_take] at hfl
  repeat' (first | ((with_reducible refine brC (fun _=>?_) fun _=>?_) <;> try (exfalso;omega)) | (with_reducible refine And.intro ?_ ?_; · omega) | simp -dsimp -implicitDefEqProofs (disch:=omega) only [↓Q0 50,↓Q2 50,↓Q0 59,↓Q2 59,↓Q0 64,↓Q2 64,↓Q0 70,↓Q2 70,↓Q0 85,↓Q2 85,VCA,Z1,↓Q3,Nat.reduceEqDiff,Nat.reduceBEq,Nat.reduceAdd,Nat.reduceSub,Nat.reduceMul,Nat.reduceLT,Nat.reduceLeDiff,↓reduceIte,reduceCtorEq,Z3,Q6,SOp.rd,SI.rd,SX.rd,rdL,rdO,rdP,Q5,Q4,Q1,Q8,Q7,Z0,implies_true,forall_const,forall_eq,ne_eq,exists_eq_right_right,exists_eq_right,exists_eq_left,exists_eq_left',Q9,Z5,Z7,J6,Z8,e0',e1,e4,e23,e24,e25,hcc,Z5])
  intro r6 hr6
  have n6:¬ rb=r6:=fun q=>by rw [<-q,hat'] at hr6;cases hr6
  have n6':¬ r6=rb:=fun q=>n6 q.symm
  have B6:=B'.more hr6 ⟨59,2,[Z5 c]⟩
  have h6:=B'.free hr6
  have hal:(ZK c).length<=2500:=by
   unfold ZK
   simp only [List.length_append,List.length_cons,List.length_nil]
   omega
  have hW6:=U0 (G:=G) (ZK c) B6 (by simp only [List.length_append,List.length_cons];omega)
  have ea:ZK c=32 :: (c.name++[61,34])++JU true c.value++[34]:=by unfold ZK;simp
  rw [ea] at hW6
  repeat' (first | ((with_reducible refine brC (fun _=>?_) fun _=>?_) <;> try (exfalso;omega)) | (with_reducible apply pcallE.of; · exact hE) | (with_reducible refine And.intro ?_ ?_; · omega) | simp -dsimp -implicitDefEqProofs (disch:=omega) only [↓Q0 50,↓Q2 50,↓Q0 59,↓Q2 59,↓Q0 64,↓Q2 64,↓Q0 70,↓Q2 70,↓Q0 85,↓Q2 85,VCA,Z1,↓Q3,Nat.reduceEqDiff,Nat.reduceBEq,Nat.reduceAdd,Nat.reduceSub,Nat.reduceMul,Nat.reduceLT,Nat.reduceLeDiff,↓reduceIte,reduceCtorEq,Z3,Q6,SOp.rd,SI.rd,SX.rd,rdL,rdO,rdP,Q5,Q4,Q1,Q8,Q7,Z0,implies_true,forall_const,forall_eq,ne_eq,exists_eq_right_right,exists_eq_right,exists_eq_left,exists_eq_left',Q9,Z5,Z7,J6,Z8,e0',e1,e4,e23,e24,e25,hcc,Z5,Z9,n6,n6'])
  refine ⟨by simp only [List.length_append,List.length_cons,List.length_nil];omega,by simp only [List.length_append,List.length_cons,List.length_nil];omega,DCalls.of hW6 ?_⟩
  rintro a h7 ⟨rfl,B7⟩
  simp -dsimp -implicitDefEqProofs (disch:=omega) only [↓Q0 50,↓Q2 50,↓Q0 59,↓Q2 59,↓Q0 64,↓Q2 64,↓Q0 70,↓Q2 70,↓Q0 85,↓Q2 85,VCA,Z1,↓Q3,Nat.reduceEqDiff,Nat.reduceBEq,Nat.reduceAdd,Nat.reduceSub,Nat.reduceMul,Nat.reduceLT,Nat.reduceLeDiff,↓reduceIte,reduceCtorEq,Z3,Q6,SOp.rd,SI.rd,SX.rd,rdL,rdO,rdP,Q5,Q4,Q1,Q8,Q7,Z0,implies_true,forall_const,forall_eq,ne_eq,exists_eq_right_right,exists_eq_right,exists_eq_left,exists_eq_left',Q9,Z5,Z7,J6,Z8,e0',e1,e4,e23,e24,e25]
  exact ⟨_,by omega,k+1,by omega,rfl,by omega,by rw [ts,<-List.append_assoc,ea];exact B7.less h6⟩
 ·obtain rfl:k=x.attrs.length:=by omega
  rw [List.take_length] at B'
  repeat' (first | ((with_reducible refine brC (fun _=>?_) fun _=>?_) <;> try (exfalso;omega)) | (with_reducible refine And.intro ?_ ?_; · omega) | simp -dsimp -implicitDefEqProofs (disch:=omega) only [↓Q0 50,↓Q2 50,↓Q0 59,↓Q2 59,↓Q0 64,↓Q2 64,↓Q0 70,↓Q2 70,↓Q0 85,↓Q2 85,VCA,Z1,↓Q3,Nat.reduceEqDiff,Nat.reduceBEq,Nat.reduceAdd,Nat.reduceSub,Nat.reduceMul,Nat.reduceLT,Nat.reduceLeDiff,↓reduceIte,reduceCtorEq,Z3,Q6,SOp.rd,SI.rd,SX.rd,rdL,rdO,rdP,Q5,Q4,Q1,Q8,Q7,Z0,implies_true,forall_const,forall_eq,ne_eq,exists_eq_right_right,exists_eq_right,exists_eq_left,exists_eq_left',Q9,Z5,Z7,J6,Z8,e0',e1,e4,e23,e24,e25])
  exact el_end hG d V n hn hx h2 ih h4 B' hs (by simpa [upd] using e0') (by simpa [upd] using e1) (by simpa [upd] using e4)
def c13:SFun:=⟨.seq (.reg [o 5 (.mv (.t 0)),o 6 (.fldA 0 (.t 5)),o 7 (.fldA 2 (.t 6)),o 8 (.fldA 0 (.t 7)),o 9 (.ld 1 false (.t 8)),o 10 (.mv (.t 1)),o 11 (.idxA 6 (.t 9) (.t 10)),o 12 (.ld 6 true (.t 11)),o 4 (.new 35 6 [.int .i64 0,.str [],.emp,.str [],.int .i64 0,.emp]),⟨none,.st 6 (.t 4) (.t 12),none⟩]) (.seq (.reg [o 13 (.fldA 0 (.t 4)),o 14 (.ld 1 false (.t 13))]) (.block 0 (.seq (.reg [o 19 (.bin .eql (.t 14) (.c (.int .i64 1))),o 18 (.mv (.t 19))]) (.cond (.t 18) (.reg [o 20 (.mv (.t 0)),o 21 (.mv (.t 1)),o 22 (.call (.c (.fn 23 [] [])) [.t 20,.t 21])]) (.seq (.reg [o 24 (.bin .eql (.t 14) (.c (.int .i64 5))),o 23 (.mv (.t 24))]) (.cond (.t 23) (.dreg [(o 25 (.mv (.t 0)),none),(o 26 (.fldA 0 (.t 25)),none),(o 27 (.fldA 0 (.t 26)),none),(o 28 (.fldA 1 (.t 4)),none),(o 29 (.ld 1 false (.t 28)),none),(o 30 (.bin .add (.c (.str [60,33,68,79,67,84,89,80,69,32])) (.t 29)),none),(o 31 (.bin .add (.t 30) (.c (.str [62]))),none),(o 32 (.call (.c (.fn 24 [] [])) [.t 27,.t 31]),(some [29]))]) (.seq (.reg [o 34 (.bin .eql (.t 14) (.c (.int .i64 4))),o 33 (.mv (.t 34))]) (.cond (.t 33) (.dreg [(o 35 (.mv (.t 0)),none),(o 36 (.fldA 0 (.t 35)),none),(o 37 (.fldA 0 (.t 36)),none),(o 38 (.fldA 3 (.t 4)),none),(o 39 (.ld 1 false (.t 38)),none),(o 40 (.bin .add (.c (.str [60,33,45,45])) (.t 39)),none),(o 41 (.bin .add (.t 40) (.c (.str [45,45,62]))),none),(o 42 (.call (.c (.fn 24 [] [])) [.t 37,.t 41]),(some [39]))]) (.seq (.reg [o 44 (.bin .eql (.t 14) (.c (.int .i64 3))),o 43 (.mv (.t 44))]) (.cond (.t 43) (.reg [o 45 (.mv (.t 0)),o 46 (.ld 6 true (.t 4)),o 47 (.call (.c (.fn 25 [] [])) [.t 45,.t 46])]) (.reg [o 15 (.mv (.t 0)),o 16 (.mv (.t 1)),o 17 (.call (.c (.fn 26 [] [])) [.t 15,.t 16])]))))))))))),[]⟩
theorem hc13:Y6 Tryz.prog {} Tryz.f13=some c13:=by kernel_rfl
theorem hn13 : (Tryz.f13.name == "runtime.NumGoroutine") = false := by kernel_rfl
theorem wnode_ok (hG:MaxOK G) (d:HDoc) (V:DV d):∀ n,inD d n->NodeC G d n:=V.down fun n hn ih h0 h rb s B hs=>by
 obtain ⟨p,buf,hat⟩:=B.at
 have i0:=hn.1
 have i1:=hn.2
 have e0:nth d.nodes n.toNat=nd d n:=rfl
 have Z:=nodeE_sz (V.node n hn)
 have he:=UZ V hn
 have hk1:=V.kind n hn
 have hE:=fun (h2:(nd d n).kind=2) (h0 h:Z2) (rb:Nat) (s:List UInt8) (B:WD d h0 rb s h)=>welement_ok (G:=G) hG d V n hn h2 ih B
 have hK:=fun (h0 h:Z2) (rb:Nat) (s:List UInt8) (B:WD d h0 rb s h)=>wkids_ok (G:=G) d V n hn ih B
 obtain ⟨x,hx⟩:∃ x,nd d n=x:=⟨_,rfl⟩
 rw [hx] at e0 Z he hk1 hE hK
 have z1:=Z.name
 have z2:=Z.text
 have hzk:=Z.kind
 unfold htG at he
 have n4:∀ r4,h r4=none->¬ rb=r4/\¬ r4=rb:=fun r4 hr4=>⟨(fun e=>by rw [<-e,hat] at hr4;cases hr4),(fun e=>by rw [e,hat] at hr4;cases hr4)⟩
 by_cases h1:x.kind=1
 ·have b1:(x.kind==1)=true:=by simpa using h1
  rw [if_pos h1] at he
  rw [he] at hs ⊢
  have hn0:=hk1.1 h1
  refine Z4 Tryz.func13 hn13 hc13 (by rw [Tryz.ntmps13];simp) (by rw [Tryz.ntmps13];decide) ?_
  simp -dsimp -implicitDefEqProofs (disch:=omega) only [VCA,Z1,↓Q3,Nat.reduceEqDiff,Nat.reduceBEq,Nat.reduceAdd,Nat.reduceSub,Nat.reduceMul,Nat.reduceLT,Nat.reduceLeDiff,↓reduceIte,reduceCtorEq,Z3,Q6,SOp.rd,SI.rd,SX.rd,rdL,rdO,rdP,Q5,Q4,Q1,Q8,Q7,Z0,implies_true,forall_const,forall_eq,ne_eq,exists_eq_right_right,exists_eq_right,exists_eq_left,exists_eq_left',Q9,Z5,Z7,J6,Z8,c13,hat]
  repeat' (first | ((with_reducible refine brC (fun _=>?_) fun _=>?_) <;> try (exfalso;omega)) | (with_reducible refine And.intro ?_ ?_; · omega) | simp -dsimp -implicitDefEqProofs (disch:=omega) only [VCA,Z1,↓Q3,Nat.reduceEqDiff,Nat.reduceBEq,Nat.reduceAdd,Nat.reduceSub,Nat.reduceMul,Nat.reduceLT,Nat.reduceLeDiff,↓reduceIte,reduceCtorEq,Z3,Q6,SOp.rd,SI.rd,SX.rd,rdL,rdO,rdP,Q5,Q4,Q1,Q8,Q7,Z0,implies_true,forall_const,forall_eq,ne_eq,exists_eq_right_right,exists_eq_right,exists_eq_left,exists_eq_left',Q9,Z5,Z7,J6,Z8,hat,e0,Z6,b1])
  intro r4 hr4
  obtain ⟨m1,m2⟩:=n4 r4 hr4
  have B4:=B.more hr4 ⟨35,6,[Z6 x]⟩
  have h4:=B.free hr4
  repeat' (first | ((with_reducible refine brC (fun _=>?_) fun _=>?_) <;> try (exfalso;omega)) | (with_reducible refine And.intro ?_ ?_; · omega) | simp -dsimp -implicitDefEqProofs (disch:=omega) only [VCA,Z1,↓Q3,Nat.reduceEqDiff,Nat.reduceBEq,Nat.reduceAdd,Nat.reduceSub,Nat.reduceMul,Nat.reduceLT,Nat.reduceLeDiff,↓reduceIte,reduceCtorEq,Z3,Q6,SOp.rd,SI.rd,SX.rd,rdL,rdO,rdP,Q5,Q4,Q1,Q8,Q7,Z0,implies_true,forall_const,forall_eq,ne_eq,exists_eq_right_right,exists_eq_right,exists_eq_left,exists_eq_left',Q9,Z5,Z7,J6,Z8,hat,e0,Z6,Z9,m1,m2,b1])
  refine DCalls.of (hK _ _ _ _ B4 hs) ?_
  rintro a h5 ⟨rfl,B5⟩
  simp -dsimp -implicitDefEqProofs (disch:=omega) only [VCA,Z1,↓Q3,Nat.reduceEqDiff,Nat.reduceBEq,Nat.reduceAdd,Nat.reduceSub,Nat.reduceMul,Nat.reduceLT,Nat.reduceLeDiff,↓reduceIte,reduceCtorEq,Z3,Q6,SOp.rd,SI.rd,SX.rd,rdL,rdO,rdP,Q5,Q4,Q1,Q8,Q7,Z0,implies_true,forall_const,forall_eq,ne_eq,exists_eq_right_right,exists_eq_right,exists_eq_left,exists_eq_left',Q9,Z5,Z7,J6,Z8]
  exact ⟨_,Sub.refl _,B5.less h4⟩
 rw [if_neg h1] at he
 have b1:(x.kind==1)=false:=by simpa using h1
 by_cases h5:x.kind=5
 ·have b5:(x.kind==5)=true:=by simpa using h5
  rw [if_pos h5] at he
  rw [he] at hs ⊢
  refine Z4 Tryz.func13 hn13 hc13 (by rw [Tryz.ntmps13];simp) (by rw [Tryz.ntmps13];decide) ?_
  simp -dsimp -implicitDefEqProofs (disch:=omega) only [VCA,Z1,↓Q3,Nat.reduceEqDiff,Nat.reduceBEq,Nat.reduceAdd,Nat.reduceSub,Nat.reduceMul,Nat.reduceLT,Nat.reduceLeDiff,↓reduceIte,reduceCtorEq,Z3,Q6,SOp.rd,SI.rd,SX.rd,rdL,rdO,rdP,Q5,Q4,Q1,Q8,Q7,Z0,implies_true,forall_const,forall_eq,ne_eq,exists_eq_right_right,exists_eq_right,exists_eq_left,exists_eq_left',Q9,Z5,Z7,J6,Z8,c13,hat]
  repeat' (first | ((with_reducible refine brC (fun _=>?_) fun _=>?_) <;> try (exfalso;omega)) | (with_reducible refine And.intro ?_ ?_; · omega) | simp -dsimp -implicitDefEqProofs (disch:=omega) only [VCA,Z1,↓Q3,Nat.reduceEqDiff,Nat.reduceBEq,Nat.reduceAdd,Nat.reduceSub,Nat.reduceMul,Nat.reduceLT,Nat.reduceLeDiff,↓reduceIte,reduceCtorEq,Z3,Q6,SOp.rd,SI.rd,SX.rd,rdL,rdO,rdP,Q5,Q4,Q1,Q8,Q7,Z0,implies_true,forall_const,forall_eq,ne_eq,exists_eq_right_right,exists_eq_right,exists_eq_left,exists_eq_left',Q9,Z5,Z7,J6,Z8,hat,e0,Z6,b1,b5])
  intro r4 hr4
  obtain ⟨m1,m2⟩:=n4 r4 hr4
  have B4:=B.more hr4 ⟨35,6,[Z6 x]⟩
  have h4:=B.free hr4
  have hW:=U0 (G:=G) ([60,33,68,79,67,84,89,80,69,32]++x.name++[62]) B4 (by simp only [List.length_append,List.length_cons,List.length_nil] at hs ⊢; omega)
  simp only [List.cons_append,List.nil_append] at hW
  repeat' (first | ((with_reducible refine brC (fun _=>?_) fun _=>?_) <;> try (exfalso;omega)) | (with_reducible refine And.intro ?_ ?_; · omega) | simp -dsimp -implicitDefEqProofs (disch:=omega) only [VCA,Z1,↓Q3,Nat.reduceEqDiff,Nat.reduceBEq,Nat.reduceAdd,Nat.reduceSub,Nat.reduceMul,Nat.reduceLT,Nat.reduceLeDiff,↓reduceIte,reduceCtorEq,Z3,Q6,SOp.rd,SI.rd,SX.rd,rdL,rdO,rdP,Q5,Q4,Q1,Q8,Q7,Z0,implies_true,forall_const,forall_eq,ne_eq,exists_eq_right_right,exists_eq_right,exists_eq_left,exists_eq_left',Q9,Z5,Z7,J6,Z8,hat,e0,Z6,Z9,m1,m2,b1,b5])
  refine DCalls.of hW ?_
  rintro a h6 ⟨rfl,B6⟩
  simp -dsimp -implicitDefEqProofs (disch:=omega) only [VCA,Z1,↓Q3,Nat.reduceEqDiff,Nat.reduceBEq,Nat.reduceAdd,Nat.reduceSub,Nat.reduceMul,Nat.reduceLT,Nat.reduceLeDiff,↓reduceIte,reduceCtorEq,Z3,Q6,SOp.rd,SI.rd,SX.rd,rdL,rdO,rdP,Q5,Q4,Q1,Q8,Q7,Z0,implies_true,forall_const,forall_eq,ne_eq,exists_eq_right_right,exists_eq_right,exists_eq_left,exists_eq_left',Q9,Z5,Z7,J6,Z8]
  first | exact ⟨_,Sub.refl _,B6.less h4⟩ | exact ⟨_,Sub.refl _,by simpa using B6.less h4⟩
 rw [if_neg h5] at he
 have b5:(x.kind==5)=false:=by simpa using h5
 by_cases h4:x.kind=4
 ·have b4:(x.kind==4)=true:=by simpa using h4
  rw [if_pos h4] at he
  rw [he] at hs ⊢
  refine Z4 Tryz.func13 hn13 hc13 (by rw [Tryz.ntmps13];simp) (by rw [Tryz.ntmps13];decide) ?_
  simp -dsimp -implicitDefEqProofs (disch:=omega) only [VCA,Z1,↓Q3,Nat.reduceEqDiff,Nat.reduceBEq,Nat.reduceAdd,Nat.reduceSub,Nat.reduceMul,Nat.reduceLT,Nat.reduceLeDiff,↓reduceIte,reduceCtorEq,Z3,Q6,SOp.rd,SI.rd,SX.rd,rdL,rdO,rdP,Q5,Q4,Q1,Q8,Q7,Z0,implies_true,forall_const,forall_eq,ne_eq,exists_eq_right_right,exists_eq_right,exists_eq_left,exists_eq_left',Q9,Z5,Z7,J6,Z8,c13,hat]
  repeat' (first | ((with_reducible refine brC (fun _=>?_) fun _=>?_) <;> try (exfalso;omega)) | (with_reducible refine And.intro ?_ ?_; · omega) | simp -dsimp -implicitDefEqProofs (disch:=omega) only [VCA,Z1,↓Q3,Nat.reduceEqDiff,Nat.reduceBEq,Nat.reduceAdd,Nat.reduceSub,Nat.reduceMul,Nat.reduceLT,Nat.reduceLeDiff,↓reduceIte,reduceCtorEq,Z3,Q6,SOp.rd,SI.rd,SX.rd,rdL,rdO,rdP,Q5,Q4,Q1,Q8,Q7,Z0,implies_true,forall_const,forall_eq,ne_eq,exists_eq_right_right,exists_eq_right,exists_eq_left,exists_eq_left',Q9,Z5,Z7,J6,Z8,hat,e0,Z6,b1,b5,b4])
  intro r4 hr4
  obtain ⟨m1,m2⟩:=n4 r4 hr4
  have B4:=B.more hr4 ⟨35,6,[Z6 x]⟩
  have h4':=B.free hr4
  have hW:=U0 (G:=G) ([60,33,45,45]++x.text++[45,45,62]) B4 (by simp only [List.length_append,List.length_cons,List.length_nil] at hs ⊢; omega)
  simp only [List.cons_append,List.nil_append] at hW
  repeat' (first | ((with_reducible refine brC (fun _=>?_) fun _=>?_) <;> try (exfalso;omega)) | (with_reducible refine And.intro ?_ ?_; · omega) | simp -dsimp -implicitDefEqProofs (disch:=omega) only [VCA,Z1,↓Q3,Nat.reduceEqDiff,Nat.reduceBEq,Nat.reduceAdd,Nat.reduceSub,Nat.reduceMul,Nat.reduceLT,Nat.reduceLeDiff,↓reduceIte,reduceCtorEq,Z3,Q6,SOp.rd,SI.rd,SX.rd,rdL,rdO,rdP,Q5,Q4,Q1,Q8,Q7,Z0,implies_true,forall_const,forall_eq,ne_eq,exists_eq_right_right,exists_eq_right,exists_eq_left,exists_eq_left',Q9,Z5,Z7,J6,Z8,hat,e0,Z6,Z9,m1,m2,b1,b5,b4])
  refine DCalls.of hW ?_
  rintro a h6 ⟨rfl,B6⟩
  simp -dsimp -implicitDefEqProofs (disch:=omega) only [VCA,Z1,↓Q3,Nat.reduceEqDiff,Nat.reduceBEq,Nat.reduceAdd,Nat.reduceSub,Nat.reduceMul,Nat.reduceLT,Nat.reduceLeDiff,↓reduceIte,reduceCtorEq,Z3,Q6,SOp.rd,SI.rd,SX.rd,rdL,rdO,rdP,Q5,Q4,Q1,Q8,Q7,Z0,implies_true,forall_const,forall_eq,ne_eq,exists_eq_right_right,exists_eq_right,exists_eq_left,exists_eq_left',Q9,Z5,Z7,J6,Z8]
  first | exact ⟨_,Sub.refl _,B6.less h4'⟩ | exact ⟨_,Sub.refl _,by simpa using B6.less h4'⟩
 rw [if_neg h4] at he
 have b4:(x.kind==4)=false:=by simpa using h4
 by_cases h3:x.kind=3
 ·have b3:(x.kind==3)=true:=by simpa using h3
  rw [if_pos h3] at he
  have he:X6 d n=textH d x:=he
  rw [he] at hs ⊢
  refine Z4 Tryz.func13 hn13 hc13 (by rw [Tryz.ntmps13];simp) (by rw [Tryz.ntmps13];decide) ?_
  simp -dsimp -implicitDefEqProofs (disch:=omega) only [VCA,Z1,↓Q3,Nat.reduceEqDiff,Nat.reduceBEq,Nat.reduceAdd,Nat.reduceSub,Nat.reduceMul,Nat.reduceLT,Nat.reduceLeDiff,↓reduceIte,reduceCtorEq,Z3,Q6,SOp.rd,SI.rd,SX.rd,rdL,rdO,rdP,Q5,Q4,Q1,Q8,Q7,Z0,implies_true,forall_const,forall_eq,ne_eq,exists_eq_right_right,exists_eq_right,exists_eq_left,exists_eq_left',Q9,Z5,Z7,J6,Z8,c13,hat]
  repeat' (first | ((with_reducible refine brC (fun _=>?_) fun _=>?_) <;> try (exfalso;omega)) | (with_reducible refine And.intro ?_ ?_; · omega) | simp -dsimp -implicitDefEqProofs (disch:=omega) only [VCA,Z1,↓Q3,Nat.reduceEqDiff,Nat.reduceBEq,Nat.reduceAdd,Nat.reduceSub,Nat.reduceMul,Nat.reduceLT,Nat.reduceLeDiff,↓reduceIte,reduceCtorEq,Z3,Q6,SOp.rd,SI.rd,SX.rd,rdL,rdO,rdP,Q5,Q4,Q1,Q8,Q7,Z0,implies_true,forall_const,forall_eq,ne_eq,exists_eq_right_right,exists_eq_right,exists_eq_left,exists_eq_left',Q9,Z5,Z7,J6,Z8,hat,e0,Z6,b1,b5,b4,b3])
  intro r4 hr4
  obtain ⟨m1,m2⟩:=n4 r4 hr4
  have B4:=B.more hr4 ⟨35,6,[Z6 x]⟩
  have h4':=B.free hr4
  have hT:=wtext_ok (G:=G) hG d Z (fun hp=>by rw [<-hx] at hp ⊢; exact (V.par_in hn hp).1) B4 (by omega)
  unfold Z6 at hT
  repeat' (first | ((with_reducible refine brC (fun _=>?_) fun _=>?_) <;> try (exfalso;omega)) | (with_reducible refine And.intro ?_ ?_; · omega) | simp -dsimp -implicitDefEqProofs (disch:=omega) only [VCA,Z1,↓Q3,Nat.reduceEqDiff,Nat.reduceBEq,Nat.reduceAdd,Nat.reduceSub,Nat.reduceMul,Nat.reduceLT,Nat.reduceLeDiff,↓reduceIte,reduceCtorEq,Z3,Q6,SOp.rd,SI.rd,SX.rd,rdL,rdO,rdP,Q5,Q4,Q1,Q8,Q7,Z0,implies_true,forall_const,forall_eq,ne_eq,exists_eq_right_right,exists_eq_right,exists_eq_left,exists_eq_left',Q9,Z5,Z7,J6,Z8,hat,e0,Z6,Z9,m1,m2,b1,b5,b4,b3])
  refine DCalls.of hT ?_
  rintro a h6 ⟨rfl,B6⟩
  simp -dsimp -implicitDefEqProofs (disch:=omega) only [VCA,Z1,↓Q3,Nat.reduceEqDiff,Nat.reduceBEq,Nat.reduceAdd,Nat.reduceSub,Nat.reduceMul,Nat.reduceLT,Nat.reduceLeDiff,↓reduceIte,reduceCtorEq,Z3,Q6,SOp.rd,SI.rd,SX.rd,rdL,rdO,rdP,Q5,Q4,Q1,Q8,Q7,Z0,implies_true,forall_const,forall_eq,ne_eq,exists_eq_right_right,exists_eq_right,exists_eq_left,exists_eq_left',Q9,Z5,Z7,J6,Z8]
  first | exact ⟨_,Sub.refl _,B6.less h4'⟩ | exact ⟨_,Sub.refl _,by simpa using B6.less h4'⟩
 have h2:x.kind=2:=by omega
 have b3:(x.kind==3)=false:=by simpa using h3
 refine Z4 Tryz.func13 hn13 hc13 (by rw [Tryz.ntmps13];simp) (by rw [Tryz.ntmps13];decide) ?_
 simp -dsimp -implicitDefEqProofs (disch:=omega) only [VCA,Z1,↓Q3,Nat.reduceEqDiff,Nat.reduceBEq,Nat.reduceAdd,Nat.reduceSub,Nat.reduceMul,Nat.reduceLT,Nat.reduceLeDiff,↓reduceIte,reduceCtorEq,Z3,Q6,SOp.rd,SI.rd,SX.rd,rdL,rdO,rdP,Q5,Q4,Q1,Q8,Q7,Z0,implies_true,forall_const,forall_eq,ne_eq,exists_eq_right_right,exists_eq_right,exists_eq_left,exists_eq_left',Q9,Z5,Z7,J6,Z8,c13,hat]
 repeat' (first | ((with_reducible refine brC (fun _=>?_) fun _=>?_) <;> try (exfalso;omega)) | (with_reducible refine And.intro ?_ ?_; · omega) | simp -dsimp -implicitDefEqProofs (disch:=omega) only [VCA,Z1,↓Q3,Nat.reduceEqDiff,Nat.reduceBEq,Nat.reduceAdd,Nat.reduceSub,Nat.reduceMul,Nat.reduceLT,Nat.reduceLeDiff,↓reduceIte,reduceCtorEq,Z3,Q6,SOp.rd,SI.rd,SX.rd,rdL,rdO,rdP,Q5,Q4,Q1,Q8,Q7,Z0,implies_true,forall_const,forall_eq,ne_eq,exists_eq_right_right,exists_eq_right,exists_eq_left,exists_eq_left',Q9,Z5,Z7,J6,Z8,hat,e0,Z6,b1,b5,b4,b3])
 intro r4 hr4
 obtain ⟨m1,m2⟩:=n4 r4 hr4
 have B4:=B.more hr4 ⟨35,6,[Z6 x]⟩
 have h4':=B.free hr4
 repeat' (first | ((with_reducible refine brC (fun _=>?_) fun _=>?_) <;> try (exfalso;omega)) | (with_reducible refine And.intro ?_ ?_; · omega) | simp -dsimp -implicitDefEqProofs (disch:=omega) only [VCA,Z1,↓Q3,Nat.reduceEqDiff,Nat.reduceBEq,Nat.reduceAdd,Nat.reduceSub,Nat.reduceMul,Nat.reduceLT,Nat.reduceLeDiff,↓reduceIte,reduceCtorEq,Z3,Q6,SOp.rd,SI.rd,SX.rd,rdL,rdO,rdP,Q5,Q4,Q1,Q8,Q7,Z0,implies_true,forall_const,forall_eq,ne_eq,exists_eq_right_right,exists_eq_right,exists_eq_left,exists_eq_left',Q9,Z5,Z7,J6,Z8,hat,e0,Z6,Z9,m1,m2,b1,b5,b4,b3])
 refine DCalls.of (hE h2 _ _ _ _ B4 hs) ?_
 rintro a h6 ⟨rfl,B6⟩
 simp -dsimp -implicitDefEqProofs (disch:=omega) only [VCA,Z1,↓Q3,Nat.reduceEqDiff,Nat.reduceBEq,Nat.reduceAdd,Nat.reduceSub,Nat.reduceMul,Nat.reduceLT,Nat.reduceLeDiff,↓reduceIte,reduceCtorEq,Z3,Q6,SOp.rd,SI.rd,SX.rd,rdL,rdO,rdP,Q5,Q4,Q1,Q8,Q7,Z0,implies_true,forall_const,forall_eq,ne_eq,exists_eq_right_right,exists_eq_right,exists_eq_left,exists_eq_left',Q9,Z5,Z7,J6,Z8]
 exact ⟨_,Sub.refl _,B6.less h4'⟩
def htmlV (d:HDoc) (n:Int):List UInt8×Int:=if docE d≠0 then ([],docE d) else if ¬ inD d n then ([],1) else (X6 d n,0)
def c7:SFun:=⟨.seq (.reg [o 2 (.boxF 24 2 (.t 0)),o 4 (.mv (.c (.str []))),o 5 (.mv (.c (.int .i64 0)))]) (.seq (.seq (.reg [o 8 (.ld 2 true (.t 2)),o 9 (.pcall 9 [.t 8]),o 6 (.mv (.t 9))]) (.seq (.reg [o 10 (.mv (.t 6)),o 11 (.bin .neq (.t 10) (.c (.int .i64 0)))]) (.cond (.t 11) (.seq (.reg [o 12 (.mv (.t 6)),o 4 (.mv (.c (.str []))),o 5 (.mv (.t 12))]) .ret) .skip))) (.seq (.seq (.reg [o 13 (.mv (.t 1)),o 14 (.bin .lss (.t 13) (.c (.int .i64 0))),o 15 (.mv (.t 14)),⟨some 16,.mv (.t 1),some (15,false)⟩,⟨some 17,.fldA 0 (.t 2),some (15,false)⟩,⟨some 18,.ld 1 false (.t 17),some (15,false)⟩,⟨some 19,.len (.t 18),some (15,false)⟩,⟨some 20,.bin .geq (.t 16) (.t 19),some (15,false)⟩,o 21 (.pick (.t 15) (.c (.bool true)) (.t 20))]) (.cond (.t 21) (.seq (.reg [o 4 (.mv (.c (.str []))),o 5 (.mv (.c (.int .i64 1)))]) .ret) .skip)) (.seq (.reg [o 22 (.ld 2 true (.t 2)),o 23 (.bld [.prim (Value.pointer none),.emp,.emp,.bool false] [(2,(2,(.t 22)))]),o 24 (.box 51 4 (.t 23)),o 7 (.mv (.t 24))]) (.seq (.reg [o 25 (.mv (.t 7)),o 26 (.mv (.t 1)),o 27 (.call (.c (.fn 13 [] [])) [.t 25,.t 26])]) (.seq (.reg [o 28 (.mv (.t 7)),o 29 (.fldA 0 (.t 28)),o 30 (.fldA 0 (.t 29)),o 31 (.call (.c (.fn 14 [] [])) [.t 30]),o 4 (.mv (.t 31)),o 5 (.mv (.c (.int .i64 0)))]) .ret))))),[.tmp 4,.tmp 5]⟩
theorem hc7:Y6 Tryz.prog {pure:=[9],how:=[(24,6)]} Tryz.f7=some c7:=by kernel_rfl
theorem hn7 : (Tryz.f7.name == "runtime.NumGoroutine") = false := by kernel_rfl
theorem html_ok (hG:MaxOK G) (d:HDoc) (sm:DocSm d) (n:Int):PCalls (Pg G) 7 [.agg (J9 d),Y0 n] (.tup [.str (htmlV d n).1,Y0 (htmlV d n).2]):=fun h=>by
 have hC:=check_ok (G:=G) d sm
 have hl:=sm.len
 unfold J9 at hC
 unfold htmlV
 by_cases hd:docE d=0
 ·rw [if_neg (by simpa using hd)]
  rw [hd] at hC
  have V:=(YY d).1 hd
  by_cases hn:inD d n
  ·rw [if_neg (by simpa using hn)]
   have n0:=hn.1
   have n1:=hn.2
   have hN:=wnode_ok (G:=G) hG d V n hn
   have hlen:=html_len V n hn
   have hbl:=VV V hn
   have vl:=V.len
   refine Z4 Tryz.func7 hn7 hc7 (by rw [Tryz.ntmps7];simp) (by rw [Tryz.ntmps7];decide) ?_
   simp -dsimp -implicitDefEqProofs (disch:=omega) only [↓Q0 15,↓Q2 15,VCA,Z1,↓Q3,Nat.reduceEqDiff,Nat.reduceBEq,Nat.reduceAdd,Nat.reduceSub,Nat.reduceMul,Nat.reduceLT,Nat.reduceLeDiff,↓reduceIte,reduceCtorEq,Z3,Q6,SOp.rd,SI.rd,SX.rd,rdL,rdO,rdP,Q5,Q4,Q1,Q8,Q7,Z0,implies_true,forall_const,forall_eq,ne_eq,exists_eq_right_right,exists_eq_right,exists_eq_left,exists_eq_left',Q9,Z5,Z7,J6,Z8,c7,J9]
   repeat' (first | ((with_reducible refine brC (fun _=>?_) fun _=>?_) <;> try (exfalso;omega)) | (with_reducible apply pcallE.of; · exact hC) | (with_reducible refine And.intro ?_ ?_; · omega) | simp -dsimp -implicitDefEqProofs (disch:=omega) only [↓Q0 15,↓Q2 15,VCA,Z1,↓Q3,Nat.reduceEqDiff,Nat.reduceBEq,Nat.reduceAdd,Nat.reduceSub,Nat.reduceMul,Nat.reduceLT,Nat.reduceLeDiff,↓reduceIte,reduceCtorEq,Z3,Q6,SOp.rd,SI.rd,SX.rd,rdL,rdO,rdP,Q5,Q4,Q1,Q8,Q7,Z0,implies_true,forall_const,forall_eq,ne_eq,exists_eq_right_right,exists_eq_right,exists_eq_left,exists_eq_left',Q9,Z5,Z7,J6,Z8,J9])
   intro rb hrb
   have B0:=BlE.new (x:=sl Z6 d.nodes) (y:=.bool d.quirks) h rb hrb
   repeat' (first | ((with_reducible refine brC (fun _=>?_) fun _=>?_) <;> try (exfalso;omega)) | (with_reducible refine And.intro ?_ ?_; · omega) | simp -dsimp -implicitDefEqProofs (disch:=omega) only [↓Q0 15,↓Q2 15,VCA,Z1,↓Q3,Nat.reduceEqDiff,Nat.reduceBEq,Nat.reduceAdd,Nat.reduceSub,Nat.reduceMul,Nat.reduceLT,Nat.reduceLeDiff,↓reduceIte,reduceCtorEq,Z3,Q6,SOp.rd,SI.rd,SX.rd,rdL,rdO,rdP,Q5,Q4,Q1,Q8,Q7,Z0,implies_true,forall_const,forall_eq,ne_eq,exists_eq_right_right,exists_eq_right,exists_eq_left,exists_eq_left',Q9,Z5,Z7,J6,Z8,J9])
   refine DCalls.of (hN _ _ _ _ B0 (by simp only [List.length_nil];omega)) ?_
   rintro a h5 ⟨rfl,B5⟩
   rw [List.nil_append] at B5
   repeat' (first | ((with_reducible refine brC (fun _=>?_) fun _=>?_) <;> try (exfalso;omega)) | (with_reducible refine And.intro ?_ ?_; · omega) | simp -dsimp -implicitDefEqProofs (disch:=omega) only [↓Q0 15,↓Q2 15,VCA,Z1,↓Q3,Nat.reduceEqDiff,Nat.reduceBEq,Nat.reduceAdd,Nat.reduceSub,Nat.reduceMul,Nat.reduceLT,Nat.reduceLeDiff,↓reduceIte,reduceCtorEq,Z3,Q6,SOp.rd,SI.rd,SX.rd,rdL,rdO,rdP,Q5,Q4,Q1,Q8,Q7,Z0,implies_true,forall_const,forall_eq,ne_eq,exists_eq_right_right,exists_eq_right,exists_eq_left,exists_eq_left',Q9,Z5,Z7,J6,Z8,J9])
   refine DCalls.of (stringE_ok B5 (by omega)) ?_
   rintro a h6 ⟨rfl,S⟩
   simp -dsimp -implicitDefEqProofs (disch:=omega) only [↓Q0 15,↓Q2 15,VCA,Z1,↓Q3,Nat.reduceEqDiff,Nat.reduceBEq,Nat.reduceAdd,Nat.reduceSub,Nat.reduceMul,Nat.reduceLT,Nat.reduceLeDiff,↓reduceIte,reduceCtorEq,Z3,Q6,SOp.rd,SI.rd,SX.rd,rdL,rdO,rdP,Q5,Q4,Q1,Q8,Q7,Z0,implies_true,forall_const,forall_eq,ne_eq,exists_eq_right_right,exists_eq_right,exists_eq_left,exists_eq_left',Q9,Z5,Z7,J6,Z8,J9]
   exact S
  ·have hn':n<0\/(d.nodes.length:Int)<=n:=by unfold inD at hn;omega
   rw [if_pos (by simpa using hn)]
   refine Z4 Tryz.func7 hn7 hc7 (by rw [Tryz.ntmps7];simp) (by rw [Tryz.ntmps7];decide) ?_
   simp -dsimp -implicitDefEqProofs (disch:=omega) only [↓Q0 15,↓Q2 15,VCA,Z1,↓Q3,Nat.reduceEqDiff,Nat.reduceBEq,Nat.reduceAdd,Nat.reduceSub,Nat.reduceMul,Nat.reduceLT,Nat.reduceLeDiff,↓reduceIte,reduceCtorEq,Z3,Q6,SOp.rd,SI.rd,SX.rd,rdL,rdO,rdP,Q5,Q4,Q1,Q8,Q7,Z0,implies_true,forall_const,forall_eq,ne_eq,exists_eq_right_right,exists_eq_right,exists_eq_left,exists_eq_left',Q9,Z5,Z7,J6,Z8,c7,J9]
   repeat' (first | ((with_reducible refine brC (fun _=>?_) fun _=>?_) <;> try (exfalso;omega)) | (with_reducible apply pcallE.of; · exact hC) | (with_reducible refine And.intro ?_ ?_; · omega) | simp -dsimp -implicitDefEqProofs (disch:=omega) only [↓Q0 15,↓Q2 15,VCA,Z1,↓Q3,Nat.reduceEqDiff,Nat.reduceBEq,Nat.reduceAdd,Nat.reduceSub,Nat.reduceMul,Nat.reduceLT,Nat.reduceLeDiff,↓reduceIte,reduceCtorEq,Z3,Q6,SOp.rd,SI.rd,SX.rd,rdL,rdO,rdP,Q5,Q4,Q1,Q8,Q7,Z0,implies_true,forall_const,forall_eq,ne_eq,exists_eq_right_right,exists_eq_right,exists_eq_left,exists_eq_left',Q9,Z5,Z7,J6,Z8,J9])
   all_goals first | exact Sub.refl _ | trace_state
 ·rw [if_pos hd]
  have hd':(docE d != 0)=true:=by simpa using hd
  refine Z4 Tryz.func7 hn7 hc7 (by rw [Tryz.ntmps7];simp) (by rw [Tryz.ntmps7];decide) ?_
  simp -dsimp -implicitDefEqProofs (disch:=omega) only [↓Q0 15,↓Q2 15,VCA,Z1,↓Q3,Nat.reduceEqDiff,Nat.reduceBEq,Nat.reduceAdd,Nat.reduceSub,Nat.reduceMul,Nat.reduceLT,Nat.reduceLeDiff,↓reduceIte,reduceCtorEq,Z3,Q6,SOp.rd,SI.rd,SX.rd,rdL,rdO,rdP,Q5,Q4,Q1,Q8,Q7,Z0,implies_true,forall_const,forall_eq,ne_eq,exists_eq_right_right,exists_eq_right,exists_eq_left,exists_eq_left',Q9,Z5,Z7,J6,Z8,c7,J9]
  repeat' (first | ((with_reducible refine brC (fun _=>?_) fun _=>?_) <;> try (exfalso;omega)) | (with_reducible apply pcallE.of; · exact hC) | (with_reducible refine And.intro ?_ ?_; · omega) | simp -dsimp -implicitDefEqProofs (disch:=omega) only [↓Q0 15,↓Q2 15,VCA,Z1,↓Q3,Nat.reduceEqDiff,Nat.reduceBEq,Nat.reduceAdd,Nat.reduceSub,Nat.reduceMul,Nat.reduceLT,Nat.reduceLeDiff,↓reduceIte,reduceCtorEq,Z3,Q6,SOp.rd,SI.rd,SX.rd,rdL,rdO,rdP,Q5,Q4,Q1,Q8,Q7,Z0,implies_true,forall_const,forall_eq,ne_eq,exists_eq_right_right,exists_eq_right,exists_eq_left,exists_eq_left',Q9,Z5,Z7,J6,Z8,J9,hd'])
  all_goals first | exact Sub.refl _ | trace_state
end Go.Proofs.K
end
