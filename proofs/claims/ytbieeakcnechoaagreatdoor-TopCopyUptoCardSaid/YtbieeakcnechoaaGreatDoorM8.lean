/- Texts of this claim, one behind the other. -/
import Derived.Test.YtbieeakcnechoaaGreatDoorM7
import Derived.Test.YtbieeakcnechoaaGreatDoorM5
import Derived.Test.YtbieeakcnechoaaGreatDoorM4
import Derived.Test.YtbieeakcnechoaaGreatDoorM3
import Derived.Test.YtbieeakcnechoaaGreatDoorM6
set_option maxHeartbeats 4000000
set_option maxRecDepth 100000
section
set_option linter.unusedSimpArgs false
set_option linter.unusedVariables false
namespace Go.Proofs.K
open Go Go.Sim Go.Proofs
variable {G:U5}
theorem YJ (l:List AVal):deVp (.tup l)=.tup l:=rfl
def c170:SFun:=⟨.seq (.reg [o 2 (.mv (.c (.bool false)))]) (.seq (.reg [o 3 (.mv (.t 0)),o 4 (.bin .gtr (.t 3) (.c (.int .i64 8))),o 2 (.mv (.t 4))]) .ret),[.tmp 2]⟩
theorem hc170:Y6 Tryz.prog {} Tryz.f170=some c170:=by kernel_rfl
theorem useSet_ok (n:Nat):PCalls (Pg G) 170 [Y0 n] (.bool (decide (8<n))):=fun h=>by
 refine Z4 Tryz.func170 (by kernel_rfl) hc170 (by rw [Tryz.ntmps170];simp) (by rw [Tryz.ntmps170];decide) ?_
 simp -dsimp -implicitDefEqProofs (disch:=omega) only [VCA,Z1,↓Q3,Nat.reduceEqDiff,Nat.reduceBEq,Nat.reduceAdd,Nat.reduceSub,Nat.reduceMul,Nat.reduceLT,Nat.reduceLeDiff,↓reduceIte,reduceCtorEq,Z3,Q6,SOp.rd,SI.rd,SX.rd,rdL,rdO,rdP,Q5,Q4,Q1,Q8,Q7,Z0,implies_true,forall_const,forall_eq,ne_eq,exists_eq_right_right,exists_eq_right,exists_eq_left,exists_eq_left',Q9,Z8,YJ,c170]
 repeat' (first | ((with_reducible refine brC (fun _=>?_) fun _=>?_) <;> try (exfalso;omega)) | (with_reducible refine And.intro ?_ ?_; · omega) | simp -dsimp -implicitDefEqProofs (disch:=omega) only [VCA,Z1,↓Q3,Nat.reduceEqDiff,Nat.reduceBEq,Nat.reduceAdd,Nat.reduceSub,Nat.reduceMul,Nat.reduceLT,Nat.reduceLeDiff,↓reduceIte,reduceCtorEq,Z3,Q6,SOp.rd,SI.rd,SX.rd,rdL,rdO,rdP,Q5,Q4,Q1,Q8,Q7,Z0,implies_true,forall_const,forall_eq,ne_eq,exists_eq_right_right,exists_eq_right,exists_eq_left,exists_eq_left',Q9,Z8,YJ])
 all_goals first | exact ⟨Sub.refl _,by simp;omega⟩ | exact Sub.refl _ | trace_state
def blS:List UInt8:=[32,9,10,12,13]
theorem blS_is (b:UInt8):blS.contains b=UW b.toNat:=of_decide_eq_true (u8_all (p:=fun b=>decide (blS.contains b=UW b.toNat)) (by decide +kernel) b)
def stopB (s:List UInt8):Nat:=YV (fun i=>UW (bt s i)) s.length 0
def ixBl (s:List UInt8):Int:=if stopB s<s.length then stopB s else -1
theorem blankI_ge {b:Int} (h:128<=b):UW b=false:=by
 unfold UW
 simp only [Bool.or_eq_false_iff,beq_eq_false_iff_ne]
 omega
def c114:SFun:=⟨.seq (.reg [o 4 (.mv (.c (.int .i64 0)))]) (.seq (.seq (.reg [o 11 (.mv (.t 1)),o 12 (.bin .eql (.t 11) (.c (.str [])))]) (.cond (.t 12) (.seq (.reg [o 4 (.mv (.c (.int .i64 (-1))))]) .ret) .skip)) (.seq (.seq (.reg [o 13 (.mv (.t 1)),o 14 (.lenS (.t 13)),o 15 (.bin .eql (.t 14) (.c (.int .i64 1)))]) (.cond (.t 15) (.seq (.reg [o 16 (.mv (.t 1)),o 17 (.idxS (.t 16) (.c (.int .i64 0))),o 18 (.cvi .i32 (.t 17)),o 5 (.mv (.t 18))]) (.seq (.seq (.reg [o 19 (.mv (.t 5)),o 20 (.bin .geq (.t 19) (.c (.int .i32 128)))]) (.cond (.t 20) (.reg [o 5 (.mv (.c (.int .i32 65533)))]) .skip)) (.seq (.reg [o 21 (.mv (.t 0)),o 22 (.mv (.t 5)),o 23 (.pcall 165 [.t 21,.t 22]),o 4 (.mv (.t 23))]) .ret))) .skip)) (.seq (.seq (.reg [o 24 (.mv (.t 0)),o 25 (.lenS (.t 24)),o 26 (.pcall 170 [.t 25])]) (.cond (.t 26) (.seq (.reg [o 28 (.mv (.t 1)),o 29 (.call (.c (.fn 71 [] [])) [.t 28]),o 27 (.mv (.t 29)),o 30 (.ext (.t 27) 0),o 31 (.ext (.t 27) 1),o 6 (.new 122 256 [.bool false,.bool false,.bool false,.bool false,.bool false,.bool false,.bool false,.bool false,.bool false,.bool false,.bool false,.bool false,.bool false,.bool false,.bool false,.bool false,.bool false,.bool false,.bool false,.bool false,.bool false,.bool false,.bool false,.bool false,.bool false,.bool false,.bool false,.bool false,.bool false,.bool false,.bool false,.bool false,.bool false,.bool false,.bool false,.bool false,.bool false,.bool false,.bool false,.bool false,.bool false,.bool false,.bool false,.bool false,.bool false,.bool false,.bool false,.bool false,.bool false,.bool false,.bool false,.bool false,.bool false,.bool false,.bool false,.bool false,.bool false,.bool false,.bool false,.bool false,.bool false,.bool false,.bool false,.bool false,.bool false,.bool false,.bool false,.bool false,.bool false,.bool false,.bool false,.bool false,.bool false,.bool false,.bool false,.bool false,.bool false,.bool false,.bool false,.bool false,.bool false,.bool false,.bool false,.bool false,.bool false,.bool false,.bool false,.bool false,.bool false,.bool false,.bool false,.bool false,.bool false,.bool false,.bool false,.bool false,.bool false,.bool false,.bool false,.bool false,.bool false,.bool false,.bool false,.bool false,.bool false,.bool false,.bool false,.bool false,.bool false,.bool false,.bool false,.bool false,.bool false,.bool false,.bool false,.bool false,.bool false,.bool false,.bool false,.bool false,.bool false,.bool false,.bool false,.bool false,.bool false,.bool false,.bool false,.bool false,.bool false,.bool false,.bool false,.bool false,.bool false,.bool false,.bool false,.bool false,.bool false,.bool false,.bool false,.bool false,.bool false,.bool false,.bool false,.bool false,.bool false,.bool false,.bool false,.bool false,.bool false,.bool false,.bool false,.bool false,.bool false,.bool false,.bool false,.bool false,.bool false,.bool false,.bool false,.bool false,.bool false,.bool false,.bool false,.bool false,.bool false,.bool false,.bool false,.bool false,.bool false,.bool false,.bool false,.bool false,.bool false,.bool false,.bool false,.bool false,.bool false,.bool false,.bool false,.bool false,.bool false,.bool false,.bool false,.bool false,.bool false,.bool false,.bool false,.bool false,.bool false,.bool false,.bool false,.bool false,.bool false,.bool false,.bool false,.bool false,.bool false,.bool false,.bool false,.bool false,.bool false,.bool false,.bool false,.bool false,.bool false,.bool false,.bool false,.bool false,.bool false,.bool false,.bool false,.bool false,.bool false,.bool false,.bool false,.bool false,.bool false,.bool false,.bool false,.bool false,.bool false,.bool false,.bool false,.bool false,.bool false,.bool false,.bool false,.bool false,.bool false,.bool false,.bool false,.bool false,.bool false,.bool false,.bool false,.bool false,.bool false,.bool false,.bool false,.bool false,.bool false,.bool false,.bool false,.bool false,.bool false,.bool false,.bool false,.bool false,.bool false,.bool false,.bool false,.bool false,.bool false,.bool false,.bool false,.bool false]),⟨none,.st 256 (.t 6) (.t 30),none⟩,o 7 (.mv (.t 31))]) (.seq (.reg [o 32 (.mv (.t 7))]) (.cond (.t 32) (.seq (.seq (.reg [o 8 (.mv (.c (.int .i64 0)))]) (.block 0 (.loop (.seq (.seq (.reg [o 33 (.mv (.t 8)),o 34 (.mv (.t 0)),o 35 (.lenS (.t 34)),o 36 (.bin .lss (.t 33) (.t 35))]) (.cond (.t 36) .skip (.exit 0))) (.seq (.block 1 (.seq (.reg [o 39 (.mv (.t 0)),o 40 (.mv (.t 8)),o 41 (.idxS (.t 39) (.t 40)),o 42 (.call (.c (.fn 108 [] [])) [.t 6,.t 41])]) (.cond (.t 42) (.seq (.reg [o 43 (.mv (.t 8)),o 4 (.mv (.t 43))]) .ret) .skip))) (.reg [o 37 (.mv (.t 8)),o 38 (.bin .add (.t 37) (.c (.int .i64 1))),o 8 (.mv (.t 38))])))))) (.seq (.reg [o 4 (.mv (.c (.int .i64 (-1))))]) .ret)) .skip))) .skip)) (.seq (.seq (.reg [o 44 (.mv (.t 0)),o 45 (.rng (.t 44))]) (.block 2 (.loop (.seq (.reg [o 46 (.nxt (.t 45)),o 47 (.ext (.t 46) 0)]) (.seq (.cond (.t 47) .skip (.exit 2)) (.block 3 (.seq (.reg [o 48 (.ext (.t 46) 1),o 49 (.ext (.t 46) 2),o 9 (.mv (.t 48)),o 10 (.mv (.t 49))]) (.seq (.reg [o 50 (.mv (.t 1)),o 51 (.mv (.t 10)),o 52 (.pcall 165 [.t 50,.t 51]),o 53 (.bin .geq (.t 52) (.c (.int .i64 0)))]) (.cond (.t 53) (.seq (.reg [o 54 (.mv (.t 9)),o 4 (.mv (.t 54))]) .ret) .skip))))))))) (.seq (.reg [o 4 (.mv (.c (.int .i64 (-1))))]) .ret))))),[.tmp 4]⟩
theorem hc114:Y6 Tryz.prog {pure:=[165,170],mp:=[45]} Tryz.f114=some c114:=by kernel_rfl
theorem indexBl_short (s:List UInt8) (h8:s.length<=8):PCalls (Pg G) 114 [.str s,.str blS] (Y0 (ixBl s)):=fun h=>by
 have cU:=useSet_ok (G:=G) s.length
 rw [decide_eq_false (by omega)] at cU
 have h5:blS.length=5:=rfl
 have hne:(blS==[])=false:=rfl
 have hall:∀ b∈blS,b.toNat<128:=by decide
 obtain ⟨B,hB⟩:∃ B,blS=B:=⟨_,rfl⟩
 rw [hB] at h5 hne hall ⊢
 refine Z4 Tryz.func114 (by kernel_rfl) hc114 (by rw [Tryz.ntmps114];simp) (by rw [Tryz.ntmps114];decide) ?_
 simp -dsimp -implicitDefEqProofs (disch:=omega) only [VCA,Z1,↓Q3,Nat.reduceEqDiff,Nat.reduceBEq,Nat.reduceAdd,Nat.reduceSub,Nat.reduceMul,Nat.reduceLT,Nat.reduceLeDiff,↓reduceIte,reduceCtorEq,Z3,Q6,SOp.rd,SI.rd,SX.rd,rdL,rdO,rdP,Q5,Q4,Q1,Q8,Q7,Z0,implies_true,forall_const,forall_eq,ne_eq,exists_eq_right_right,exists_eq_right,exists_eq_left,exists_eq_left',Q9,Z8,YJ,c114]
 repeat' (first | ((with_reducible refine brC (fun _=>?_) fun _=>?_) <;> try (exfalso;omega)) | (with_reducible apply pcallE.of; · exact cU) | (with_reducible refine And.intro ?_ ?_; · omega) | simp -dsimp -implicitDefEqProofs (disch:=omega) only [VCA,Z1,↓Q3,Nat.reduceEqDiff,Nat.reduceBEq,Nat.reduceAdd,Nat.reduceSub,Nat.reduceMul,Nat.reduceLT,Nat.reduceLeDiff,↓reduceIte,reduceCtorEq,Z3,Q6,SOp.rd,SI.rd,SX.rd,rdL,rdO,rdP,Q5,Q4,Q1,Q8,Q7,Z0,implies_true,forall_const,forall_eq,ne_eq,exists_eq_right_right,exists_eq_right,exists_eq_left,exists_eq_left',Q9,Z8,YJ,h5,hne])
 ·rename_i q;rw [q] at h5;cases h5
 intro r hr
 have g:=fstI (q:=fun i=>UW (bt s i)) (n:=s.length) (a:=0) (Nat.zero_le _)
 refine LoopVC.intro (fun m e h'=>∃ p:Nat,p<=s.length/\m=s.length-p/\e 1=.str B/\e 45=.ptr r 0 0/\h'=upd h r (some (itO s p)) /\ ∀ i,i<p->UW (bt s i)=false) s.length
  (by exact ⟨0,by omega,by omega,rfl,rfl,rfl,fun i hi=>by omega⟩) ?_
 rintro m e h' ⟨p,hp,rfl,e1,e45,rfl,hno⟩
 have hit:upd h r (some (itO s p)) r=some (itO s p):=Z9 _ _ _
 repeat' (first | ((with_reducible refine brC (fun _=>?_) fun _=>?_) <;> try (exfalso;omega)) | (with_reducible refine And.intro ?_ ?_; · omega) | simp -dsimp -implicitDefEqProofs (disch:=omega) only [VCA,Z1,↓Q3,Nat.reduceEqDiff,Nat.reduceBEq,Nat.reduceAdd,Nat.reduceSub,Nat.reduceMul,Nat.reduceLT,Nat.reduceLeDiff,↓reduceIte,reduceCtorEq,Z3,Q6,SOp.rd,SI.rd,SX.rd,rdL,rdO,rdP,Q5,Q4,Q1,Q8,Q7,Z0,implies_true,forall_const,forall_eq,ne_eq,exists_eq_right_right,exists_eq_right,exists_eq_left,exists_eq_left',Q9,Z8,YJ,e45,hit])
 refine ⟨_,_,rfl,fun hlt=>?_,fun hge=>?_⟩
 ·have hq:=runeAt_is s p hlt
  have hcn:=runeAt_cont s p
  obtain ⟨q,hqq⟩:∃ q,T8 s p=q:=⟨_,rfl⟩
  rw [hqq] at hq hcn
  have hq31:q.1<2147483648:=by
   have:(Utf8.decode ⟨s.toArray⟩ p).1<2147483648:=by
    unfold Utf8.decode
    simp only [Utf8.runeError]
    (repeat' split) <;> (simp only) <;> omega
   have e:Utf8.decode ⟨s.toArray⟩ p=q:=hqq
   rwa [e] at this
  have cI:=indexRune_ok (G:=G) B q.1 hq31 (by omega) hall
  have h0:0<=bt s p:=by unfold bt;omega
  have hbl:ixR B q.1=ixR B q.1:=rfl
  have hit2:(UW (bt s p)=true->0<=ixR B q.1)/\(UW (bt s p)=false->ixR B q.1<0):=by
   unfold ixR
   by_cases hl:bt s p<128
   ·have e1:q.1=(bt s p).toNat:=by rw [hq.1 hl]
    rw [if_pos (by omega)]
    have e2:bt s p=((UInt8.ofNat q.1).toNat:Int):=by
     have:(UInt8.ofNat q.1).toNat=q.1:=by simp;omega
     rw [this];omega
    rw [e2,<-blS_is,hB]
    refine ⟨fun hc=>idxB_some (by simpa using hc),fun hc=>?_⟩
    rw [idxB_none (by simpa using hc)];omega
   ·have:128<=q.1:=by
     rcases hq.2.1 (by omega) with h3 | h3
     ·rw [h3];decide
     ·exact h3.2
    rw [if_neg (by omega),blankI_ge (by omega)]
    exact ⟨fun hc=>absurd hc (by simp),fun _=>by decide⟩
  cases hb:UW (bt s p) with
  | true=>
    have h3:decide (0<=ixR B q.1)=true:=decide_eq_true (hit2.1 hb)
    have hs:ixBl s=p:=by
     have:stopB s=p:=FirstIs.eq ⟨Nat.zero_le _,hp,fun _=>hb,fun j _ hj=>hno j hj⟩
     unfold ixBl;rw [this,if_pos hlt]
    rw [hs]
    repeat' (first | ((with_reducible refine brC (fun _=>?_) fun _=>?_) <;> try (exfalso;omega)) | (with_reducible apply pcallE.of; · exact cI) | (with_reducible refine And.intro ?_ ?_; · omega) | simp -dsimp -implicitDefEqProofs (disch:=omega) only [VCA,Z1,↓Q3,Nat.reduceEqDiff,Nat.reduceBEq,Nat.reduceAdd,Nat.reduceSub,Nat.reduceMul,Nat.reduceLT,Nat.reduceLeDiff,↓reduceIte,reduceCtorEq,Z3,Q6,SOp.rd,SI.rd,SX.rd,rdL,rdO,rdP,Q5,Q4,Q1,Q8,Q7,Z0,implies_true,forall_const,forall_eq,ne_eq,exists_eq_right_right,exists_eq_right,exists_eq_left,exists_eq_left',Q9,Z8,YJ,e1,e45,hqq,h3])
    all_goals first | exact (Sub.refl _).upd hr | exact ⟨(Sub.refl _).upd hr,rfl⟩ | trace_state
  | false=>
    have h3:decide (0<=ixR B q.1)=false:=decide_eq_false (by have:=hit2.2 hb;omega)
    repeat' (first | ((with_reducible refine brC (fun _=>?_) fun _=>?_) <;> try (exfalso;omega)) | (with_reducible apply pcallE.of; · exact cI) | (with_reducible refine And.intro ?_ ?_; · omega) | simp -dsimp -implicitDefEqProofs (disch:=omega) only [VCA,Z1,↓Q3,Nat.reduceEqDiff,Nat.reduceBEq,Nat.reduceAdd,Nat.reduceSub,Nat.reduceMul,Nat.reduceLT,Nat.reduceLeDiff,↓reduceIte,reduceCtorEq,Z3,Q6,SOp.rd,SI.rd,SX.rd,rdL,rdO,rdP,Q5,Q4,Q1,Q8,Q7,Z0,implies_true,forall_const,forall_eq,ne_eq,exists_eq_right_right,exists_eq_right,exists_eq_left,exists_eq_left',Q9,Z8,YJ,e1,e45,hqq,h3])
    refine ⟨_,by omega,p+q.2,by omega,rfl,rfl,fun i hi=>?_⟩
    by_cases h4:i<p
    ·exact hno i h4
    ·by_cases h5:i=p
     ·rw [h5];exact hb
     ·exact blankI_ge (hcn i (by omega) hi)
 ·have hs:ixBl s = -1:=by
   have:stopB s=s.length:=FirstIs.eq ⟨Nat.zero_le _,Nat.le_refl _,fun h=>absurd h (Nat.lt_irrefl _),fun j _ hj=>hno j (by omega)⟩
   unfold ixBl;rw [this,if_neg (Nat.lt_irrefl _)]
  rw [hs]
  repeat' (first | ((with_reducible refine brC (fun _=>?_) fun _=>?_) <;> try (exfalso;omega)) | (with_reducible refine And.intro ?_ ?_; · omega) | simp -dsimp -implicitDefEqProofs (disch:=omega) only [VCA,Z1,↓Q3,Nat.reduceEqDiff,Nat.reduceBEq,Nat.reduceAdd,Nat.reduceSub,Nat.reduceMul,Nat.reduceLT,Nat.reduceLeDiff,↓reduceIte,reduceCtorEq,Z3,Q6,SOp.rd,SI.rd,SX.rd,rdL,rdO,rdP,Q5,Q4,Q1,Q8,Q7,Z0,implies_true,forall_const,forall_eq,ne_eq,exists_eq_right_right,exists_eq_right,exists_eq_left,exists_eq_left',Q9,Z8,YJ,e1,e45])
  all_goals first | exact (Sub.refl _).upd hr | exact ⟨(Sub.refl _).upd hr,rfl⟩ | trace_state
theorem cut_ok (hG:KJ G) (s t:List UInt8) (hs:s.length<4294967281):PCalls (Pg G) 169 [.str s,.str t] (.tup [.str (Lib.cut s t).1,.str (Lib.cut s t).2.1,.bool (Lib.cut s t).2.2]):=by
 obtain ⟨m,hG⟩:=hG
 refine ofBelow ⟨_,Tryz.func169,by kernel_rfl,by kernel_rfl⟩ fun g w vs GR V=>?_
 obtain ⟨u,v,rfl,hu,hv⟩:=V.two_inv
 rw [hu.str_inv',hv.str_inv']
 refine (Tryz.strings_Cut ⟨⟨s⟩⟩ ⟨⟨t⟩⟩ m w hs (GR.int hG)).mono fun e w' ⟨he,n,hw⟩=>⟨_,he,?_,fun g w=>?_⟩
 ·rw [hw];exact ⟨rfl,rfl,rfl,Nat.le_refl _,fun _ _=>rfl⟩
 ·refine .tup _ _ rfl fun j u a hu ha=>?_
  match j with
  | 0=>simp at hu ha;subst hu ha;exact VRel.str_mk g w _
  | 1=>simp at hu ha;subst hu ha;exact VRel.str_mk g w _
  | 2=>simp at hu ha;subst hu ha;exact .bool _
  | j+3=>simp at hu
noncomputable section
def p2s (k:List UInt8->List UInt8->ER):List AVal->CH->ER:=fun a c=>match a with
 | [.str s,.str t]=>match k s t with
   | some (v,_)=>some (v,c)
   | none=>none
 | _=>none
abbrev yes (b:Bool) (v:AVal):ER:=if b=true then some (v,⟨0,[],[],0⟩) else none
theorem p2s_ok {f:Nat} {k:List UInt8->List UInt8->ER} (hk:∀ s t v c,k s t=some (v,c)->nf v=true/\PCalls (Pg G) f [.str s,.str t] v):PrOK (Pg G) f (p2s k):=PrOK.pc fun args c v c' hv=>by
 unfold p2s at hv
 split at hv
 ·split at hv
  ·rename_i u c1 h1
   cases hv
   obtain ⟨q1,q2⟩:=hk _ _ _ _ h1
   exact ⟨rfl,q1,rfl,q2⟩
  ·cases hv
 ·cases hv
theorem yes_out {b:Bool} {v w:AVal} {c:CH} (h:yes b v=some (w,c)):b=true/\w=v:=by
 unfold yes at h
 split at h
 ·cases h;exact ⟨by assumption,rfl⟩
 ·cases h
def prCon:=p2s fun s t=>yes (Nat.ble s.length 4000) (.bool (Lib.contains s t))
theorem prCon_ok (hG:KJ G):PrOK (Pg G) 67 prCon:=p2s_ok fun s t v c h=>by
 obtain ⟨h1,rfl⟩:=yes_out h
 exact ⟨rfl,contains_ok hG s t (by have:=Nat.le_of_ble_eq_true h1;omega)⟩
def prCut:=p2s fun s t=>yes (Nat.ble s.length 4000) (.tup [.str (Lib.cut s t).1,.str (Lib.cut s t).2.1,.bool (Lib.cut s t).2.2])
theorem prCut_ok (hG:KJ G):PrOK (Pg G) 169 prCut:=p2s_ok fun s t v c h=>by
 obtain ⟨h1,rfl⟩:=yes_out h
 exact ⟨rfl,cut_ok hG s t (by have:=Nat.le_of_ble_eq_true h1;omega)⟩
def prTrim:=p2s fun s t=>yes (Nat.ble s.length 4000&&Nat.ble t.length 1000&&t.all (fun b=>decide (b.toNat<128))) (.str (Lib.trimS s t))
theorem prTrim_ok:PrOK (Pg G) 51 prTrim:=p2s_ok fun s t v c h=>by
 obtain ⟨h1,rfl⟩:=yes_out h
 simp only [Bool.and_eq_true] at h1
 exact ⟨rfl,trim_ok s t (by have:=Nat.le_of_ble_eq_true h1.1.1;omega) (Nat.le_of_ble_eq_true h1.1.2) h1.2⟩
theorem trimLeftS_ok (s cs:List UInt8) (hc:cs.length<1000) (ha:cs.all (fun b=>decide (b.toNat<128))=true):PCalls (Pg G) 85 [.str s,.str cs] (.str (Lib.trimLeftS s cs)):=by
 refine ofBelow ⟨_,Tryz.func85,by kernel_rfl,by kernel_rfl⟩ fun g w vs GR V=>?_
 obtain ⟨u,v,rfl,hu,hv⟩:=V.two_inv
 rw [hu.str_inv',hv.str_inv']
 exact (Any.strings_TrimLeft_laid Tryz.lays161 (by kernel_rfl) ⟨⟨s⟩⟩ ⟨⟨cs⟩⟩ w (by show cs.length<_;omega) (ascii_of_all ha)).mono fun e w' ⟨he,hw⟩=>⟨_,he,hw,fun g w=>VRel.str_mk g w _⟩
def prTrL:=p2s fun s t=>yes (Nat.ble t.length 900&&t.all (fun b=>decide (b.toNat<128))) (.str (Lib.trimLeftS s t))
theorem prTrL_ok:PrOK (Pg G) 85 prTrL:=p2s_ok fun s t v c h=>by
 obtain ⟨h1,rfl⟩:=yes_out h
 simp only [Bool.and_eq_true] at h1
 exact ⟨rfl,trimLeftS_ok s t (by have:=Nat.le_of_ble_eq_true h1.1;omega) h1.2⟩
def prAny:=p2s fun s t=>yes (Nat.ble s.length 8&&t==blS) (Y0 (ixBl s))
theorem prAny_ok:PrOK (Pg G) 114 prAny:=p2s_ok fun s t v c h=>by
 obtain ⟨h1,rfl⟩:=yes_out h
 simp only [Bool.and_eq_true,beq_iff_eq] at h1
 obtain ⟨h1,rfl⟩:=h1
 exact ⟨rfl,indexBl_short s (Nat.le_of_ble_eq_true h1)⟩
def prByte:List AVal->CH->ER:=fun a c=>match a with
 | [.str s,.int .u8 (.ofNat n)]=>if Nat.blt n 256=true then some (Y0 (Lib.indexByte s (UInt8.ofNat n)),c) else none
 | _=>none
theorem prByte_ok:PrOK (Pg G) 50 prByte:=PrOK.pc fun args c v c' hv=>by
 unfold prByte at hv
 split at hv
 ·rename_i s n
  split at hv
  ·rename_i hn
   cases hv
   have hn:n<256:=by simpa using hn
   refine ⟨rfl,rfl,rfl,?_⟩
   have e:(UInt8.ofNat n).toNat=n:=by rw [UInt8.toNat_ofNat'];exact Nat.mod_eq_of_lt (by omega)
   have:=XT (G:=G) s (UInt8.ofNat n)
   rw [e] at this
   exact this
  ·cases hv
 ·cases hv
def isBP (i:Nat):AVal->Bool
 | .prim (.pointer none)=>true
 | .vp j 0=>Nat.beq j i
 | _=>false
def prCopy:List AVal->CH->ER:=fun a c=>match a with
 | [.vp i 0]=>match c.get i with
   | some ⟨.t ty,4,[[p,b,x,y]]⟩=>if (Nat.beq ty Tw&&isBP i p)=true then some (.tup [],c.put i ⟨.t Tw,4,[[.vp i 0,b,x,y]]⟩) else none
   | some ⟨.t ty,2,[[p,b]]⟩=>if (Nat.beq ty Tb&&isBP i p)=true then some (.tup [],c.put i ⟨.t Tb,2,[[.vp i 0,b]]⟩) else none
   | _=>none
 | _=>none
theorem isBP_out {nm:List Nat} {i r:Nat} {p p':AVal} (hr:nm[i]? = some r) (hp:isBP i p=true) (P:RV nm p p'):BP r p':=by
 unfold isBP at hp
 split at hp
 ·exact .inl P.prim_eq
 ·rename_i j
  have:=Nat.eq_of_beq_eq_true hp
  subst this
  obtain ⟨r2,rfl,hr2⟩:=P.vp_inv
  rw [hr] at hr2;cases hr2
  exact .inr rfl
 ·cases hp
theorem one_row {nm:List Nat} {c:CH} {hb hl h:Z2} {i r ty sz:Nat} {cs:List AVal} (H:HR nm c hb hl h) (ho:c.get i=some ⟨.t ty,sz,[cs]⟩) (hr:nm[i]? = some r):∃ ds,h r=some ⟨.t ty,sz,[ds]⟩/\RL nm cs ds:=by
 obtain ⟨s,o',q1,q2,⟨q3,q4,q5⟩,q6⟩:=H.obj i _ ho
 rw [hr] at q1;cases q1
 obtain ⟨ty',sz',es'⟩:=o'
 obtain ⟨row,hrow⟩:=List.length_eq_one_iff.1 q5.1.symm
 simp only at q3 q4 q5 hrow
 subst q3 q4 hrow
 exact ⟨row,q2,q5.2 0 _ row rfl rfl⟩
theorem prCopy_ok:PrOK (Pg G) 33 prCopy:=fun args c v c' hv nm args' hb hl h V H=>by
 unfold prCopy at hv
 split at hv
 case h_2=>cases hv
 rename_i i
 obtain ⟨u,rfl⟩:=List.length_eq_one_iff.1 V.1.symm
 obtain ⟨r,rfl,hr⟩:=(V.2 0 _ u rfl rfl).vp_inv
 split at hv
 ·rename_i ty p b x y ho
  split at hv
  case isFalse=>cases hv
  rename_i hk
  simp only [Bool.and_eq_true] at hk
  have ht:=Nat.eq_of_beq_eq_true hk.1
  subst ht
  cases hv
  obtain ⟨row,ho',R⟩:=one_row H ho hr
  obtain ⟨p',b',x',y',rfl⟩:∃ p' b' x' y',row=[p',b',x',y']:=by
   have:=R.1
   match row,this with
   | [p',b',x',y'],_=>exact ⟨p',b',x',y',rfl⟩
  refine copyCheckE_ok r h p' b' x' y' (isBP_out hr hk.2 (R.2 0 p p' rfl rfl)) ho' ⟨nm,Ext.refl nm,.tup' PW.nil,H.put ho hr ⟨rfl,rfl,RM.one ?_⟩⟩
  exact PW.cons (.vp _ _ _ hr) (R.drop 1)
 ·rename_i ty p b ho
  split at hv
  case isFalse=>cases hv
  rename_i hk
  simp only [Bool.and_eq_true] at hk
  have ht:=Nat.eq_of_beq_eq_true hk.1
  subst ht
  cases hv
  obtain ⟨row,ho',R⟩:=one_row H ho hr
  obtain ⟨p',b',rfl⟩:∃ p' b',row=[p',b']:=by
   have:=R.1
   match row,this with
   | [p',b'],_=>exact ⟨p',b',rfl⟩
  refine copyCheck_ok r h p' b' (isBP_out hr hk.2 (R.2 0 p p' rfl rfl)) ho' ⟨nm,Ext.refl nm,.tup' PW.nil,H.put ho hr ⟨rfl,rfl,RM.one ?_⟩⟩
  exact PW.cons (.vp _ _ _ hr) (R.drop 1)
 ·cases hv
end
noncomputable section
def intsC:List (List AVal)->Option (List Int)
 | []=>some []
 | [.int .i64 n] :: r=>match intsC r with
   | some l=>some (n :: l)
   | none=>none
 | _=>none
theorem intsC_out:∀ {es:List (List AVal)} {l:List Int},intsC es=some l->es=l.map Z7
 | [],l,h=>by simp only [intsC] at h;cases h;rfl
 | e :: r,l,h=>by
   unfold intsC at h
   split at h
   ·rename_i hq;cases hq
   ·rename_i n r' hq
    cases hq
    split at h
    ·rename_i l' hl
     cases h
     rw [intsC_out hl];rfl
    ·cases h
   ·cases h
theorem ints_rm {nm:List Nat} (l:List Int):RM nm (l.map Z7) (l.map Z7):=⟨rfl,fun i e f he hf=>by
 rw [he] at hf;cases hf
 rw [List.getElem?_map,Option.map_eq_some_iff] at he
 obtain ⟨x,_,rfl⟩:=he
 exact PW.cons (.int _ _) PW.nil⟩
theorem ints_eq {nm:List Nat} {l:List Int} {fs:List (List AVal)} (h:RM nm (l.map Z7) fs):fs=l.map Z7:=by
 refine List.ext_getElem h.1.symm fun i h1 h2=>?_
 have q:=h.2 i (l.map Z7)[i] fs[i] (List.getElem?_eq_getElem h2) (List.getElem?_eq_getElem h1)
 rw [List.getElem_map] at q ⊢
 exact RL.nf_eq q rfl
def prIns:List AVal->CH->ER:=fun a c=>match a with
 | [x,.int .i64 (.ofNat i),.osl rv 1 0 1]=>match c.get rv with
   | some ⟨.t ty,1,[[.int .i64 n]]⟩=>if Nat.beq ty 3=true then (match x with
     | .emp=>if Nat.beq i 0=true then some (.osl c.nx 1 0 1,c.add ⟨.t 3,1,[n].map Z7⟩) else none
     | .osl r 1 0 m=>match c.get r with
       | some ⟨.t ty2,1,es⟩=>match intsC (es.take m) with
         | some l=>if (Nat.beq ty2 3&&Nat.ble m es.length&&Nat.ble i m&&Nat.ble m 100000 && !Nat.beq r rv)=true then some (.osl c.nx 1 0 (m+1),(c.del r).add ⟨.t 3,1,(l.take i++n :: l.drop i).map Z7⟩) else none
         | none=>none
       | _=>none
     | _=>none) else none
   | _=>none
 | _=>none
theorem prIns_ok:PrOK (Pg G) 177 prIns:=fun args c v c' hv nm args' hb hl h V H=>by
 unfold prIns at hv
 split at hv
 case h_2=>cases hv
 rename_i x i rv
 split at hv
 case h_2=>cases hv
 rename_i ty n hrvc
 split at hv
 case isFalse=>cases hv
 rename_i hty
 have:=Nat.eq_of_beq_eq_true hty
 subst this
 obtain ⟨x',k',y',rfl⟩:∃ x' k' y',args'=[x',k',y']:=by
  have:=V.1
  match args',this with
  | [p,q,s],_=>exact ⟨p,q,s,rfl⟩
 have Vx:=V.2 0 x x' rfl rfl
 rw [(V.2 1 _ k' rfl rfl).int_eq]
 obtain ⟨rv',rfl,hrv⟩:=(V.2 2 _ y' rfl rfl).osl_inv
 have one:∀ {rr r':Nat} {o:AObj} {ty sz:Nat} {es:List (List AVal)},c.get rr=some ⟨.t ty,sz,es⟩->nm[rr]? = some r' -> ∃ es',h r'=some ⟨.t ty,sz,es'⟩/\RM nm es es':=fun {rr r' o ty sz es} h1 h2=>by
  obtain ⟨s,o',q1,q2,⟨q3,q4,q5⟩,q6⟩:=H.obj rr _ h1
  rw [h2] at q1;cases q1
  obtain ⟨t',z',e'⟩:=o'
  simp only at q3 q4 q5
  subst q3 q4
  exact ⟨e',q2,q5⟩
 obtain ⟨ev',hv1,hv2⟩:=one (o:=⟨.t 0,0,[]⟩) hrvc hrv
 have:=ints_eq (l:=[n]) hv2
 subst this
 split at hv
 ·split at hv
  case isFalse=>cases hv
  rename_i hi
  have:=Nat.eq_of_beq_eq_true hi
  subst this
  cases hv
  rw [Vx.emp_eq]
  refine (insertI_ok (l:=[]) (x:=n) (i:=0) (rv:=rv') (.inl ⟨rfl,rfl⟩) (fun es e=>by cases e) (Nat.le_refl _) (by decide) hv1 (fun e=>by cases e)).mono ?_
  rintro r' h' ⟨q,rfl,h1,h2,h3⟩
  have h2:h q=none:=by rcases h2 with h2 | h2; · cases h2
                       ·exact h2
  exact ⟨nm++[q],Ext.add nm q,.osl _ _ _ _ _ (by rw [<-H.len];simp),H.made h1 h2 (fun t o ht=>h3 t o ht (fun e=>by cases e)) ⟨rfl,rfl,ints_rm _⟩⟩
 ·rename_i r m
  split at hv
  case h_2=>cases hv
  rename_i ty2 es hr
  split at hv
  case h_2=>cases hv
  rename_i l hl2
  split at hv
  case isFalse=>cases hv
  rename_i hk
  simp only [Bool.and_eq_true,Bool.not_eq_true'] at hk
  obtain ⟨⟨⟨⟨k1,k2⟩,k3⟩,k4⟩,k5⟩:=hk
  have:=Nat.eq_of_beq_eq_true k1
  subst this
  have k2:=Nat.le_of_ble_eq_true k2
  have k3:=Nat.le_of_ble_eq_true k3
  have k4:=Nat.le_of_ble_eq_true k4
  cases hv
  obtain ⟨r',rfl,hr'⟩:=Vx.osl_inv
  obtain ⟨es',g1,g2⟩:=one (o:=⟨.t 0,0,[]⟩) hr hr'
  have hl3:=intsC_out hl2
  have hlen:l.length=m:=by
   have:=congrArg List.length hl3
   simp only [List.length_take,List.length_map] at this
   omega
  have g3:es'.take m=l.map Z7:=by
   have F:=g2.take m
   rw [hl3] at F
   exact ints_eq F
  have hne:r'≠rv':=fun e=>by
   subst e
   have:=H.inj r rv _ _ _ hr hrvc hr' hrv
   subst this
   simp at k5
  refine (insertI_ok (l:=l) (x:=n) (i:=i) (rv:=rv') (a:=.osl r' 1 0 m) (.inr (.inr ⟨r',es',by rw [List.length_map,hlen],g1,by rw [List.length_map,hlen,<-g2.1];exact k2,by rw [List.length_map,hlen];exact g3⟩)) (fun es e=>by cases e) (by omega) (by omega) hv1 (fun e=>by simp only [Y7,Option.some.injEq] at e;exact hne e)).mono ?_
  rintro r2 h' ⟨q,rfl,h1,h2,h3⟩
  refine ⟨nm++[q],Ext.add nm q,?_,H.swap hr hr' h1 ?_ (fun t o ht e=>h3 t o ht (fun e2=>e (by simpa [Y7] using e2))) ⟨rfl,rfl,ints_rm _⟩⟩
  ·rw [hlen];exact .osl _ _ _ _ _ (by rw [<-H.len];simp)
  ·rcases h2 with h2 | h2
   ·left;simpa [Y7] using h2
   ·exact .inr h2
 ·cases hv
theorem cloneO_ok {h:Z2} {rx i n:Nat} {ob:AObj} (hr:h rx=some ob) (hn:i+n<=ob.es.length) (h0:0<n) (h1:n<=100000) {K:AVal->Z2->Prop} (hk:∀ q,h q=none->K (.osl q 2 0 n) (upd h q (some ⟨.t 59,2,(ob.es.drop i).take n⟩))) :
 DCalls (Pg G) 19 [.osl rx 2 i n] h K:=by
 refine Z4 Tryz.func19 hn19 hc19 (by rw [Tryz.ntmps19];simp) (by rw [Tryz.ntmps19];decide) ?_
 simp -dsimp -implicitDefEqProofs (disch:=omega) only [VCA,Z1,↓Q3,Nat.reduceEqDiff,Nat.reduceBEq,Nat.reduceAdd,Nat.reduceSub,Nat.reduceMul,Nat.reduceLT,Nat.reduceLeDiff,↓reduceIte,reduceCtorEq,Z3,Q6,SOp.rd,SI.rd,SX.rd,rdL,rdO,rdP,Q5,Q4,Q1,Q8,Q7,Z0,implies_true,forall_const,forall_eq,ne_eq,exists_eq_right_right,exists_eq_right,exists_eq_left,exists_eq_left',Q9,Z5,Z7,c19]
 intro b hb
 have hb1:b=false:=by cases b with
  | false=>rfl
  | true=>exact absurd (hb rfl) (by omega)
 subst hb1
 refine Br.intro (fun ht=>by cases ht) (fun hf=>?_)
 simp -dsimp -implicitDefEqProofs (disch:=omega) only [VCA,Z1,↓Q3,Nat.reduceEqDiff,Nat.reduceBEq,Nat.reduceAdd,Nat.reduceSub,Nat.reduceMul,Nat.reduceLT,Nat.reduceLeDiff,↓reduceIte,reduceCtorEq,Z3,Q6,SOp.rd,SI.rd,SX.rd,rdL,rdO,rdP,Q5,Q4,Q1,Q8,Q7,Z0,implies_true,forall_const,forall_eq,ne_eq,exists_eq_right_right,exists_eq_right,exists_eq_left,exists_eq_left',Q9,Z5,Z7]
 have hl:((ob.es.drop i).take n).length=n:=by rw [List.length_take,List.length_drop];omega
 exact ⟨ob,hr,hn,by rw [hl];omega,by rw [hl];omega,fun r hr=>⟨_,Sub.refl _,by simpa [hl] using hk r hr⟩⟩
theorem cloneE_ok {h:Z2} {K:AVal->Z2->Prop} (hk:K (.slc []) h):DCalls (Pg G) 19 [.emp] h K:=by
 refine DCalls.empty ?_
 refine Z4 Tryz.func19 hn19 hc19 (by rw [Tryz.ntmps19];simp) (by rw [Tryz.ntmps19];decide) ?_
 simp -dsimp -implicitDefEqProofs (disch:=omega) only [VCA,Z1,↓Q3,Nat.reduceEqDiff,Nat.reduceBEq,Nat.reduceAdd,Nat.reduceSub,Nat.reduceMul,Nat.reduceLT,Nat.reduceLeDiff,↓reduceIte,reduceCtorEq,Z3,Q6,SOp.rd,SI.rd,SX.rd,rdL,rdO,rdP,Q5,Q4,Q1,Q8,Q7,Z0,implies_true,forall_const,forall_eq,ne_eq,exists_eq_right_right,exists_eq_right,exists_eq_left,exists_eq_left',Q9,Z5,Z7,c19]
 intro b
 refine Br.intro (fun ht=>?_) (fun hf=>?_)
 ·simp -dsimp -implicitDefEqProofs (disch:=omega) only [VCA,Z1,↓Q3,Nat.reduceEqDiff,Nat.reduceBEq,Nat.reduceAdd,Nat.reduceSub,Nat.reduceMul,Nat.reduceLT,Nat.reduceLeDiff,↓reduceIte,reduceCtorEq,Z3,Q6,SOp.rd,SI.rd,SX.rd,rdL,rdO,rdP,Q5,Q4,Q1,Q8,Q7,Z0,implies_true,forall_const,forall_eq,ne_eq,exists_eq_right_right,exists_eq_right,exists_eq_left,exists_eq_left',Q9,Z5,Z7]
  exact ⟨h,Sub.refl _,by simp,hk⟩
 ·simp -dsimp -implicitDefEqProofs (disch:=omega) only [VCA,Z1,↓Q3,Nat.reduceEqDiff,Nat.reduceBEq,Nat.reduceAdd,Nat.reduceSub,Nat.reduceMul,Nat.reduceLT,Nat.reduceLeDiff,↓reduceIte,reduceCtorEq,Z3,Q6,SOp.rd,SI.rd,SX.rd,rdL,rdO,rdP,Q5,Q4,Q1,Q8,Q7,Z0,implies_true,forall_const,forall_eq,ne_eq,exists_eq_right_right,exists_eq_right,exists_eq_left,exists_eq_left',Q9,Z5,Z7]
  exact fun r hr=>⟨h,(Sub.refl _).upd hr,by simp,hk⟩
def prClo:List AVal->CH->ER:=fun a c=>match a with
 | [.emp]=>some (.slc [],c)
 | [.osl i 2 y (n+1)]=>match c.get i with
   | some ⟨_,_,es⟩=>if (Nat.ble (y+(n+1)) es.length&&Nat.ble n 90000)=true then some (.osl c.nx 2 0 (n+1),c.add ⟨.t 59,2,(es.drop y).take (n+1)⟩) else none
   | none=>none
 | _=>none
theorem prClo_ok:PrOK (Pg G) 19 prClo:=fun args c v c' hv nm args' hb hl h V H=>by
 obtain ⟨x',rfl⟩:∃ x',args'=[x']:=by
  unfold prClo at hv
  split at hv
  ·exact List.length_eq_one_iff.1 V.1.symm
  ·exact List.length_eq_one_iff.1 V.1.symm
  ·cases hv
 unfold prClo at hv
 split at hv
 ·cases hv
  rw [(V.2 0 _ x' rfl rfl).emp_eq]
  exact cloneE_ok ⟨nm,Ext.refl nm,.slc' PW.nil,H⟩
 ·rename_i i y n
  obtain ⟨r,rfl,hr⟩:=(V.2 0 _ x' rfl rfl).osl_inv
  split at hv
  case h_2=>cases hv
  rename_i ty sz es ho
  split at hv
  case isFalse=>cases hv
  rename_i hk
  simp only [Bool.and_eq_true] at hk
  have k1:=Nat.le_of_ble_eq_true hk.1
  have k2:=Nat.le_of_ble_eq_true hk.2
  cases hv
  obtain ⟨s,o',q1,q2,⟨q3,q4,q5⟩,q6⟩:=H.obj i _ ho
  rw [hr] at q1;cases q1
  have q5:RM nm es o'.es:=q5
  refine cloneO_ok q2 (by rw [<-q5.1];exact k1) (by omega) (by omega) fun q hq=>?_
  refine ⟨nm++[q],Ext.add nm q,.osl _ _ _ _ _ (by rw [<-H.len];simp),H.alloc hq ⟨rfl,rfl,?_⟩⟩
  exact RM.up (Ext.add nm q) ((q5.drop y).take (n+1))
 ·cases hv
def html0:List UInt8:=[60,33,68,79,67,84,89,80,69,32,104,116,109,108,62,60,112,32,105,100,61,97,62,120]
theorem decD_ascii:∀ s:List UInt8,(s.all fun b=>decide (b.toNat<128))=true->decD s=s.map fun b=>(b.toNat:Int)
 | [],_=>decD_nil
 | b :: r,h=>by
   simp only [List.all_cons,Bool.and_eq_true,decide_eq_true_eq] at h
   have hb:bt (b :: r) 0=b.toNat:=by unfold bt;rfl
   have hl:(K6 (b.toNat:Int)).1=0:=by
    unfold K6
    rw [if_pos (by omega)]
   have h1:KV (b :: r)=((b.toNat:Int),1):=by
    unfold KV
    simp only [hb,hl]
    rfl
   rw [decD_cons (by simp),h1,List.map_cons]
   simp only [List.drop_succ_cons,List.drop_zero]
   rw [decD_ascii r h.2]
theorem html0_clean:encM (T4 0 (decD html0))=html0:=by
 rw [decD_ascii html0 (by decide +kernel)];decide +kernel
def prCln:List AVal->CH->ER:=fun a c=>match a with
 | [.str s]=>if (s==html0)=true then some (.str html0,c) else none
 | _=>none
theorem prCln_ok:PrOK (Pg G) 31 prCln:=PrOK.pc fun args c v c' hv=>by
 unfold prCln at hv
 split at hv
 ·split at hv
  ·rename_i hs
   rw [beq_iff_eq] at hs
   subst hs
   cases hv
   have:=clean_ok (G:=G) html0 (by decide +kernel)
   rw [html0_clean] at this
   exact ⟨rfl,rfl,rfl,this⟩
  ·cases hv
 ·cases hv
theorem esc_a:JU true [97]=[97]:=by
 rw [JU,JU];decide +kernel
theorem esc_x:JU false [120]=[120]:=by
 rw [JU,JU];decide +kernel
def prEsc:List AVal->CH->ER:=fun a c=>match a with
 | [.str s,.bool b]=>if (b&&s==[97])=true then some (.str [97],c) else if (!b&&s==[120])=true then some (.str [120],c) else none
 | _=>none
theorem prEsc_ok (hG:MaxOK G):PrOK (Pg G) 34 prEsc:=PrOK.pc fun args c v c' hv=>by
 unfold prEsc at hv
 split at hv
 ·split at hv
  ·rename_i hs
   simp only [Bool.and_eq_true,beq_iff_eq] at hs
   obtain ⟨rfl,rfl⟩:=hs
   cases hv
   have:=escape_ok hG [97] true (by decide)
   rw [esc_a] at this
   exact ⟨rfl,rfl,rfl,this⟩
  ·split at hv
   ·rename_i hs
    simp only [Bool.and_eq_true,beq_iff_eq,Bool.not_eq_true'] at hs
    obtain ⟨rfl,rfl⟩:=hs
    cases hv
    have:=escape_ok hG [120] false (by decide)
    rw [esc_x] at this
    exact ⟨rfl,rfl,rfl,this⟩
   ·cases hv
 ·cases hv
end
noncomputable section
def fnL:List (Nat×SFun×Nat):=[(6,KE.c6,24),(7,KE.c7,32),(8,KE.c8,10),(9,KE.c9,63),(12,KE.c12,20),(13,KE.c13,48),(14,KE.c14,14),(15,KE.c15,44),(16,KE.c16,96),(17,KE.c17,28),(21,KE.c21,4),(22,KE.c22,60),(23,KE.c23,24),(24,KE.c24,19),(25,KE.c25,34),(26,KE.c26,115),(27,KE.c27,55),(28,KE.c28,6),(29,KE.c29,34),(30,KE.c30,12),(32,KE.c32,20),(35,KE.c35,5),(36,KE.c36,8),(37,KE.c37,9),(38,KE.c38,24),(39,KE.c39,7),(40,KE.c40,8),(41,KE.c41,76),(45,KE.c45,91),(48,KE.c48,19),(49,KE.c49,18),(52,KE.c52,19),(54,KE.c54,54),(55,KE.c55,55),(56,KE.c56,88),(57,KE.c57,23),(63,KE.c63,25),(64,KE.c64,21),(65,KE.c65,91),(76,KE.c76,5),(77,KE.c77,11),(78,KE.c78,106),(80,KE.c80,59),(86,KE.c86,66),(87,KE.c87,55),(88,KE.c88,57),(89,KE.c89,70),(91,KE.c91,92),(92,KE.c92,40),(111,KE.c111,26),(112,KE.c112,2),(113,KE.c113,42),(115,KE.c115,56),(116,KE.c116,51),(117,KE.c117,13),(118,KE.c118,21),(119,KE.c119,10),(120,KE.c120,8),(121,KE.c121,66),(122,KE.c122,9),(125,KE.c125,16),(126,KE.c126,35),(127,KE.c127,22),(128,KE.c128,12),(129,KE.c129,16),(130,KE.c130,17),(131,KE.c131,16),(132,KE.c132,31),(133,KE.c133,15),(134,KE.c134,71),(137,KE.c137,22),(138,KE.c138,7),(140,KE.c140,46),(141,KE.c141,170),(149,KE.c149,12),(157,KE.c157,19),(167,KE.c167,32),(171,KE.c171,21),(172,KE.c172,17),(173,KE.c173,23),(174,KE.c174,6),(175,KE.c175,5),(176,KE.c176,72),(178,KE.c178,31),(179,KE.c179,96),(180,KE.c180,15),(184,KE.c184,26),(185,KE.c185,18),(186,KE.c186,6),(197,KE.c197,27),(198,KE.c198,27),(214,KE.c214,6),(215,KE.c215,9),(219,KE.c219,17),(229,KE.c229,28)]
theorem fnL_ok:AllE (Pg G) fnL:=
 .cons (fnE Tryz.func6 KE.hn6 KE.hc6 Tryz.ntmps6 rfl rfl) <|
 .cons (fnE Tryz.func7 KE.hn7 KE.hc7 Tryz.ntmps7 rfl rfl) <|
 .cons (fnE Tryz.func8 KE.hn8 KE.hc8 Tryz.ntmps8 rfl rfl) <|
 .cons (fnE Tryz.func9 KE.hn9 KE.hc9 Tryz.ntmps9 rfl rfl) <|
 .cons (fnE Tryz.func12 KE.hn12 KE.hc12 Tryz.ntmps12 rfl rfl) <|
 .cons (fnE Tryz.func13 KE.hn13 KE.hc13 Tryz.ntmps13 rfl rfl) <|
 .cons (fnE Tryz.func14 KE.hn14 KE.hc14 Tryz.ntmps14 rfl rfl) <|
 .cons (fnE Tryz.func15 KE.hn15 KE.hc15 Tryz.ntmps15 rfl rfl) <|
 .cons (fnE Tryz.func16 KE.hn16 KE.hc16 Tryz.ntmps16 rfl rfl) <|
 .cons (fnE Tryz.func17 KE.hn17 KE.hc17 Tryz.ntmps17 rfl rfl) <|
 .cons (fnE Tryz.func21 KE.hn21 KE.hc21 Tryz.ntmps21 rfl rfl) <|
 .cons (fnE Tryz.func22 KE.hn22 KE.hc22 Tryz.ntmps22 rfl rfl) <|
 .cons (fnE Tryz.func23 KE.hn23 KE.hc23 Tryz.ntmps23 rfl rfl) <|
 .cons (fnE Tryz.func24 KE.hn24 KE.hc24 Tryz.ntmps24 rfl rfl) <|
 .cons (fnE Tryz.func25 KE.hn25 KE.hc25 Tryz.ntmps25 rfl rfl) <|
 .cons (fnE Tryz.func26 KE.hn26 KE.hc26 Tryz.ntmps26 rfl rfl) <|
 .cons (fnE Tryz.func27 KE.hn27 KE.hc27 Tryz.ntmps27 rfl rfl) <|
 .cons (fnE Tryz.func28 KE.hn28 KE.hc28 Tryz.ntmps28 rfl rfl) <|
 .cons (fnE Tryz.func29 KE.hn29 KE.hc29 Tryz.ntmps29 rfl rfl) <|
 .cons (fnE Tryz.func30 KE.hn30 KE.hc30 Tryz.ntmps30 rfl rfl) <|
 .cons (fnE Tryz.func32 KE.hn32 KE.hc32 Tryz.ntmps32 rfl rfl) <|
 .cons (fnE Tryz.func35 KE.hn35 KE.hc35 Tryz.ntmps35 rfl rfl) <|
 .cons (fnE Tryz.func36 KE.hn36 KE.hc36 Tryz.ntmps36 rfl rfl) <|
 .cons (fnE Tryz.func37 KE.hn37 KE.hc37 Tryz.ntmps37 rfl rfl) <|
 .cons (fnE Tryz.func38 KE.hn38 KE.hc38 Tryz.ntmps38 rfl rfl) <|
 .cons (fnE Tryz.func39 KE.hn39 KE.hc39 Tryz.ntmps39 rfl rfl) <|
 .cons (fnE Tryz.func40 KE.hn40 KE.hc40 Tryz.ntmps40 rfl rfl) <|
 .cons (fnE Tryz.func41 KE.hn41 KE.hc41 Tryz.ntmps41 rfl rfl) <|
 .cons (fnE Tryz.func45 KE.hn45 KE.hc45 Tryz.ntmps45 rfl rfl) <|
 .cons (fnE Tryz.func48 KE.hn48 KE.hc48 Tryz.ntmps48 rfl rfl) <|
 .cons (fnE Tryz.func49 KE.hn49 KE.hc49 Tryz.ntmps49 rfl rfl) <|
 .cons (fnE Tryz.func52 KE.hn52 KE.hc52 Tryz.ntmps52 rfl rfl) <|
 .cons (fnE Tryz.func54 KE.hn54 KE.hc54 Tryz.ntmps54 rfl rfl) <|
 .cons (fnE Tryz.func55 KE.hn55 KE.hc55 Tryz.ntmps55 rfl rfl) <|
 .cons (fnE Tryz.func56 KE.hn56 KE.hc56 Tryz.ntmps56 rfl rfl) <|
 .cons (fnE Tryz.func57 KE.hn57 KE.hc57 Tryz.ntmps57 rfl rfl) <|
 .cons (fnE Tryz.func63 KE.hn63 KE.hc63 Tryz.ntmps63 rfl rfl) <|
 .cons (fnE Tryz.func64 KE.hn64 KE.hc64 Tryz.ntmps64 rfl rfl) <|
 .cons (fnE Tryz.func65 KE.hn65 KE.hc65 Tryz.ntmps65 rfl rfl) <|
 .cons (fnE Tryz.func76 KE.hn76 KE.hc76 Tryz.ntmps76 rfl rfl) <|
 .cons (fnE Tryz.func77 KE.hn77 KE.hc77 Tryz.ntmps77 rfl rfl) <|
 .cons (fnE Tryz.func78 KE.hn78 KE.hc78 Tryz.ntmps78 rfl rfl) <|
 .cons (fnE Tryz.func80 KE.hn80 KE.hc80 Tryz.ntmps80 rfl rfl) <|
 .cons (fnE Tryz.func86 KE.hn86 KE.hc86 Tryz.ntmps86 rfl rfl) <|
 .cons (fnE Tryz.func87 KE.hn87 KE.hc87 Tryz.ntmps87 rfl rfl) <|
 .cons (fnE Tryz.func88 KE.hn88 KE.hc88 Tryz.ntmps88 rfl rfl) <|
 .cons (fnE Tryz.func89 KE.hn89 KE.hc89 Tryz.ntmps89 rfl rfl) <|
 .cons (fnE Tryz.func91 KE.hn91 KE.hc91 Tryz.ntmps91 rfl rfl) <|
 .cons (fnE Tryz.func92 KE.hn92 KE.hc92 Tryz.ntmps92 rfl rfl) <|
 .cons (fnE Tryz.func111 KE.hn111 KE.hc111 Tryz.ntmps111 rfl rfl) <|
 .cons (fnE Tryz.func112 KE.hn112 KE.hc112 Tryz.ntmps112 rfl rfl) <|
 .cons (fnE Tryz.func113 KE.hn113 KE.hc113 Tryz.ntmps113 rfl rfl) <|
 .cons (fnE Tryz.func115 KE.hn115 KE.hc115 Tryz.ntmps115 rfl rfl) <|
 .cons (fnE Tryz.func116 KE.hn116 KE.hc116 Tryz.ntmps116 rfl rfl) <|
 .cons (fnE Tryz.func117 KE.hn117 KE.hc117 Tryz.ntmps117 rfl rfl) <|
 .cons (fnE Tryz.func118 KE.hn118 KE.hc118 Tryz.ntmps118 rfl rfl) <|
 .cons (fnE Tryz.func119 KE.hn119 KE.hc119 Tryz.ntmps119 rfl rfl) <|
 .cons (fnE Tryz.func120 KE.hn120 KE.hc120 Tryz.ntmps120 rfl rfl) <|
 .cons (fnE Tryz.func121 KE.hn121 KE.hc121 Tryz.ntmps121 rfl rfl) <|
 .cons (fnE Tryz.func122 KE.hn122 KE.hc122 Tryz.ntmps122 rfl rfl) <|
 .cons (fnE Tryz.func125 KE.hn125 KE.hc125 Tryz.ntmps125 rfl rfl) <|
 .cons (fnE Tryz.func126 KE.hn126 KE.hc126 Tryz.ntmps126 rfl rfl) <|
 .cons (fnE Tryz.func127 KE.hn127 KE.hc127 Tryz.ntmps127 rfl rfl) <|
 .cons (fnE Tryz.func128 KE.hn128 KE.hc128 Tryz.ntmps128 rfl rfl) <|
 .cons (fnE Tryz.func129 KE.hn129 KE.hc129 Tryz.ntmps129 rfl rfl) <|
 .cons (fnE Tryz.func130 KE.hn130 KE.hc130 Tryz.ntmps130 rfl rfl) <|
 .cons (fnE Tryz.func131 KE.hn131 KE.hc131 Tryz.ntmps131 rfl rfl) <|
 .cons (fnE Tryz.func132 KE.hn132 KE.hc132 Tryz.ntmps132 rfl rfl) <|
 .cons (fnE Tryz.func133 KE.hn133 KE.hc133 Tryz.ntmps133 rfl rfl) <|
 .cons (fnE Tryz.func134 KE.hn134 KE.hc134 Tryz.ntmps134 rfl rfl) <|
 .cons (fnE Tryz.func137 KE.hn137 KE.hc137 Tryz.ntmps137 rfl rfl) <|
 .cons (fnE Tryz.func138 KE.hn138 KE.hc138 Tryz.ntmps138 rfl rfl) <|
 .cons (fnE Tryz.func140 KE.hn140 KE.hc140 Tryz.ntmps140 rfl rfl) <|
 .cons (fnE Tryz.func141 KE.hn141 KE.hc141 Tryz.ntmps141 rfl rfl) <|
 .cons (fnE Tryz.func149 KE.hn149 KE.hc149 Tryz.ntmps149 rfl rfl) <|
 .cons (fnE Tryz.func157 KE.hn157 KE.hc157 Tryz.ntmps157 rfl rfl) <|
 .cons (fnE Tryz.func167 KE.hn167 KE.hc167 Tryz.ntmps167 rfl rfl) <|
 .cons (fnE Tryz.func171 KE.hn171 KE.hc171 Tryz.ntmps171 rfl rfl) <|
 .cons (fnE Tryz.func172 KE.hn172 KE.hc172 Tryz.ntmps172 rfl rfl) <|
 .cons (fnE Tryz.func173 KE.hn173 KE.hc173 Tryz.ntmps173 rfl rfl) <|
 .cons (fnE Tryz.func174 KE.hn174 KE.hc174 Tryz.ntmps174 rfl rfl) <|
 .cons (fnE Tryz.func175 KE.hn175 KE.hc175 Tryz.ntmps175 rfl rfl) <|
 .cons (fnE Tryz.func176 KE.hn176 KE.hc176 Tryz.ntmps176 rfl rfl) <|
 .cons (fnE Tryz.func178 KE.hn178 KE.hc178 Tryz.ntmps178 rfl rfl) <|
 .cons (fnE Tryz.func179 KE.hn179 KE.hc179 Tryz.ntmps179 rfl rfl) <|
 .cons (fnE Tryz.func180 KE.hn180 KE.hc180 Tryz.ntmps180 rfl rfl) <|
 .cons (fnE Tryz.func184 KE.hn184 KE.hc184 Tryz.ntmps184 rfl rfl) <|
 .cons (fnE Tryz.func185 KE.hn185 KE.hc185 Tryz.ntmps185 rfl rfl) <|
 .cons (fnE Tryz.func186 KE.hn186 KE.hc186 Tryz.ntmps186 rfl rfl) <|
 .cons (fnE Tryz.func197 KE.hn197 KE.hc197 Tryz.ntmps197 rfl rfl) <|
 .cons (fnE Tryz.func198 KE.hn198 KE.hc198 Tryz.ntmps198 rfl rfl) <|
 .cons (fnE Tryz.func214 KE.hn214 KE.hc214 Tryz.ntmps214 rfl rfl) <|
 .cons (fnE Tryz.func215 KE.hn215 KE.hc215 Tryz.ntmps215 rfl rfl) <|
 .cons (fnE Tryz.func219 KE.hn219 KE.hc219 Tryz.ntmps219 rfl rfl) <|
 .cons (fnE Tryz.func229 KE.hn229 KE.hc229 Tryz.ntmps229 rfl rfl) <|
 .nil
def prA:List (Nat×(List AVal->CH->ER)):=[(67,prCon),(33,prCopy),(50,prByte),(51,prTrim),(177,prIns),(19,prClo),(34,prEsc),(85,prTrL),(31,prCln),(169,prCut),(114,prAny)]
theorem prA_ok (hG:MaxOK G):AllP (Pg G) prA:=
 .cons (prCon_ok hG) <| .cons prCopy_ok <| .cons prByte_ok <| .cons prTrim_ok <| .cons prIns_ok <| .cons prClo_ok <| .cons (prEsc_ok hG) <| .cons prTrL_ok <| .cons prCln_ok <| .cons (prCut_ok hG) <| .cons prAny_ok .nil
theorem hBegun_run:((Sim.look fnL 6).bind fun s=>(runF G (evN G (Sim.look fnL) (prL prA) 100000) s.1 s.2 [] ⟨0,[],[],0⟩).map (·.1))=some (.bool true):=by kernel_rfl
end
theorem hBegun_ok (hG:MaxOK G) (hF:∀ b,Flat (G b)):PCalls (Pg G) 6 [] (.bool true):=
 pcalls_of_run fnL_ok.ok (prA_ok hG).ok rfl hF 100000 hBegun_run rfl rfl
def c4:SFun:=⟨.seq (.reg [o 2 (.box 24 2 (.t 0)),o 4 (.new 24 2 [.emp,.bool false])]) (.seq (.reg [o 5 (.fldA 0 (.t 2)),o 6 (.ld 1 false (.t 5)),o 7 (.fldA 0 (.t 2)),o 8 (.ld 1 false (.t 7)),o 9 (.len (.t 8)),o 10 (.mv (.t 1)),o 11 (.min2 (.t 9) (.t 10)),o 12 (.slA 6 (.t 6) none (some (.t 11))),o 13 (.fldA 0 (.t 2)),⟨none,.st 1 (.t 13) (.t 12),none⟩]) (.seq (.reg [o 14 (.ld 2 true (.t 2)),⟨none,.st 2 (.t 4) (.t 14),none⟩]) .ret)),[.cell 4 2 true]⟩
theorem hc4:Y6 Tryz.prog {how:=[(2,6)]} Tryz.f4=some c4:=by kernel_rfl
theorem hn4 : (Tryz.f4.name == "runtime.NumGoroutine") = false := by kernel_rfl
theorem hFew_ok (d:HDoc) (n:Nat) (sm:DocSm d):PCalls (Pg G) 4 [.agg (J9 d),Y0 n] (.agg (J9 ⟨d.nodes.take n,d.quirks⟩)):=fun h=>by
 have l1:=sm.len
 refine Z4 Tryz.func4 hn4 hc4 (by rw [Tryz.ntmps4];simp) (by rw [Tryz.ntmps4];decide) ?_
 simp -dsimp -implicitDefEqProofs (disch:=omega) only [VCA,Z1,↓Q3,Nat.reduceEqDiff,Nat.reduceBEq,Nat.reduceAdd,Nat.reduceSub,Nat.reduceMul,Nat.reduceLT,Nat.reduceLeDiff,↓reduceIte,reduceCtorEq,Z3,Q6,SOp.rd,SI.rd,SX.rd,rdL,rdO,rdP,Q5,Q4,Q1,Q8,Q7,Z0,implies_true,forall_const,forall_eq,ne_eq,exists_eq_right_right,exists_eq_right,exists_eq_left,exists_eq_left',Q9,Z6,J9,Z7,c4,J9]
 intro r hr r1 hr1
 have ne:¬ r=r1:=fun e=>hr1.1 e.symm
 have ne':¬ r1=r:=hr1.1
 have et:d.nodes.take (min (d.nodes.length:Int) n).toNat=d.nodes.take n:=by
  rw [show (min (d.nodes.length:Int) n).toNat=min n d.nodes.length from by omega,List.take_eq_take_iff];omega
 simp -dsimp -implicitDefEqProofs (disch:=omega) only [VCA,Z1,↓Q3,Nat.reduceEqDiff,Nat.reduceBEq,Nat.reduceAdd,Nat.reduceSub,Nat.reduceMul,Nat.reduceLT,Nat.reduceLeDiff,↓reduceIte,reduceCtorEq,Z3,Q6,SOp.rd,SI.rd,SX.rd,rdL,rdO,rdP,Q5,Q4,Q1,Q8,Q7,Z0,implies_true,forall_const,forall_eq,ne_eq,exists_eq_right_right,exists_eq_right,exists_eq_left,exists_eq_left',Q9,Z6,J9,Z7,ne,ne']
 exact ⟨by omega,((((Sub.refl h).upd hr).upd hr1.2).upd hr).upd hr1.2,by rw [et]⟩
theorem ccT_sm {d:HDoc} (V:DV d) (sm:DocSm d) {n:Int} (hn:inD d n):DocSm (cc d n):=by
 have hl:=V.len
 have bl:=VV V hn
 refine ⟨?_,fun x hx=>?_⟩
 ·rw [UT];omega
 ·unfold cc cpT at hx
  rcases List.mem_append.1 hx with h | h
  ·exact sm.each x h
  ·obtain ⟨k,hk,rfl⟩:=List.mem_map.1 h
   have s:=sm.nd k
   exact ⟨s.name,s.attrs,s.each,s.text,by unfold cpR;rw [List.length_map];exact s.kids⟩
theorem copyE_out {d:HDoc} {n:Int} (h:W7 d n=0):DV d/\inD d n/\n≠0/\d.nodes.length+(J8 d n).length<=200:=by
 unfold W7 at h
 split at h
 ·rename_i q;exact absurd h q
 ·rename_i q
  split at h
  ·exact absurd h (by decide)
  ·rename_i q2
   split at h
   ·exact absurd h (by decide)
   ·rename_i q3
    split at h
    ·exact absurd h (by decide)
    ·rename_i q4
     exact ⟨(YY _).1 (Classical.not_not.1 q),Classical.not_not.1 q2,q3,by omega⟩
def c3:SFun:=⟨.seq (.reg [o 2 (.box 24 2 (.t 0)),o 4 (.mv (.c (.bool false)))]) (.seq (.reg [o 17 (.ld 2 true (.t 2)),o 18 (.pcall 4 [.t 17,.c (.int .i64 40)]),⟨none,.st 2 (.t 2) (.t 18),none⟩]) (.seq (.reg [o 20 (.ld 2 true (.t 2)),o 21 (.mv (.t 1)),o 22 (.pcall 5 [.t 20,.t 21]),o 19 (.mv (.t 22)),o 23 (.ext (.t 19) 0),o 24 (.ext (.t 19) 1),o 25 (.ext (.t 19) 2),o 5 (.new 24 2 [.emp,.bool false]),⟨none,.st 2 (.t 5) (.t 23),none⟩,o 6 (.mv (.t 24)),o 7 (.mv (.t 25))]) (.seq (.seq (.reg [o 26 (.mv (.t 7)),o 27 (.bin .neq (.t 26) (.c (.int .i64 0)))]) (.cond (.t 27) (.seq (.reg [o 28 (.pcall 6 []),o 4 (.mv (.t 28))]) .ret) .skip)) (.seq (.reg [o 30 (.ld 2 true (.t 2)),o 31 (.pcall 7 [.t 30,.c (.int .i64 0)]),o 29 (.mv (.t 31)),o 32 (.ext (.t 29) 0),o 33 (.ext (.t 29) 1),o 8 (.mv (.t 32)),o 9 (.mv (.t 33))]) (.seq (.reg [o 35 (.ld 2 true (.t 5)),o 36 (.pcall 7 [.t 35,.c (.int .i64 0)]),o 34 (.mv (.t 36)),o 37 (.ext (.t 34) 0),o 38 (.ext (.t 34) 1),o 10 (.mv (.t 37)),o 11 (.mv (.t 38))]) (.seq (.reg [o 40 (.ld 2 true (.t 2)),o 41 (.mv (.t 1)),o 42 (.pcall 7 [.t 40,.t 41]),o 39 (.mv (.t 42)),o 43 (.ext (.t 39) 0),o 44 (.ext (.t 39) 1),o 12 (.mv (.t 43)),o 13 (.mv (.t 44))]) (.seq (.reg [o 46 (.ld 2 true (.t 5)),o 47 (.mv (.t 6)),o 48 (.pcall 7 [.t 46,.t 47]),o 45 (.mv (.t 48)),o 49 (.ext (.t 45) 0),o 50 (.ext (.t 45) 1),o 14 (.mv (.t 49)),o 15 (.mv (.t 50))]) (.seq (.seq (.reg [o 51 (.mv (.t 1)),o 52 (.bin .lss (.t 51) (.c (.int .i64 0))),o 53 (.mv (.t 52)),⟨some 54,.mv (.t 1),some (53,false)⟩,⟨some 55,.fldA 0 (.t 2),some (53,false)⟩,⟨some 56,.ld 1 false (.t 55),some (53,false)⟩,⟨some 57,.len (.t 56),some (53,false)⟩,⟨some 58,.bin .geq (.t 54) (.t 57),some (53,false)⟩,o 59 (.pick (.t 53) (.c (.bool true)) (.t 58))]) (.cond (.t 59) (.seq (.reg [o 4 (.mv (.c (.bool false)))]) .ret) .skip)) (.seq (.dreg [(o 60 (.fldA 0 (.t 2)),none),(o 61 (.ld 1 false (.t 60)),none),(o 62 (.mv (.t 1)),none),(o 63 (.idxA 6 (.t 61) (.t 62)),none),(o 64 (.fldA 0 (.t 63)),none),(o 65 (.ld 1 false (.t 64)),none),(o 66 (.bin .eql (.t 65) (.c (.int .i64 3))),none),(o 67 (.mv (.t 66)),none),(⟨some 68,.fldA 0 (.t 2),some (67,true)⟩,none),(⟨some 69,.ld 1 false (.t 68),some (67,true)⟩,none),(⟨some 70,.mv (.t 1),some (67,true)⟩,none),(⟨some 71,.idxA 6 (.t 69) (.t 70),some (67,true)⟩,none),(⟨some 72,.fldA 4 (.t 71),some (67,true)⟩,none),(⟨some 73,.ld 1 false (.t 72),some (67,true)⟩,none),(⟨some 74,.bin .geq (.t 73) (.c (.int .i64 0)),some (67,true)⟩,none),(o 75 (.pick (.t 67) (.t 74) (.c (.bool false))),none),(o 76 (.mv (.t 75)),none),(⟨some 77,.fldA 0 (.t 2),some (76,true)⟩,none),(⟨some 78,.ld 1 false (.t 77),some (76,true)⟩,none),(⟨some 79,.fldA 0 (.t 2),some (76,true)⟩,none),(⟨some 80,.ld 1 false (.t 79),some (76,true)⟩,none),(⟨some 81,.mv (.t 1),some (76,true)⟩,none),(⟨some 82,.idxA 6 (.t 80) (.t 81),some (76,true)⟩,none),(⟨some 83,.fldA 4 (.t 82),some (76,true)⟩,none),(⟨some 84,.ld 1 false (.t 83),some (76,true)⟩,none),(⟨some 85,.idxA 6 (.t 78) (.t 84),some (76,true)⟩,none),(⟨some 86,.fldA 1 (.t 85),some (76,true)⟩,none),(⟨some 87,.ld 1 false (.t 86),some (76,true)⟩,none),(⟨some 88,.pcall 8 [.t 87],some (76,true)⟩,none),(⟨some 89,.bin .eql (.t 88) (.c (.int .i64 1)),some (76,true)⟩,none),(o 90 (.pick (.t 76) (.t 89) (.c (.bool false))),none),(o 16 (.mv (.t 90)),none)]) (.seq (.reg [o 91 (.pcall 6 []),o 92 (.mv (.t 91)),⟨some 93,.mv (.t 9),some (92,true)⟩,⟨some 94,.bin .eql (.t 93) (.c (.int .i64 0)),some (92,true)⟩,o 95 (.pick (.t 92) (.t 94) (.c (.bool false))),o 96 (.mv (.t 95)),⟨some 97,.mv (.t 11),some (96,true)⟩,⟨some 98,.bin .eql (.t 97) (.c (.int .i64 0)),some (96,true)⟩,o 99 (.pick (.t 96) (.t 98) (.c (.bool false))),o 100 (.mv (.t 99)),⟨some 101,.mv (.t 8),some (100,true)⟩,⟨some 102,.mv (.t 10),some (100,true)⟩,⟨some 103,.bin .eql (.t 101) (.t 102),some (100,true)⟩,o 104 (.pick (.t 100) (.t 103) (.c (.bool false))),o 105 (.mv (.t 104)),⟨some 106,.mv (.t 13),some (105,true)⟩,⟨some 107,.bin .eql (.t 106) (.c (.int .i64 0)),some (105,true)⟩,o 108 (.pick (.t 105) (.t 107) (.c (.bool false))),o 109 (.mv (.t 108)),⟨some 110,.mv (.t 15),some (109,true)⟩,⟨some 111,.bin .eql (.t 110) (.c (.int .i64 0)),some (109,true)⟩,o 112 (.pick (.t 109) (.t 111) (.c (.bool false))),o 113 (.mv (.t 112)),⟨some 114,.mv (.t 16),some (113,true)⟩,⟨some 115,.mv (.t 114),some (113,true)⟩,⟨some 116,.mv (.t 12),some (115,false)⟩,⟨some 117,.mv (.t 14),some (115,false)⟩,⟨some 118,.bin .eql (.t 116) (.t 117),some (115,false)⟩,⟨some 119,.pick (.t 115) (.c (.bool true)) (.t 118),some (113,true)⟩,o 120 (.pick (.t 113) (.t 119) (.c (.bool false))),o 4 (.mv (.t 120))]) .ret)))))))))),[.tmp 4]⟩
theorem hc3:Y6 Tryz.prog {pure:=[6,4,5,7,8],how:=[(2,6)]} Tryz.f3=some c3:=by kernel_rfl
theorem hn3 : (Tryz.f3.name == "runtime.NumGoroutine") = false := by kernel_rfl
theorem topCopy_ok (hG:MaxOK G) (hF:∀ b,Flat (G b)) (d0:HDoc) (sm0:DocSm d0) (n:Int):PCalls (Pg G) 3 [.agg (J9 d0),Y0 n] (.bool true):=fun h=>by
 have hFe:PCalls (Pg G) 4 [.agg (J9 d0),.int .i64 40] (.agg (J9 ⟨d0.nodes.take 40,d0.quirks⟩)):=hFew_ok (G:=G) d0 40 sm0
 have sm:=sm0.few 40
 generalize (⟨d0.nodes.take 40,d0.quirks⟩:HDoc)=d at *
 have hB:=hBegun_ok hG hF
 have hCo:=copy_ok (G:=G) d sm n
 by_cases hE:W7 d n=0
 ·obtain ⟨V,hn,hn0,hlen⟩:=copyE_out hE
  have C:=cc_DV V hn hn0 hlen
  have smc:=ccT_sm V sm hn
  have eD:copyD d n=cc d n:=by unfold copyD;rw [if_pos hE];rfl
  have eN:copyN d n=d.nodes.length:=by unfold copyN;rw [if_pos hE]
  have z0:inD d 0:=⟨by omega,by have:=V.pos;omega⟩
  have hb:=TK V hn
  have ef:fi d n n=d.nodes.length:=by
   unfold fi
   have h1:=JQ (U2 V n hn) (j:=0) (List.length_pos_iff.2 (List.ne_nil_of_mem hb))
   rw [cp_first V hn] at h1
   rw [h1];omega
  have v1:htmlV d 0=(X6 d 0,0):=by unfold htmlV;rw [if_neg (by simpa using (YY _).2 V),if_neg (by simpa using z0)]
  have v2:htmlV (cc d n) 0=(X6 d 0,0):=by unfold htmlV;rw [if_neg (by simpa using (YY _).2 C),if_neg (by simpa using cc_in_old z0),cc_html_old V C 0 z0]
  have v3:htmlV d n=(X6 d n,0):=by unfold htmlV;rw [if_neg (by simpa using (YY _).2 V),if_neg (by simpa using hn)]
  have v4:htmlV (cc d n) d.nodes.length=(X6 (cc d n) (fi d n n),0):=by unfold htmlV;rw [if_neg (by simpa using (YY _).2 C),<-ef,if_neg (by simpa using cc_in_new V hn hb)]
  have h1:=html_ok hG d sm 0
  have h2:=html_ok hG (cc d n) smc 0
  have h3:=html_ok hG d sm n
  have h4:=html_ok hG (cc d n) smc d.nodes.length
  rw [v1] at h1;rw [v2] at h2;rw [v3] at h3;rw [v4] at h4
  rw [eD,eN,hE] at hCo
  have hraw:¬((nth d.nodes n.toNat).kind=3/\0<=(nth d.nodes n.toNat).parent/\rawM (nth d.nodes (nth d.nodes n.toNat).parent.toNat).name=1)->(X6 d n==X6 (cc d n) (fi d n n))=true:=fun q=>by
   rw [cc_html_new V hn C q n hn hb];simp
  have hR:=raw_ok (G:=G) (nth d.nodes (nth d.nodes n.toNat).parent.toNat).name
  have hpl:0<=(nth d.nodes n.toNat).parent->(nth d.nodes n.toNat).parent<(d.nodes.length:Int):=fun q=>(V.par_in hn q).1.2
  have h00:(X6 d 0==X6 d 0)=true:=by simp
  generalize X6 (cc d n) (fi d n n)=st at *
  generalize cc d n=c at *
  generalize X6 d 0=s0 at *
  generalize X6 d n=sn at *
  have nn:(nth d.nodes n.toNat)=nd d n:=rfl
  simp only [J9] at hFe hCo h1 h2 h3 h4
  have hlt:n<(d.nodes.length:Int):=hn.2
  have hge:0<=n:=hn.1
  refine Z4 Tryz.func3 hn3 hc3 (by rw [Tryz.ntmps3];simp) (by rw [Tryz.ntmps3];decide) ?_
  simp -dsimp -implicitDefEqProofs (disch:=omega) only [↓Q0 53,↓Q2 53,↓Q0 67,↓Q2 67,↓Q0 76,↓Q2 76,↓Q0 92,↓Q2 92,↓Q0 96,↓Q2 96,↓Q0 100,↓Q2 100,↓Q0 105,↓Q2 105,↓Q0 109,↓Q2 109,↓Q0 113,↓Q2 113,↓Q0 115,↓Q2 115,VCA,Z1,↓Q3,Nat.reduceEqDiff,Nat.reduceBEq,Nat.reduceAdd,Nat.reduceSub,Nat.reduceMul,Nat.reduceLT,Nat.reduceLeDiff,↓reduceIte,reduceCtorEq,Z3,Q6,SOp.rd,SI.rd,SX.rd,rdL,rdO,rdP,Q5,Q4,Q1,Q8,Q7,Z0,implies_true,forall_const,forall_eq,ne_eq,exists_eq_right_right,exists_eq_right,exists_eq_left,exists_eq_left',Q9,Z6,J9,Z7,c3,J9]
  intro r2 hr2
  repeat' (first | ((with_reducible refine brC (fun _=>?_) fun _=>?_) <;> try (exfalso;omega)) | (with_reducible apply pcallE.of; · exact hFe) | (with_reducible apply pcallE.of; · exact hCo) | (with_reducible refine And.intro ?_ ?_; · omega) | simp -dsimp -implicitDefEqProofs (disch:=omega) only [↓Q0 53,↓Q2 53,↓Q0 67,↓Q2 67,↓Q0 76,↓Q2 76,↓Q0 92,↓Q2 92,↓Q0 96,↓Q2 96,↓Q0 100,↓Q2 100,↓Q0 105,↓Q2 105,↓Q0 109,↓Q2 109,↓Q0 113,↓Q2 113,↓Q0 115,↓Q2 115,VCA,Z1,↓Q3,Nat.reduceEqDiff,Nat.reduceBEq,Nat.reduceAdd,Nat.reduceSub,Nat.reduceMul,Nat.reduceLT,Nat.reduceLeDiff,↓reduceIte,reduceCtorEq,Z3,Q6,SOp.rd,SI.rd,SX.rd,rdL,rdO,rdP,Q5,Q4,Q1,Q8,Q7,Z0,implies_true,forall_const,forall_eq,ne_eq,exists_eq_right_right,exists_eq_right,exists_eq_left,exists_eq_left',Q9,Z6,J9,Z7,Z9,J9])
  intro r5 hr5
  have m1:¬ r5=r2:=hr5.1
  have m2:¬ r2=r5:=fun e=>m1 e.symm
  have SS:∀ x y z u,Sim.Sub h (upd (upd (upd (upd h r2 (some x)) r5 (some y)) r2 (some z)) r5 (some u)):=fun x y z u=>((((Sub.refl h).upd hr2).upd hr5.2).upd hr2).upd hr5.2
  have S2:∀ x y,Sim.Sub h (upd (upd h r2 (some x)) r5 (some y)):=fun x y=>((Sub.refl h).upd hr2).upd hr5.2
  repeat' (first | ((with_reducible refine brC (fun _=>?_) fun _=>?_) <;> try (exfalso;omega)) | (with_reducible apply pcallE.of; · exact h1) | (with_reducible apply pcallE.of; · exact h2) | (with_reducible apply pcallE.of; · exact h3) | (with_reducible apply pcallE.of; · exact h4) | (with_reducible refine And.intro ?_ ?_; · omega) | simp -dsimp -implicitDefEqProofs (disch:=omega) only [↓Q0 53,↓Q2 53,↓Q0 67,↓Q2 67,↓Q0 76,↓Q2 76,↓Q0 92,↓Q2 92,↓Q0 96,↓Q2 96,↓Q0 100,↓Q2 100,↓Q0 105,↓Q2 105,↓Q0 109,↓Q2 109,↓Q0 113,↓Q2 113,↓Q0 115,↓Q2 115,VCA,Z1,↓Q3,Nat.reduceEqDiff,Nat.reduceBEq,Nat.reduceAdd,Nat.reduceSub,Nat.reduceMul,Nat.reduceLT,Nat.reduceLeDiff,↓reduceIte,reduceCtorEq,Z3,Q6,SOp.rd,SI.rd,SX.rd,rdL,rdO,rdP,Q5,Q4,Q1,Q8,Q7,Z0,implies_true,forall_const,forall_eq,ne_eq,exists_eq_right_right,exists_eq_right,exists_eq_left,exists_eq_left',Q9,Z6,J9,Z7,m1,m2,Z9,J9,Z6])
  ·rename_i k3 p0
   refine ⟨Y0 (rawM (nth d.nodes (nth d.nodes n.toNat).parent.toNat).name),?_⟩
   by_cases hw:rawM (nth d.nodes (nth d.nodes n.toNat).parent.toNat).name=1
   ·have hw':(rawM (nth d.nodes (nth d.nodes n.toNat).parent.toNat).name==1)=true:=by simp [hw]
    repeat' (first | ((with_reducible refine brC (fun _=>?_) fun _=>?_) <;> try (exfalso;omega)) | (with_reducible apply pcallE.of; · exact hR) | (with_reducible apply pcallE.of; · exact hB) | (with_reducible refine And.intro ?_ ?_; · omega) | simp -dsimp -implicitDefEqProofs (disch:=omega) only [↓Q0 53,↓Q2 53,↓Q0 67,↓Q2 67,↓Q0 76,↓Q2 76,↓Q0 92,↓Q2 92,↓Q0 96,↓Q2 96,↓Q0 100,↓Q2 100,↓Q0 105,↓Q2 105,↓Q0 109,↓Q2 109,↓Q0 113,↓Q2 113,↓Q0 115,↓Q2 115,VCA,Z1,↓Q3,Nat.reduceEqDiff,Nat.reduceBEq,Nat.reduceAdd,Nat.reduceSub,Nat.reduceMul,Nat.reduceLT,Nat.reduceLeDiff,↓reduceIte,reduceCtorEq,Z3,Q6,SOp.rd,SI.rd,SX.rd,rdL,rdO,rdP,Q5,Q4,Q1,Q8,Q7,Z0,implies_true,forall_const,forall_eq,ne_eq,exists_eq_right_right,exists_eq_right,exists_eq_left,exists_eq_left',Q9,Z6,J9,Z7,m1,m2,Z9,J9,Z6,hw',h00,hw])
    all_goals exact S2 _ _
   ·have hw':(rawM (nth d.nodes (nth d.nodes n.toNat).parent.toNat).name==1)=false:=by simp [hw]
    have e:=hraw fun q=>hw q.2.2
    repeat' (first | ((with_reducible refine brC (fun _=>?_) fun _=>?_) <;> try (exfalso;omega)) | (with_reducible apply pcallE.of; · exact hR) | (with_reducible apply pcallE.of; · exact hB) | (with_reducible refine And.intro ?_ ?_; · omega) | simp -dsimp -implicitDefEqProofs (disch:=omega) only [↓Q0 53,↓Q2 53,↓Q0 67,↓Q2 67,↓Q0 76,↓Q2 76,↓Q0 92,↓Q2 92,↓Q0 96,↓Q2 96,↓Q0 100,↓Q2 100,↓Q0 105,↓Q2 105,↓Q0 109,↓Q2 109,↓Q0 113,↓Q2 113,↓Q0 115,↓Q2 115,VCA,Z1,↓Q3,Nat.reduceEqDiff,Nat.reduceBEq,Nat.reduceAdd,Nat.reduceSub,Nat.reduceMul,Nat.reduceLT,Nat.reduceLeDiff,↓reduceIte,reduceCtorEq,Z3,Q6,SOp.rd,SI.rd,SX.rd,rdL,rdO,rdP,Q5,Q4,Q1,Q8,Q7,Z0,implies_true,forall_const,forall_eq,ne_eq,exists_eq_right_right,exists_eq_right,exists_eq_left,exists_eq_left',Q9,Z6,J9,Z7,m1,m2,Z9,J9,Z6,hw',h00,e,hw])
    all_goals exact S2 _ _
  ·rename_i k3 p0
   have e:=hraw fun q=>p0 q.2.1
   repeat' (first | ((with_reducible refine brC (fun _=>?_) fun _=>?_) <;> try (exfalso;omega)) | (with_reducible apply pcallE.of; · exact hB) | (with_reducible refine And.intro ?_ ?_; · omega) | simp -dsimp -implicitDefEqProofs (disch:=omega) only [↓Q0 53,↓Q2 53,↓Q0 67,↓Q2 67,↓Q0 76,↓Q2 76,↓Q0 92,↓Q2 92,↓Q0 96,↓Q2 96,↓Q0 100,↓Q2 100,↓Q0 105,↓Q2 105,↓Q0 109,↓Q2 109,↓Q0 113,↓Q2 113,↓Q0 115,↓Q2 115,VCA,Z1,↓Q3,Nat.reduceEqDiff,Nat.reduceBEq,Nat.reduceAdd,Nat.reduceSub,Nat.reduceMul,Nat.reduceLT,Nat.reduceLeDiff,↓reduceIte,reduceCtorEq,Z3,Q6,SOp.rd,SI.rd,SX.rd,rdL,rdO,rdP,Q5,Q4,Q1,Q8,Q7,Z0,implies_true,forall_const,forall_eq,ne_eq,exists_eq_right_right,exists_eq_right,exists_eq_left,exists_eq_left',Q9,Z6,J9,Z7,h00,e])
   all_goals exact S2 _ _
  ·rename_i k3
   have e:=hraw fun q=>k3 q.1
   repeat' (first | ((with_reducible refine brC (fun _=>?_) fun _=>?_) <;> try (exfalso;omega)) | (with_reducible apply pcallE.of; · exact hB) | (with_reducible refine And.intro ?_ ?_; · omega) | simp -dsimp -implicitDefEqProofs (disch:=omega) only [↓Q0 53,↓Q2 53,↓Q0 67,↓Q2 67,↓Q0 76,↓Q2 76,↓Q0 92,↓Q2 92,↓Q0 96,↓Q2 96,↓Q0 100,↓Q2 100,↓Q0 105,↓Q2 105,↓Q0 109,↓Q2 109,↓Q0 113,↓Q2 113,↓Q0 115,↓Q2 115,VCA,Z1,↓Q3,Nat.reduceEqDiff,Nat.reduceBEq,Nat.reduceAdd,Nat.reduceSub,Nat.reduceMul,Nat.reduceLT,Nat.reduceLeDiff,↓reduceIte,reduceCtorEq,Z3,Q6,SOp.rd,SI.rd,SX.rd,rdL,rdO,rdP,Q5,Q4,Q1,Q8,Q7,Z0,implies_true,forall_const,forall_eq,ne_eq,exists_eq_right_right,exists_eq_right,exists_eq_left,exists_eq_left',Q9,Z6,J9,Z7,h00,e])
   all_goals exact S2 _ _
 ·simp only [J9] at hFe hCo
  refine Z4 Tryz.func3 hn3 hc3 (by rw [Tryz.ntmps3];simp) (by rw [Tryz.ntmps3];decide) ?_
  simp -dsimp -implicitDefEqProofs (disch:=omega) only [↓Q0 53,↓Q2 53,↓Q0 67,↓Q2 67,↓Q0 76,↓Q2 76,↓Q0 92,↓Q2 92,↓Q0 96,↓Q2 96,↓Q0 100,↓Q2 100,↓Q0 105,↓Q2 105,↓Q0 109,↓Q2 109,↓Q0 113,↓Q2 113,↓Q0 115,↓Q2 115,VCA,Z1,↓Q3,Nat.reduceEqDiff,Nat.reduceBEq,Nat.reduceAdd,Nat.reduceSub,Nat.reduceMul,Nat.reduceLT,Nat.reduceLeDiff,↓reduceIte,reduceCtorEq,Z3,Q6,SOp.rd,SI.rd,SX.rd,rdL,rdO,rdP,Q5,Q4,Q1,Q8,Q7,Z0,implies_true,forall_const,forall_eq,ne_eq,exists_eq_right_right,exists_eq_right,exists_eq_left,exists_eq_left',Q9,Z6,J9,Z7,c3,J9]
  intro r2 hr2
  have hE':(W7 d n != 0)=true:=by simpa using hE
  repeat' (first | ((with_reducible refine brC (fun _=>?_) fun _=>?_) <;> try (exfalso;omega)) | (with_reducible apply pcallE.of; · exact hFe) | (with_reducible apply pcallE.of; · exact hCo) | (with_reducible refine And.intro ?_ ?_; · omega) | simp -dsimp -implicitDefEqProofs (disch:=omega) only [↓Q0 53,↓Q2 53,↓Q0 67,↓Q2 67,↓Q0 76,↓Q2 76,↓Q0 92,↓Q2 92,↓Q0 96,↓Q2 96,↓Q0 100,↓Q2 100,↓Q0 105,↓Q2 105,↓Q0 109,↓Q2 109,↓Q0 113,↓Q2 113,↓Q0 115,↓Q2 115,VCA,Z1,↓Q3,Nat.reduceEqDiff,Nat.reduceBEq,Nat.reduceAdd,Nat.reduceSub,Nat.reduceMul,Nat.reduceLT,Nat.reduceLeDiff,↓reduceIte,reduceCtorEq,Z3,Q6,SOp.rd,SI.rd,SX.rd,rdL,rdO,rdP,Q5,Q4,Q1,Q8,Q7,Z0,implies_true,forall_const,forall_eq,ne_eq,exists_eq_right_right,exists_eq_right,exists_eq_left,exists_eq_left',Q9,Z6,J9,Z7,Z9,J9])
  intro r5 hr5
  have S2:∀ x y,Sim.Sub h (upd (upd h r2 (some x)) r5 (some y)):=fun x y=>((Sub.refl h).upd hr2).upd hr5.2
  have S3:∀ x y z u,Sim.Sub h (upd (upd (upd (upd h r2 (some x)) r5 (some y)) r2 (some z)) r5 (some u)):=fun x y z u=>((((Sub.refl h).upd hr2).upd hr5.2).upd hr2).upd hr5.2
  repeat' (first | ((with_reducible refine brC (fun _=>?_) fun _=>?_) <;> try (exfalso;omega)) | (with_reducible apply pcallE.of; · exact hB) | (with_reducible refine And.intro ?_ ?_; · omega) | simp -dsimp -implicitDefEqProofs (disch:=omega) only [↓Q0 53,↓Q2 53,↓Q0 67,↓Q2 67,↓Q0 76,↓Q2 76,↓Q0 92,↓Q2 92,↓Q0 96,↓Q2 96,↓Q0 100,↓Q2 100,↓Q0 105,↓Q2 105,↓Q0 109,↓Q2 109,↓Q0 113,↓Q2 113,↓Q0 115,↓Q2 115,VCA,Z1,↓Q3,Nat.reduceEqDiff,Nat.reduceBEq,Nat.reduceAdd,Nat.reduceSub,Nat.reduceMul,Nat.reduceLT,Nat.reduceLeDiff,↓reduceIte,reduceCtorEq,Z3,Q6,SOp.rd,SI.rd,SX.rd,rdL,rdO,rdP,Q5,Q4,Q1,Q8,Q7,Z0,implies_true,forall_const,forall_eq,ne_eq,exists_eq_right_right,exists_eq_right,exists_eq_left,exists_eq_left',Q9,Z6,J9,Z7,hE'])
  all_goals first | exact S2 _ _ | exact ⟨S2 _ _,rfl⟩ | trace_state
end Go.Proofs.K
end
