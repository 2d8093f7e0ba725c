/- Texts of this claim, one behind the other. -/
import Derived.Test.YtbieeakcnechoaaGreatDoorM4
import Derived.Test.YtbieeakcnechoaaGreatDoorM3
import Derived.Shelf.Strings.Builder1
import Derived.Lib.RuneBytes
import Derived.Laws.BitsLemmas
import Derived.Lib.IndexMore
import Derived.Shelf.Strings.Replace
set_option maxHeartbeats 4000000
set_option maxRecDepth 100000
section
set_option linter.unusedSimpArgs false
set_option linter.unusedVariables false
namespace Go.Proofs.K
open Go Go.Sim Go.Proofs Go.Shelf
variable {G:U5}
def bren:Ren:=⟨fun | 240=>33 | 276=>46 | n=>n,fun | 37=>47 | 0=>0 | 4=>4 | 9=>9 | 20=>20 | 70=>46 | 72=>49 | 164=>100 | n=>n,fun n=>n⟩
theorem lays240:Lays.n240 Tryz.prog bren:={
 mixed:=by kernel_rfl
 f240:=Tryz.func33.trans (congrArg some (by kernel_rfl))
 f276:=Tryz.func46.trans (congrArg some (by kernel_rfl))
 t0:=Tryz.underlying0
 a0:=Tryz.isAgg0
 z0:=Tryz.sizeOf0
 v0:=Tryz.zeroValue0
 t4:=Tryz.underlying4
 a4:=Tryz.isAgg4
 z4:=Tryz.sizeOf4
 v4:=Tryz.zeroValue4
 t9:=Tryz.underlying9
 a9:=Tryz.isAgg9
 z9:=Tryz.sizeOf9
 v9:=Tryz.zeroValue9
 t20:=Tryz.underlying20
 a20:=Tryz.isAgg20
 z20:=Tryz.sizeOf20
 v20:=Tryz.zeroValue20
 t70:=Tryz.underlying46
 a70:=Tryz.isAgg46
 z70:=Tryz.sizeOf46
 v70:=Tryz.zeroValue46
 t72:=Tryz.underlying49
 a72:=Tryz.isAgg49
 z72:=Tryz.sizeOf49
 v72:=Tryz.zeroValue49
 t164:=Tryz.underlying100
 a164:=Tryz.isAgg100
 z164:=Tryz.sizeOf100
 v164:=Tryz.zeroValue100 }
theorem x72:Builder.X72 Tryz.prog bren:={
 sizeBuilder:=by kernel_rfl
 liesBuilder:=by kernel_rfl }
abbrev Tb:Nat:=49
abbrev Tu:Nat:=5
def BP (rb:Nat) (p:AVal):Prop:=p=.prim (.pointer none)\/p=.vp rb 0
theorem prim_inv {g:Ghost} {w:World} {u v:Value} (h:VRel g w u (.prim v)):u=v:=by cases h;rfl
theorem copyCheck_ok (rb:Nat) (h:Z2) (p buf:AVal) (hp:BP rb p) (hr:h rb=some ⟨Tb,2,[[p,buf]]⟩) {K:AVal->Z2->Prop} (hk:K (.tup []) (upd h rb (some ⟨Tb,2,[[.vp rb 0,buf]]⟩))) :
 DCalls (Pg G) 33 [.vp rb 0] h K:=by
 refine ⟨⟨_,Tryz.func33,by kernel_rfl,by kernel_rfl⟩,fun g w vs H GR V=>?_⟩
 obtain ⟨v,rfl,hv⟩:=V.one_inv
 obtain ⟨hlt,⟨hb,hc⟩,rfl⟩:=hv.vp_inv
 have O:=H.obj rb _ hr
 rcases O.block with h0 | ⟨hl,hf,cur,hcur,hsz,hcell⟩
 ·omega
 obtain ⟨lo,hi,hq,hlh⟩:=id hcur
 have hcs:cur.size=2:=by have h1:g.bo rb+g.cap rb*2=cur.size:=hsz;omega
 obtain ⟨u,hu,ho,hvu⟩:=hcell 0 0 _ p rfl rfl
 obtain ⟨u2,hu2,ho2,hvu2⟩:=hcell 0 1 _ buf rfl rfl
 simp only [hb] at hu hu2
 have hw0:w.cell? ⟨g.eta rb,0,none⟩=some u:=by
  rw [hcur.cell];exact hu
 rcases hp with rfl | rfl
 ·rw [prim_inv hvu] at hw0
  refine (Any.Builder_copyCheck_fresh lays240 x72 (g.eta rb) w hw0 ?_ ?_).mono ?_
  ·simp only [World.shape?,hq];show some (Tb,cur.size)=some (Tb,2);rw [hcs]
  ·simp [World.frozen?,hq];omega
  ·rintro e w' ⟨rfl,rfl⟩
   rw [setCell_eq_setRow w _ _ cur _ _ _ hq]
   obtain ⟨S,H'⟩:=root_write H hr hcur (by omega) (cur.setIfInBounds 0 (.pointer (some ⟨g.eta rb,0,none⟩))) (by simp) (es':=[[.vp rb 0,buf]]) (by simp) (by simp;omega) (fun i j e x he hx=>by
    cases i with
    | succ i=>simp at he
    | zero=>
      simp at he;subst he
      cases j with
      | zero=>simp at hx;subst hx;exact ⟨_,by simp [hb,hcs],rfl,.vp rb 0 hlt hb hc⟩
      | succ j=>
        cases j with
        | zero=>simp at hx;subst hx;exact ⟨u2,by simpa [hb] using hu2,ho2,hvu2⟩
        | succ j=>simp at hx)
   exact ⟨_,_,_,g,rfl,hk,H',.tup #[] [] rfl (fun j u a hu=>by simp at hu),S⟩
 ·obtain ⟨_,_,hu'⟩:=hvu.vp_inv
  rw [hu'] at hw0
  refine (Any.Builder_copyCheck_used lays240 x72 (g.eta rb) w hw0).mono ?_
  rintro e w' ⟨rfl,rfl⟩
  have:upd h rb (some ⟨Tb,2,[[.vp rb 0,buf]]⟩)=h:=upd_id hr
  rw [this] at hk
  exact ⟨_,_,h,g,rfl,hk,H,.tup #[] [] rfl (fun j u a hu=>by simp at hu),GS.refl g _⟩
def Bl (h0:Z2) (rb:Nat) (s:List UInt8) (h:Z2):Prop:=h0 rb=none /\ ∃ p buf,BP rb p/\(buf≠.emp->s≠[])/\Acc (upd h0 rb (some ⟨Tb,2,[[p,buf]]⟩)) Tu 1 (Y8 s) buf h/\Sub (upd h0 rb (some ⟨Tb,2,[[p,buf]]⟩)) h
theorem TX {h0 h:Z2} {rb ty sz:Nat} {x y:AObj} {cells:List (List AVal)} {a:AVal} (A:Acc (upd h0 rb (some x)) ty sz cells a h):Acc (upd h0 rb (some y)) ty sz cells a (upd h rb (some y)):=by
 rcases A with h | ⟨r,h1,h2,h3⟩
 ·exact .inl h
 ·have hne:r≠rb:=by rintro rfl;simp at h1
  refine .inr ⟨r,?_,?_,h3⟩
  ·unfold Sim.upd at h1 ⊢; simpa [hne] using h1
  ·unfold Sim.upd;simpa [hne] using h2
theorem sub_at {h0 h:Z2} {rb:Nat} {x y:AObj} (S:Sub (upd h0 rb (some x)) h):Sub (upd h0 rb (some y)) (upd h rb (some y)):=by
 intro t o ht
 by_cases hne:t=rb
 ·subst hne;simpa [Sim.upd] using ht
 ·have:=S t o (by simpa [Sim.upd,hne] using ht)
  simpa [Sim.upd,hne] using this
theorem QT {h0 h:Z2} {rb:Nat} {x:AObj} (S:Sub (upd h0 rb (some x)) h):h rb=some x:=S rb x (by simp [Sim.upd])
theorem sub_off {h0 h:Z2} {rb:Nat} {x:AObj} (h1:h0 rb=none) (S:Sub (upd h0 rb (some x)) h):Sub h0 h:=by
 intro t o ht
 have hne:t≠rb:=by rintro rfl;rw [h1] at ht;cases ht
 exact S t o (by simpa [Sim.upd,hne] using ht)
theorem Bl.new (h:Z2) (rb:Nat) (h0:h rb=none):Bl h rb [] (upd h rb (some ⟨Tb,2,[[.prim (.pointer none),.emp]]⟩)):=
 ⟨h0,_,_,.inl rfl,fun h=>absurd rfl h,Acc.nil,Sub.refl _⟩
def c44:SFun:=⟨.seq (.reg [o 4 (.mv (.c (.prim .nilIface)))]) (.seq (.reg [o 5 (.mv (.t 0)),o 6 (.call (.c (.fn 33 [] [])) [.t 5])]) (.seq (.reg [o 7 (.mv (.t 0)),o 8 (.mv (.t 0)),o 9 (.fldA 0 (.t 8)),o 10 (.fldA 1 (.t 9)),o 11 (.ld 1 false (.t 10)),o 12 (.mv (.t 1)),o 13 (.bldF 5 1 [.t 12]),o 14 (.app 5 1 1 (.t 11) (.t 13)),o 15 (.fldA 0 (.t 7)),o 16 (.fldA 1 (.t 15)),⟨none,.st 1 (.t 16) (.t 14),none⟩]) (.seq (.reg [o 4 (.mv (.c (.prim .nilIface)))]) .ret))),[.tmp 4]⟩
theorem hc44:Y6 Tryz.prog {} Tryz.f44=some c44:=by kernel_rfl
theorem writeByte_ok {h0 h:Z2} {rb:Nat} {s:List UInt8} (b:UInt8) (B:Bl h0 rb s h) (hs:s.length<140737488355328) :
 DCalls (Pg G) 44 [.vp rb 0,.int .u8 b.toNat] h fun a h'=>a=.prim .nilIface/\Bl h0 rb (s++[b]) h':=by
 obtain ⟨hn,p,buf,hp,hne,A,S⟩:=B
 refine Z4 Tryz.func44 (by kernel_rfl) hc44 (by rw [Tryz.ntmps44];simp) (by rw [Tryz.ntmps44];decide) ?_
 simp -dsimp -implicitDefEqProofs (disch:=omega) only [VCA,Z1,↓Q3,Nat.reduceEqDiff,Nat.reduceBEq,Nat.reduceAdd,Nat.reduceSub,Nat.reduceMul,Nat.reduceLT,Nat.reduceLeDiff,↓reduceIte,reduceCtorEq,Z3,Q6,SOp.rd,SI.rd,SX.rd,rdL,rdO,rdP,Q5,Q4,Q1,Q8,Q7,Z0,implies_true,forall_const,forall_eq,ne_eq,exists_eq_right_right,exists_eq_right,exists_eq_left,exists_eq_left',Q9,c44]
 refine copyCheck_ok rb h p buf hp (QT S) ?_
 simp -dsimp -implicitDefEqProofs (disch:=omega) only [VCA,Z1,↓Q3,Nat.reduceEqDiff,Nat.reduceBEq,Nat.reduceAdd,Nat.reduceSub,Nat.reduceMul,Nat.reduceLT,Nat.reduceLeDiff,↓reduceIte,reduceCtorEq,Z3,Q6,SOp.rd,SI.rd,SX.rd,rdL,rdO,rdP,Q5,Q4,Q1,Q8,Q7,Z0,implies_true,forall_const,forall_eq,ne_eq,exists_eq_right_right,exists_eq_right,exists_eq_left,exists_eq_left',Q9]
 refine (TX A).app (sub_at S) (by simp [Y8];omega) (by simp [Y8];omega) fun a' h3 A' S'=>?_
 obtain ⟨r,h1,h2,rfl⟩:=A'.pos (by simp)
 simp -dsimp -implicitDefEqProofs (disch:=omega) only [VCA,Z1,↓Q3,Nat.reduceEqDiff,Nat.reduceBEq,Nat.reduceAdd,Nat.reduceSub,Nat.reduceMul,Nat.reduceLT,Nat.reduceLeDiff,↓reduceIte,reduceCtorEq,Z3,Q6,SOp.rd,SI.rd,SX.rd,rdL,rdO,rdP,Q5,Q4,Q1,Q8,Q7,Z0,implies_true,forall_const,forall_eq,ne_eq,exists_eq_right_right,exists_eq_right,exists_eq_left,exists_eq_left',Q9,QT S']
 exact ⟨_,Sub.refl _,hn,_,_,.inr rfl,fun _=>by simp,by simpa [Y8] using TX A',sub_at S'⟩
def c24:SFun:=⟨.seq (.reg [o 4 (.mv (.c (.int .i64 0))),o 5 (.mv (.c (.prim .nilIface)))]) (.seq (.reg [o 6 (.mv (.t 0)),o 7 (.call (.c (.fn 33 [] [])) [.t 6])]) (.seq (.reg [o 8 (.mv (.t 0)),o 9 (.mv (.t 0)),o 10 (.fldA 0 (.t 9)),o 11 (.fldA 1 (.t 10)),o 12 (.ld 1 false (.t 11)),o 13 (.mv (.t 1)),o 14 (.appS 5 1 (.t 12) (.t 13)),o 15 (.fldA 0 (.t 8)),o 16 (.fldA 1 (.t 15)),⟨none,.st 1 (.t 16) (.t 14),none⟩]) (.seq (.reg [o 17 (.mv (.t 1)),o 18 (.lenS (.t 17)),o 4 (.mv (.t 18)),o 5 (.mv (.c (.prim .nilIface)))]) .ret))),[.tmp 4,.tmp 5]⟩
theorem hc24:Y6 Tryz.prog {} Tryz.f24=some c24:=by kernel_rfl
theorem hn24 : (Tryz.f24.name == "runtime.NumGoroutine") = false := by kernel_rfl
def c14:SFun:=⟨.seq (.reg [o 2 (.mv (.c (.str [])))]) (.seq (.dreg [(o 3 (.mv (.t 0)),none),(o 4 (.fldA 0 (.t 3)),none),(o 5 (.fldA 1 (.t 4)),none),(o 6 (.ld 1 false (.t 5)),none),(o 8 (.mv (.t 0)),none),(o 9 (.fldA 0 (.t 8)),none),(o 10 (.fldA 1 (.t 9)),none),(o 11 (.ld 1 false (.t 10)),none),(o 12 (.len (.t 11)),none),(o 7 (.usd (.t 6)),(some [6])),(o 13 (.ustr 5 (.t 7) (.t 12)),(some [6,11])),(o 2 (.mv (.t 13)),none)]) .ret),[.tmp 2]⟩
theorem hc14:Y6 Tryz.prog {} Tryz.f14=some c14:=by kernel_rfl
theorem hn14 : (Tryz.f14.name == "runtime.NumGoroutine") = false := by kernel_rfl
theorem string_ok {h0 h:Z2} {rb:Nat} {s:List UInt8} (B:Bl h0 rb s h) (hs:s.length<140737488355328) :
 DCalls (Pg G) 14 [.vp rb 0] h fun a h'=>a=.str s/\Sub h0 h':=by
 obtain ⟨hn,p,buf,hp,hne,A,S⟩:=B
 refine Z4 Tryz.func14 hn14 hc14 (by rw [Tryz.ntmps14];simp) (by rw [Tryz.ntmps14];decide) ?_
 rcases A with ⟨he,rfl⟩ | ⟨r,h1,h2,rfl⟩
 ·have hs0:s=[]:=by simpa [Y8] using he
  subst hs0
  simp -dsimp -implicitDefEqProofs (disch:=omega) only [VCA,Z1,↓Q3,Nat.reduceEqDiff,Nat.reduceBEq,Nat.reduceAdd,Nat.reduceSub,Nat.reduceMul,Nat.reduceLT,Nat.reduceLeDiff,↓reduceIte,reduceCtorEq,Z3,Q6,SOp.rd,SI.rd,SX.rd,rdL,rdO,rdP,Q5,Q4,Q1,Q8,Q7,Z0,implies_true,forall_const,forall_eq,ne_eq,exists_eq_right_right,exists_eq_right,exists_eq_left,exists_eq_left',Q9,c14,QT S]
  exact ⟨_,Sub.refl _,sub_off hn S⟩
 ·have hs1:s≠[]:=hne (by intro h;cases h)
  have hs2:0<s.length:=List.length_pos_iff.2 hs1
  have h1':h0 r=none/\r≠rb:=by
   have hne:r≠rb:=by rintro rfl;simp at h1
   exact ⟨by simpa [Sim.upd,hne] using h1,hne⟩
  simp -dsimp -implicitDefEqProofs (disch:=omega) only [VCA,Z1,↓Q3,Nat.reduceEqDiff,Nat.reduceBEq,Nat.reduceAdd,Nat.reduceSub,Nat.reduceMul,Nat.reduceLT,Nat.reduceLeDiff,↓reduceIte,reduceCtorEq,Z3,Q6,SOp.rd,SI.rd,SX.rd,rdL,rdO,rdP,Q5,Q4,Q1,Q8,Q7,Z0,implies_true,forall_const,forall_eq,ne_eq,exists_eq_right_right,exists_eq_right,exists_eq_left,exists_eq_left',Q9,c14,QT S]
  have hl:(Y8 s).length=s.length:=by simp [Y8]
  refine ⟨by omega,s,_,h2,rfl,rfl,by simp [Y8],List.take_of_length_le (by simp [Y8]),by simp [Y8],hs1,by omega,?_⟩
  simp -dsimp -implicitDefEqProofs (disch:=omega) only [VCA,Z1,↓Q3,Nat.reduceEqDiff,Nat.reduceBEq,Nat.reduceAdd,Nat.reduceSub,Nat.reduceMul,Nat.reduceLT,Nat.reduceLeDiff,↓reduceIte,reduceCtorEq,Z3,Q6,SOp.rd,SI.rd,SX.rd,rdL,rdO,rdP,Q5,Q4,Q1,Q8,Q7,Z0,implies_true,forall_const,forall_eq,ne_eq,exists_eq_right_right,exists_eq_right,exists_eq_left,exists_eq_left',Q9,QT S]
  first
   | exact ⟨_,Sub.refl _,Sub.del (sub_off hn S) h1'.1⟩
   | (refine ⟨?_,_,Sub.refl _,Sub.del (sub_off hn S) h1'.1⟩;rw [<-QT S];simp [Sim.del,Ne.symm h1'.2])
theorem UX {r:Int} (h0:0<=r) (h2:r<=2147483647):IntKind.u32.wrap r=r:=by
 simp [IntKind.wrap,IntKind.bits,IntKind.signed];omega
theorem u32_neg {r:Int} (h0:r<0) (h1:-2147483648<=r):IntKind.u32.wrap r=r+4294967296:=by
 simp [IntKind.wrap,IntKind.bits,IntKind.signed];omega
theorem YU (r:Int):Y8 (Lib.encodeRune r)=(Lib.encodeRuneZ r).map fun x=>[.int .u8 x]:=by
 have h:=Lib.encodeRuneZ_byte r
 simp only [Y8,Lib.encodeRune,List.map_map]
 refine List.map_congr_left fun x hx=>?_
 obtain ⟨h0,h1⟩:=h x hx
 simp only [Function.comp,List.cons.injEq,AVal.int.injEq,and_true,true_and]
 have:x.toNat.toUInt8.toNat=x.toNat:=by simp;omega
 rw [this];omega
theorem f128 (x:Int):QK .or .u8 128 (QK .and .u8 (IntKind.u8.wrap x) 63)=128+x % 64:=by
 rw [IntKind.wrap_u8]
 have h1:QK .and .u8 (x % 256) 63=x % 256 % 64:=u8_and63 _ (by omega) (by omega)
 have h2:QK .or .u8 128 (x % 256 % 64)=128+x % 256 % 64:=u8_or128 _ (by omega) (by omega)
 rw [h1,h2];omega
theorem f192 {x:Int} (h0:0<=x) (h1:x<32):QK .or .u8 192 (IntKind.u8.wrap x)=192+x:=by
 rw [IntKind.wrap_u8,Int.emod_eq_of_lt h0 (by omega)];exact u8_or192 _ h0 h1
theorem f224 {x:Int} (h0:0<=x) (h1:x<16):QK .or .u8 224 (IntKind.u8.wrap x)=224+x:=by
 rw [IntKind.wrap_u8,Int.emod_eq_of_lt h0 (by omega)];exact u8_or224 _ h0 h1
theorem f240 {x:Int} (h0:0<=x) (h1:x<8):QK .or .u8 240 (IntKind.u8.wrap x)=240+x:=by
 rw [IntKind.wrap_u8,Int.emod_eq_of_lt h0 (by omega)];exact u8_or240 _ h0 h1
theorem fd6 (x:Int):x.fdiv 64=x / 64:=Int.fdiv_eq_ediv_of_nonneg _ (by omega)
theorem fd12 (x:Int):x.fdiv 4096=x / 4096:=Int.fdiv_eq_ediv_of_nonneg _ (by omega)
theorem fd18 (x:Int):x.fdiv 262144=x / 262144:=Int.fdiv_eq_ediv_of_nonneg _ (by omega)
def c83:SFun:=⟨.seq (.reg [o 4 (.mv (.c .emp))]) (.seq (.reg [o 6 (.mv (.t 1)),o 7 (.cvi .u32 (.t 6)),o 5 (.mv (.t 7))]) (.block 0 (.seq (.reg [o 12 (.mv (.t 5)),o 13 (.bin .leq (.t 12) (.c (.int .u32 2047))),o 11 (.mv (.t 13))]) (.cond (.t 11) (.seq (.reg [o 14 (.mv (.t 0)),o 15 (.mv (.t 1)),o 16 (.bin .shr (.t 15) (.c (.int .u64 6))),o 17 (.cvi .u8 (.t 16)),o 18 (.bin .or (.c (.int .u8 192)) (.t 17)),o 19 (.mv (.t 1)),o 20 (.cvi .u8 (.t 19)),o 21 (.bin .and (.t 20) (.c (.int .u8 63))),o 22 (.bin .or (.c (.int .u8 128)) (.t 21)),o 23 (.bldF 5 1 [.t 18,.t 22]),o 24 (.app 5 1 1 (.t 14) (.t 23)),o 4 (.mv (.t 24))]) .ret) (.seq (.seq (.reg [o 26 (.mv (.t 5)),o 27 (.bin .lss (.t 26) (.c (.int .u32 55296))),o 25 (.mv (.t 27))]) (.cond (.t 25) .skip (.reg [o 28 (.mv (.t 5)),o 29 (.bin .lss (.c (.int .u32 57343)) (.t 28)),o 30 (.mv (.t 29)),⟨some 31,.mv (.t 5),some (30,true)⟩,⟨some 32,.bin .leq (.t 31) (.c (.int .u32 65535)),some (30,true)⟩,o 33 (.pick (.t 30) (.t 32) (.c (.bool false))),o 25 (.mv (.t 33))]))) (.cond (.t 25) (.seq (.reg [o 34 (.mv (.t 0)),o 35 (.mv (.t 1)),o 36 (.bin .shr (.t 35) (.c (.int .u64 12))),o 37 (.cvi .u8 (.t 36)),o 38 (.bin .or (.c (.int .u8 224)) (.t 37)),o 39 (.mv (.t 1)),o 40 (.bin .shr (.t 39) (.c (.int .u64 6))),o 41 (.cvi .u8 (.t 40)),o 42 (.bin .and (.t 41) (.c (.int .u8 63))),o 43 (.bin .or (.c (.int .u8 128)) (.t 42)),o 44 (.mv (.t 1)),o 45 (.cvi .u8 (.t 44)),o 46 (.bin .and (.t 45) (.c (.int .u8 63))),o 47 (.bin .or (.c (.int .u8 128)) (.t 46)),o 48 (.bldF 5 1 [.t 38,.t 43,.t 47]),o 49 (.app 5 1 1 (.t 34) (.t 48)),o 4 (.mv (.t 49))]) .ret) (.seq (.reg [o 51 (.mv (.t 5)),o 52 (.bin .gtr (.t 51) (.c (.int .u32 65535))),o 53 (.mv (.t 52)),⟨some 54,.mv (.t 5),some (53,true)⟩,⟨some 55,.bin .leq (.t 54) (.c (.int .u32 1114111)),some (53,true)⟩,o 56 (.pick (.t 53) (.t 55) (.c (.bool false))),o 50 (.mv (.t 56))]) (.cond (.t 50) (.seq (.reg [o 57 (.mv (.t 0)),o 58 (.mv (.t 1)),o 59 (.bin .shr (.t 58) (.c (.int .u64 18))),o 60 (.cvi .u8 (.t 59)),o 61 (.bin .or (.c (.int .u8 240)) (.t 60)),o 62 (.mv (.t 1)),o 63 (.bin .shr (.t 62) (.c (.int .u64 12))),o 64 (.cvi .u8 (.t 63)),o 65 (.bin .and (.t 64) (.c (.int .u8 63))),o 66 (.bin .or (.c (.int .u8 128)) (.t 65)),o 67 (.mv (.t 1)),o 68 (.bin .shr (.t 67) (.c (.int .u64 6))),o 69 (.cvi .u8 (.t 68)),o 70 (.bin .and (.t 69) (.c (.int .u8 63))),o 71 (.bin .or (.c (.int .u8 128)) (.t 70)),o 72 (.mv (.t 1)),o 73 (.cvi .u8 (.t 72)),o 74 (.bin .and (.t 73) (.c (.int .u8 63))),o 75 (.bin .or (.c (.int .u8 128)) (.t 74)),o 76 (.bldF 5 1 [.t 61,.t 66,.t 71,.t 75]),o 77 (.app 5 1 1 (.t 57) (.t 76)),o 4 (.mv (.t 77))]) .ret) (.seq (.reg [o 8 (.mv (.t 0)),o 9 (.bldF 5 1 [.c (.int .u8 239),.c (.int .u8 191),.c (.int .u8 189)]),o 10 (.app 5 1 1 (.t 8) (.t 9)),o 4 (.mv (.t 10))]) .ret))))))))),[.tmp 4]⟩
theorem hc83:Y6 Tryz.prog {} Tryz.f83=some c83:=by kernel_rfl
theorem appNon_ok {h0 h:Z2} {cells:List (List AVal)} {a:AVal} (r:Int) (A:Acc h0 Tu 1 cells a h) (S:Sub h0 h) (hr:r<0\/127<r) (h1:-2147483648<=r) (h2:r<=2147483647) (hs:cells.length+4<=140737488355328) :
 DCalls (Pg G) 83 [a,.int .i32 r] h fun a' h'=>Acc h0 Tu 1 (cells++Y8 (Lib.encodeRune r)) a' h'/\Sub h0 h':=by
 refine Z4 Tryz.func83 (by kernel_rfl) hc83 (by rw [Tryz.ntmps83];simp) (by rw [Tryz.ntmps83];decide) ?_
 have e6:(2:Int) ^ (min 6 IntKind.i32.bits)=64:=rfl
 have e12:(2:Int) ^ (min 12 IntKind.i32.bits)=4096:=rfl
 have e18:(2:Int) ^ (min 18 IntKind.i32.bits)=262144:=rfl
 rcases (by omega:r<0\/(128<=r/\r<=2047)\/(2048<=r/\r<55296)\/(55296<=r/\r<=57343)\/(57343<r/\r<=65535)\/(65536<=r/\r<=1114111)\/1114111<r) with hc | hc | hc | hc | hc | hc | hc
 ·have hw:IntKind.u32.wrap r=r+4294967296:=u32_neg (by omega) h1
  have d1:decide ((r+4294967296)<=2047)=false:=by simp;omega
  have d2:decide ((r+4294967296)<55296)=false:=by simp;omega
  have d3:decide (57343<(r+4294967296))=true:=by simp;omega
  have d4:decide ((r+4294967296)<=65535)=false:=by simp;omega
  have d5:decide (65535<(r+4294967296))=true:=by simp;omega
  have d6:decide ((r+4294967296)<=1114111)=false:=by simp;omega
  simp -dsimp -implicitDefEqProofs (disch:=omega) only [↓Q0 30,↓Q2 30,↓Q0 53,↓Q2 53,VCA,Z1,↓Q3,Nat.reduceEqDiff,Nat.reduceBEq,Nat.reduceAdd,Nat.reduceSub,Nat.reduceMul,Nat.reduceLT,Nat.reduceLeDiff,↓reduceIte,reduceCtorEq,Z3,Q6,SOp.rd,SI.rd,SX.rd,rdL,rdO,rdP,Q5,Q4,Q1,Q8,Q7,Z0,implies_true,forall_const,forall_eq,ne_eq,exists_eq_right_right,exists_eq_right,exists_eq_left,exists_eq_left',Q9,c83,hw,d1,d2,d3,d4,d5,d6]
  refine ⟨_,⟨rfl,by intro e he;rcases he with rfl | rfl | rfl <;> rfl⟩,?_⟩
  refine A.app S (by simp;omega) (by simp;omega) fun a' h3 A' S'=>?_
  simp -dsimp -implicitDefEqProofs (disch:=omega) only [↓Q0 30,↓Q2 30,↓Q0 53,↓Q2 53,VCA,Z1,↓Q3,Nat.reduceEqDiff,Nat.reduceBEq,Nat.reduceAdd,Nat.reduceSub,Nat.reduceMul,Nat.reduceLT,Nat.reduceLeDiff,↓reduceIte,reduceCtorEq,Z3,Q6,SOp.rd,SI.rd,SX.rd,rdL,rdO,rdP,Q5,Q4,Q1,Q8,Q7,Z0,implies_true,forall_const,forall_eq,ne_eq,exists_eq_right_right,exists_eq_right,exists_eq_left,exists_eq_left',Q9,hw,d1,d2,d3,d4,d5,d6]
  refine ⟨_,Sub.refl _,?_,S'⟩
  rw [YU,Lib.encodeRuneZ_bad (.inl hc)]
  simpa using A'
 ·have hw:IntKind.u32.wrap r=r:=UX (by omega) h2
  have d1:decide (r<=2047)=true:=by simp;omega
  simp -dsimp -implicitDefEqProofs (disch:=omega) only [↓Q0 30,↓Q2 30,↓Q0 53,↓Q2 53,VCA,Z1,↓Q3,Nat.reduceEqDiff,Nat.reduceBEq,Nat.reduceAdd,Nat.reduceSub,Nat.reduceMul,Nat.reduceLT,Nat.reduceLeDiff,↓reduceIte,reduceCtorEq,Z3,Q6,SOp.rd,SI.rd,SX.rd,rdL,rdO,rdP,Q5,Q4,Q1,Q8,Q7,Z0,implies_true,forall_const,forall_eq,ne_eq,exists_eq_right_right,exists_eq_right,exists_eq_left,exists_eq_left',Q9,c83,hw,d1]
  refine ⟨by omega,_,⟨rfl,by intro e he;simp at he;rcases he with rfl | rfl <;> rfl⟩,?_⟩
  refine A.app S (by simp;omega) (by simp;omega) fun a' h3 A' S'=>?_
  simp -dsimp -implicitDefEqProofs (disch:=omega) only [↓Q0 30,↓Q2 30,↓Q0 53,↓Q2 53,VCA,Z1,↓Q3,Nat.reduceEqDiff,Nat.reduceBEq,Nat.reduceAdd,Nat.reduceSub,Nat.reduceMul,Nat.reduceLT,Nat.reduceLeDiff,↓reduceIte,reduceCtorEq,Z3,Q6,SOp.rd,SI.rd,SX.rd,rdL,rdO,rdP,Q5,Q4,Q1,Q8,Q7,Z0,implies_true,forall_const,forall_eq,ne_eq,exists_eq_right_right,exists_eq_right,exists_eq_left,exists_eq_left',Q9,hw,d1]
  refine ⟨_,Sub.refl _,?_,S'⟩
  rw [YU,Lib.encodeRuneZ_two hc.1 hc.2]
  simp only [f128] at A'
  simpa [fd6,fd12,fd18,e6,e12,e18,f192 (x:=r / 64) (by omega) (by omega)] using A'
 ·have hw:IntKind.u32.wrap r=r:=UX (by omega) h2
  have d1:decide (r<=2047)=false:=by simp;omega
  have d2:decide (r<55296)=true:=by simp;omega
  simp -dsimp -implicitDefEqProofs (disch:=omega) only [↓Q0 30,↓Q2 30,↓Q0 53,↓Q2 53,VCA,Z1,↓Q3,Nat.reduceEqDiff,Nat.reduceBEq,Nat.reduceAdd,Nat.reduceSub,Nat.reduceMul,Nat.reduceLT,Nat.reduceLeDiff,↓reduceIte,reduceCtorEq,Z3,Q6,SOp.rd,SI.rd,SX.rd,rdL,rdO,rdP,Q5,Q4,Q1,Q8,Q7,Z0,implies_true,forall_const,forall_eq,ne_eq,exists_eq_right_right,exists_eq_right,exists_eq_left,exists_eq_left',Q9,c83,hw,d1,d2]
  refine ⟨by omega,by omega,_,⟨rfl,by intro e he;simp at he;rcases he with rfl | rfl | rfl <;> rfl⟩,?_⟩
  refine A.app S (by simp;omega) (by simp;omega) fun a' h3 A' S'=>?_
  simp -dsimp -implicitDefEqProofs (disch:=omega) only [↓Q0 30,↓Q2 30,↓Q0 53,↓Q2 53,VCA,Z1,↓Q3,Nat.reduceEqDiff,Nat.reduceBEq,Nat.reduceAdd,Nat.reduceSub,Nat.reduceMul,Nat.reduceLT,Nat.reduceLeDiff,↓reduceIte,reduceCtorEq,Z3,Q6,SOp.rd,SI.rd,SX.rd,rdL,rdO,rdP,Q5,Q4,Q1,Q8,Q7,Z0,implies_true,forall_const,forall_eq,ne_eq,exists_eq_right_right,exists_eq_right,exists_eq_left,exists_eq_left',Q9,hw,d1,d2]
  refine ⟨_,Sub.refl _,?_,S'⟩
  rw [YU,Lib.encodeRuneZ_three (.inl hc)]
  simp only [f128] at A'
  simpa [fd6,fd12,fd18,e6,e12,e18,f224 (x:=r / 4096) (by omega) (by omega)] using A'
 ·have hw:IntKind.u32.wrap r=r:=UX (by omega) h2
  have d1:decide (r<=2047)=false:=by simp;omega
  have d2:decide (r<55296)=false:=by simp;omega
  have d3:decide (57343<r)=false:=by simp;omega
  have d4:decide (r<=65535)=true:=by simp;omega
  have d5:decide (65535<r)=false:=by simp;omega
  simp -dsimp -implicitDefEqProofs (disch:=omega) only [↓Q0 30,↓Q2 30,↓Q0 53,↓Q2 53,VCA,Z1,↓Q3,Nat.reduceEqDiff,Nat.reduceBEq,Nat.reduceAdd,Nat.reduceSub,Nat.reduceMul,Nat.reduceLT,Nat.reduceLeDiff,↓reduceIte,reduceCtorEq,Z3,Q6,SOp.rd,SI.rd,SX.rd,rdL,rdO,rdP,Q5,Q4,Q1,Q8,Q7,Z0,implies_true,forall_const,forall_eq,ne_eq,exists_eq_right_right,exists_eq_right,exists_eq_left,exists_eq_left',Q9,c83,hw,d1,d2,d3,d4,d5]
  refine ⟨_,⟨rfl,by intro e he;rcases he with rfl | rfl | rfl <;> rfl⟩,?_⟩
  refine A.app S (by simp;omega) (by simp;omega) fun a' h3 A' S'=>?_
  simp -dsimp -implicitDefEqProofs (disch:=omega) only [↓Q0 30,↓Q2 30,↓Q0 53,↓Q2 53,VCA,Z1,↓Q3,Nat.reduceEqDiff,Nat.reduceBEq,Nat.reduceAdd,Nat.reduceSub,Nat.reduceMul,Nat.reduceLT,Nat.reduceLeDiff,↓reduceIte,reduceCtorEq,Z3,Q6,SOp.rd,SI.rd,SX.rd,rdL,rdO,rdP,Q5,Q4,Q1,Q8,Q7,Z0,implies_true,forall_const,forall_eq,ne_eq,exists_eq_right_right,exists_eq_right,exists_eq_left,exists_eq_left',Q9,hw,d1,d2,d3,d4,d5]
  refine ⟨_,Sub.refl _,?_,S'⟩
  rw [YU,Lib.encodeRuneZ_bad (.inr (.inl hc))]
  simpa using A'
 ·have hw:IntKind.u32.wrap r=r:=UX (by omega) h2
  have d1:decide (r<=2047)=false:=by simp;omega
  have d2:decide (r<55296)=false:=by simp;omega
  have d3:decide (57343<r)=true:=by simp;omega
  have d4:decide (r<=65535)=true:=by simp;omega
  simp -dsimp -implicitDefEqProofs (disch:=omega) only [↓Q0 30,↓Q2 30,↓Q0 53,↓Q2 53,VCA,Z1,↓Q3,Nat.reduceEqDiff,Nat.reduceBEq,Nat.reduceAdd,Nat.reduceSub,Nat.reduceMul,Nat.reduceLT,Nat.reduceLeDiff,↓reduceIte,reduceCtorEq,Z3,Q6,SOp.rd,SI.rd,SX.rd,rdL,rdO,rdP,Q5,Q4,Q1,Q8,Q7,Z0,implies_true,forall_const,forall_eq,ne_eq,exists_eq_right_right,exists_eq_right,exists_eq_left,exists_eq_left',Q9,c83,hw,d1,d2,d3,d4]
  refine ⟨by omega,by omega,_,⟨rfl,by intro e he;simp at he;rcases he with rfl | rfl | rfl <;> rfl⟩,?_⟩
  refine A.app S (by simp;omega) (by simp;omega) fun a' h3 A' S'=>?_
  simp -dsimp -implicitDefEqProofs (disch:=omega) only [↓Q0 30,↓Q2 30,↓Q0 53,↓Q2 53,VCA,Z1,↓Q3,Nat.reduceEqDiff,Nat.reduceBEq,Nat.reduceAdd,Nat.reduceSub,Nat.reduceMul,Nat.reduceLT,Nat.reduceLeDiff,↓reduceIte,reduceCtorEq,Z3,Q6,SOp.rd,SI.rd,SX.rd,rdL,rdO,rdP,Q5,Q4,Q1,Q8,Q7,Z0,implies_true,forall_const,forall_eq,ne_eq,exists_eq_right_right,exists_eq_right,exists_eq_left,exists_eq_left',Q9,hw,d1,d2,d3,d4]
  refine ⟨_,Sub.refl _,?_,S'⟩
  rw [YU,Lib.encodeRuneZ_three (.inr hc)]
  simp only [f128] at A'
  simpa [fd6,fd12,fd18,e6,e12,e18,f224 (x:=r / 4096) (by omega) (by omega)] using A'
 ·have hw:IntKind.u32.wrap r=r:=UX (by omega) h2
  have d1:decide (r<=2047)=false:=by simp;omega
  have d2:decide (r<55296)=false:=by simp;omega
  have d3:decide (57343<r)=true:=by simp;omega
  have d4:decide (r<=65535)=false:=by simp;omega
  have d5:decide (65535<r)=true:=by simp;omega
  have d6:decide (r<=1114111)=true:=by simp;omega
  simp -dsimp -implicitDefEqProofs (disch:=omega) only [↓Q0 30,↓Q2 30,↓Q0 53,↓Q2 53,VCA,Z1,↓Q3,Nat.reduceEqDiff,Nat.reduceBEq,Nat.reduceAdd,Nat.reduceSub,Nat.reduceMul,Nat.reduceLT,Nat.reduceLeDiff,↓reduceIte,reduceCtorEq,Z3,Q6,SOp.rd,SI.rd,SX.rd,rdL,rdO,rdP,Q5,Q4,Q1,Q8,Q7,Z0,implies_true,forall_const,forall_eq,ne_eq,exists_eq_right_right,exists_eq_right,exists_eq_left,exists_eq_left',Q9,c83,hw,d1,d2,d3,d4,d5,d6]
  refine ⟨by omega,by omega,by omega,_,⟨rfl,by intro e he;simp at he;rcases he with rfl | rfl | rfl | rfl <;> rfl⟩,?_⟩
  refine A.app S (by simp;omega) (by simp;omega) fun a' h3 A' S'=>?_
  simp -dsimp -implicitDefEqProofs (disch:=omega) only [↓Q0 30,↓Q2 30,↓Q0 53,↓Q2 53,VCA,Z1,↓Q3,Nat.reduceEqDiff,Nat.reduceBEq,Nat.reduceAdd,Nat.reduceSub,Nat.reduceMul,Nat.reduceLT,Nat.reduceLeDiff,↓reduceIte,reduceCtorEq,Z3,Q6,SOp.rd,SI.rd,SX.rd,rdL,rdO,rdP,Q5,Q4,Q1,Q8,Q7,Z0,implies_true,forall_const,forall_eq,ne_eq,exists_eq_right_right,exists_eq_right,exists_eq_left,exists_eq_left',Q9,hw,d1,d2,d3,d4,d5,d6]
  refine ⟨_,Sub.refl _,?_,S'⟩
  rw [YU,Lib.encodeRuneZ_four hc.1 hc.2]
  simp only [f128] at A'
  simpa [fd6,fd12,fd18,e6,e12,e18,f240 (x:=r / 262144) (by omega) (by omega)] using A'
 ·have hw:IntKind.u32.wrap r=r:=UX (by omega) h2
  have d1:decide (r<=2047)=false:=by simp;omega
  have d2:decide (r<55296)=false:=by simp;omega
  have d3:decide (57343<r)=true:=by simp;omega
  have d4:decide (r<=65535)=false:=by simp;omega
  have d5:decide (65535<r)=true:=by simp;omega
  have d6:decide (r<=1114111)=false:=by simp;omega
  simp -dsimp -implicitDefEqProofs (disch:=omega) only [↓Q0 30,↓Q2 30,↓Q0 53,↓Q2 53,VCA,Z1,↓Q3,Nat.reduceEqDiff,Nat.reduceBEq,Nat.reduceAdd,Nat.reduceSub,Nat.reduceMul,Nat.reduceLT,Nat.reduceLeDiff,↓reduceIte,reduceCtorEq,Z3,Q6,SOp.rd,SI.rd,SX.rd,rdL,rdO,rdP,Q5,Q4,Q1,Q8,Q7,Z0,implies_true,forall_const,forall_eq,ne_eq,exists_eq_right_right,exists_eq_right,exists_eq_left,exists_eq_left',Q9,c83,hw,d1,d2,d3,d4,d5,d6]
  refine ⟨_,⟨rfl,by intro e he;rcases he with rfl | rfl | rfl <;> rfl⟩,?_⟩
  refine A.app S (by simp;omega) (by simp;omega) fun a' h3 A' S'=>?_
  simp -dsimp -implicitDefEqProofs (disch:=omega) only [↓Q0 30,↓Q2 30,↓Q0 53,↓Q2 53,VCA,Z1,↓Q3,Nat.reduceEqDiff,Nat.reduceBEq,Nat.reduceAdd,Nat.reduceSub,Nat.reduceMul,Nat.reduceLT,Nat.reduceLeDiff,↓reduceIte,reduceCtorEq,Z3,Q6,SOp.rd,SI.rd,SX.rd,rdL,rdO,rdP,Q5,Q4,Q1,Q8,Q7,Z0,implies_true,forall_const,forall_eq,ne_eq,exists_eq_right_right,exists_eq_right,exists_eq_left,exists_eq_left',Q9,hw,d1,d2,d3,d4,d5,d6]
  refine ⟨_,Sub.refl _,?_,S'⟩
  rw [YU,Lib.encodeRuneZ_bad (.inr (.inr hc))]
  simpa using A'
def c61:SFun:=⟨.seq (.reg [o 4 (.mv (.c .emp))]) (.seq (.seq (.reg [o 5 (.mv (.t 1)),o 6 (.cvi .u32 (.t 5)),o 7 (.bin .leq (.t 6) (.c (.int .u32 127)))]) (.cond (.t 7) (.seq (.reg [o 8 (.mv (.t 0)),o 9 (.mv (.t 1)),o 10 (.cvi .u8 (.t 9)),o 11 (.bldF 5 1 [.t 10]),o 12 (.app 5 1 1 (.t 8) (.t 11)),o 4 (.mv (.t 12))]) .ret) .skip)) (.seq (.reg [o 13 (.mv (.t 0)),o 14 (.mv (.t 1)),o 15 (.call (.c (.fn 83 [] [])) [.t 13,.t 14]),o 4 (.mv (.t 15))]) .ret)),[.tmp 4]⟩
theorem hc61:Y6 Tryz.prog {} Tryz.f61=some c61:=by kernel_rfl
theorem appRune_ok {h0 h:Z2} {cells:List (List AVal)} {a:AVal} (r:Int) (A:Acc h0 Tu 1 cells a h) (S:Sub h0 h) (h1:-2147483648<=r) (h2:r<=2147483647) (hs:cells.length+4<=140737488355328) :
 DCalls (Pg G) 61 [a,.int .i32 r] h fun a' h'=>Acc h0 Tu 1 (cells++Y8 (Lib.encodeRune r)) a' h'/\Sub h0 h':=by
 refine Z4 Tryz.func61 (by kernel_rfl) hc61 (by rw [Tryz.ntmps61];simp) (by rw [Tryz.ntmps61];decide) ?_
 by_cases hc:0<=r/\r<=127
 ·have hw:=UX hc.1 h2
  have d1:decide (r<=127)=true:=by simp;omega
  simp -dsimp -implicitDefEqProofs (disch:=omega) only [VCA,Z1,↓Q3,Nat.reduceEqDiff,Nat.reduceBEq,Nat.reduceAdd,Nat.reduceSub,Nat.reduceMul,Nat.reduceLT,Nat.reduceLeDiff,↓reduceIte,reduceCtorEq,Z3,Q6,SOp.rd,SI.rd,SX.rd,rdL,rdO,rdP,Q5,Q4,Q1,Q8,Q7,Z0,implies_true,forall_const,forall_eq,ne_eq,exists_eq_right_right,exists_eq_right,exists_eq_left,exists_eq_left',Q9,c61,hw,d1]
  refine A.app S (by simp;omega) (by simp;omega) fun a' h3 A' S'=>?_
  simp -dsimp -implicitDefEqProofs (disch:=omega) only [VCA,Z1,↓Q3,Nat.reduceEqDiff,Nat.reduceBEq,Nat.reduceAdd,Nat.reduceSub,Nat.reduceMul,Nat.reduceLT,Nat.reduceLeDiff,↓reduceIte,reduceCtorEq,Z3,Q6,SOp.rd,SI.rd,SX.rd,rdL,rdO,rdP,Q5,Q4,Q1,Q8,Q7,Z0,implies_true,forall_const,forall_eq,ne_eq,exists_eq_right_right,exists_eq_right,exists_eq_left,exists_eq_left',Q9,hw,d1]
  refine ⟨_,Sub.refl _,?_,S'⟩
  rw [YU,Lib.encodeRuneZ_one hc.1 hc.2]
  rw [IntKind.wrap_u8,Int.emod_eq_of_lt hc.1 (by omega)] at A'
  simpa using A'
 ·have d1:decide (IntKind.u32.wrap r<=127)=false:=by
   rcases (by omega:r<0\/0<=r) with h | h
   ·rw [u32_neg h h1];simp;omega
   ·rw [UX h h2];simp;omega
  simp -dsimp -implicitDefEqProofs (disch:=omega) only [VCA,Z1,↓Q3,Nat.reduceEqDiff,Nat.reduceBEq,Nat.reduceAdd,Nat.reduceSub,Nat.reduceMul,Nat.reduceLT,Nat.reduceLeDiff,↓reduceIte,reduceCtorEq,Z3,Q6,SOp.rd,SI.rd,SX.rd,rdL,rdO,rdP,Q5,Q4,Q1,Q8,Q7,Z0,implies_true,forall_const,forall_eq,ne_eq,exists_eq_right_right,exists_eq_right,exists_eq_left,exists_eq_left',Q9,c61,d1]
  refine DCalls.of (appNon_ok r A S (by omega) h1 h2 hs) ?_
  rintro a' h3 ⟨A',S'⟩
  simp -dsimp -implicitDefEqProofs (disch:=omega) only [VCA,Z1,↓Q3,Nat.reduceEqDiff,Nat.reduceBEq,Nat.reduceAdd,Nat.reduceSub,Nat.reduceMul,Nat.reduceLT,Nat.reduceLeDiff,↓reduceIte,reduceCtorEq,Z3,Q6,SOp.rd,SI.rd,SX.rd,rdL,rdO,rdP,Q5,Q4,Q1,Q8,Q7,Z0,implies_true,forall_const,forall_eq,ne_eq,exists_eq_right_right,exists_eq_right,exists_eq_left,exists_eq_left',Q9]
  exact ⟨_,Sub.refl _,A',S'⟩
def c43:SFun:=⟨.seq (.reg [o 4 (.mv (.c (.int .i64 0))),o 5 (.mv (.c (.prim .nilIface)))]) (.seq (.reg [o 7 (.mv (.t 0)),o 8 (.call (.c (.fn 33 [] [])) [.t 7])]) (.seq (.reg [o 9 (.mv (.t 0)),o 10 (.fldA 0 (.t 9)),o 11 (.fldA 1 (.t 10)),o 12 (.ld 1 false (.t 11)),o 13 (.len (.t 12)),o 6 (.mv (.t 13))]) (.seq (.reg [o 14 (.mv (.t 0)),o 15 (.mv (.t 0)),o 16 (.fldA 0 (.t 15)),o 17 (.fldA 1 (.t 16)),o 18 (.ld 1 false (.t 17)),o 19 (.mv (.t 1)),o 20 (.call (.c (.fn 61 [] [])) [.t 18,.t 19]),o 21 (.fldA 0 (.t 14)),o 22 (.fldA 1 (.t 21)),⟨none,.st 1 (.t 22) (.t 20),none⟩]) (.seq (.reg [o 23 (.mv (.t 0)),o 24 (.fldA 0 (.t 23)),o 25 (.fldA 1 (.t 24)),o 26 (.ld 1 false (.t 25)),o 27 (.len (.t 26)),o 28 (.mv (.t 6)),o 29 (.bin .sub (.t 27) (.t 28)),o 4 (.mv (.t 29)),o 5 (.mv (.c (.prim .nilIface)))]) .ret)))),[.tmp 4,.tmp 5]⟩
theorem hc43:Y6 Tryz.prog {} Tryz.f43=some c43:=by kernel_rfl
theorem writeRune_ok {h0 h:Z2} {rb:Nat} {s:List UInt8} (r:Int) (B:Bl h0 rb s h) (h1:-2147483648<=r) (h2:r<=2147483647) (hs:s.length+4<=140737488355328) :
 DCalls (Pg G) 43 [.vp rb 0,.int .i32 r] h fun a h'=>(∃ n,a=.tup [n,.prim .nilIface])/\Bl h0 rb (s++Lib.encodeRune r) h':=by
 obtain ⟨hn,p,buf,hp,hne,A,S⟩:=B
 refine Z4 Tryz.func43 (by kernel_rfl) hc43 (by rw [Tryz.ntmps43];simp) (by rw [Tryz.ntmps43];decide) ?_
 simp -dsimp -implicitDefEqProofs (disch:=omega) only [VCA,Z1,↓Q3,Nat.reduceEqDiff,Nat.reduceBEq,Nat.reduceAdd,Nat.reduceSub,Nat.reduceMul,Nat.reduceLT,Nat.reduceLeDiff,↓reduceIte,reduceCtorEq,Z3,Q6,SOp.rd,SI.rd,SX.rd,rdL,rdO,rdP,Q5,Q4,Q1,Q8,Q7,Z0,implies_true,forall_const,forall_eq,ne_eq,exists_eq_right_right,exists_eq_right,exists_eq_left,exists_eq_left',Q9,c43]
 refine copyCheck_ok rb h p buf hp (QT S) ?_
 have L:=(TX (y:=⟨Tb,2,[[.vp rb 0,buf]]⟩) A).len
 simp -dsimp -implicitDefEqProofs (disch:=omega) only [VCA,Z1,↓Q3,Nat.reduceEqDiff,Nat.reduceBEq,Nat.reduceAdd,Nat.reduceSub,Nat.reduceMul,Nat.reduceLT,Nat.reduceLeDiff,↓reduceIte,reduceCtorEq,Z3,Q6,SOp.rd,SI.rd,SX.rd,rdL,rdO,rdP,Q5,Q4,Q1,Q8,Q7,Z0,implies_true,forall_const,forall_eq,ne_eq,exists_eq_right_right,exists_eq_right,exists_eq_left,exists_eq_left',Q9,L.1,L.2]
 refine DCalls.of (appRune_ok r (TX A) (sub_at S) h1 h2 (by simp [Y8];omega)) ?_
 rintro a' h3 ⟨A',S'⟩
 obtain ⟨hv,hc⟩:isV a'=true/\cellsOf a'=[a']:=by
  rcases A' with ⟨_,rfl⟩ | ⟨r,_,_,rfl⟩ <;> exact ⟨rfl,rfl⟩
 have L':=A'.len
 have hne':Lib.encodeRune r≠[]:=by
  unfold Lib.encodeRune Lib.encodeRuneZ;repeat' split
  all_goals simp
 simp -dsimp -implicitDefEqProofs (disch:=omega) only [VCA,Z1,↓Q3,Nat.reduceEqDiff,Nat.reduceBEq,Nat.reduceAdd,Nat.reduceSub,Nat.reduceMul,Nat.reduceLT,Nat.reduceLeDiff,↓reduceIte,reduceCtorEq,Z3,Q6,SOp.rd,SI.rd,SX.rd,rdL,rdO,rdP,Q5,Q4,Q1,Q8,Q7,Z0,implies_true,forall_const,forall_eq,ne_eq,exists_eq_right_right,exists_eq_right,exists_eq_left,exists_eq_left',Q9,QT S',hv,hc,L'.1,L'.2]
 exact ⟨_,Sub.refl _,⟨_,rfl⟩,hn,_,_,.inr rfl,fun _=>by simp [hne'],by simpa [Y8] using TX A',sub_at S'⟩
end Go.Proofs.K
end
section
set_option linter.unusedSimpArgs false
set_option linter.unusedVariables false
namespace Go.Proofs.K
open Go Go.Sim Go.Proofs
variable {G:U5}
def X3 (r:Int):List AVal:=[.int .i32 r]
instance:LenE X3 1:=⟨fun _=>rfl⟩
def validR (r:Int):Bool:=(decide (0<=r)&&decide (r<55296))||(decide (57343<r)&&decide (r<=1114111))
def c208:SFun:=⟨.seq (.reg [o 2 (.mv (.c (.bool false)))]) (.seq (.block 0 (.seq (.reg [o 4 (.mv (.t 0)),o 5 (.bin .leq (.c (.int .i32 0)) (.t 4)),o 6 (.mv (.t 5)),⟨some 7,.mv (.t 0),some (6,true)⟩,⟨some 8,.bin .lss (.t 7) (.c (.int .i32 55296)),some (6,true)⟩,o 9 (.pick (.t 6) (.t 8) (.c (.bool false))),o 3 (.mv (.t 9))]) (.cond (.t 3) (.seq (.reg [o 2 (.mv (.c (.bool true)))]) .ret) (.seq (.reg [o 11 (.mv (.t 0)),o 12 (.bin .lss (.c (.int .i32 57343)) (.t 11)),o 13 (.mv (.t 12)),⟨some 14,.mv (.t 0),some (13,true)⟩,⟨some 15,.bin .leq (.t 14) (.c (.int .i32 1114111)),some (13,true)⟩,o 16 (.pick (.t 13) (.t 15) (.c (.bool false))),o 10 (.mv (.t 16))]) (.cond (.t 10) (.seq (.reg [o 2 (.mv (.c (.bool true)))]) .ret) .skip))))) (.seq (.reg [o 2 (.mv (.c (.bool false)))]) .ret)),[.tmp 2]⟩
theorem hc208:Y6 Tryz.prog {} Tryz.f208=some c208:=by kernel_rfl
theorem validRune_ok (r:Int):PCalls (Pg G) 208 [.int .i32 r] (.bool (validR r)):=fun h=>by
 refine Z4 Tryz.func208 (by kernel_rfl) hc208 (by rw [Tryz.ntmps208];simp) (by rw [Tryz.ntmps208];decide) ?_
 unfold validR
 by_cases h1:0<=r <;> by_cases h2:r<55296 <;> by_cases h3:57343<r <;> by_cases h4:r<=1114111
 all_goals simp only [h1,h2,h3,h4,decide_true,decide_false,Bool.and_true,Bool.and_false,Bool.true_and,Bool.false_and,Bool.or_true,Bool.or_false,Bool.true_or,Bool.false_or]
 all_goals first | omega | skip
 all_goals (
  simp -dsimp -implicitDefEqProofs (disch:=omega) only [↓Q0 6,↓Q2 6,↓Q0 13,↓Q2 13,VCA,Z1,↓Q3,Nat.reduceEqDiff,Nat.reduceBEq,Nat.reduceAdd,Nat.reduceSub,Nat.reduceMul,Nat.reduceLT,Nat.reduceLeDiff,↓reduceIte,reduceCtorEq,Z3,Q6,SOp.rd,SI.rd,SX.rd,rdL,rdO,rdP,Q5,Q4,Q1,Q8,Q7,Z0,implies_true,forall_const,forall_eq,ne_eq,exists_eq_right_right,exists_eq_right,exists_eq_left,exists_eq_left',Q9,X3,c208,h1,h2,h3,h4,decide_true,decide_false]
  exact Sub.refl _)
theorem encode_len (r:Int):(Lib.encodeRune r).length<=4:=by
 unfold Lib.encodeRune Lib.encodeRuneZ;repeat' split
 all_goals simp
def encM (l:List Int):List UInt8:=(l.map Lib.encodeRune).flatten
theorem encM_len (l:List Int):(encM l).length<=4*l.length:=by
 induction l with
 | nil=>simp [encM]
 | cons a r ih=>have:=encode_len a;simp [encM] at ih ⊢; omega
def K6 (b:Int):Int×Int×Int:=
 if b<128 then (0,128,191)
 else if 194<=b/\b<=223 then (1,128,191)
 else if 224<=b/\b<=239 then (2,if b=224 then 160 else 128,if b=237 then 159 else 191)
 else if 240<=b/\b<=244 then (3,if b=240 then 144 else 128,if b=244 then 143 else 191)
 else (-1,128,191)
def c82:SFun:=⟨.seq (.reg [o 2 (.mv (.c (.int .i64 0))),o 3 (.mv (.c (.int .u8 0))),o 4 (.mv (.c (.int .u8 0)))]) (.seq (.reg [o 3 (.mv (.c (.int .u8 128))),o 4 (.mv (.c (.int .u8 191)))]) (.seq (.block 0 (.seq (.reg [o 8 (.mv (.t 0)),o 9 (.bin .lss (.t 8) (.c (.int .u8 128))),o 7 (.mv (.t 9))]) (.cond (.t 7) (.seq (.reg [o 10 (.mv (.t 3)),o 11 (.mv (.t 4)),o 2 (.mv (.c (.int .i64 0))),o 3 (.mv (.t 10)),o 4 (.mv (.t 11))]) .ret) (.seq (.reg [o 13 (.mv (.t 0)),o 14 (.bin .geq (.t 13) (.c (.int .u8 194))),o 15 (.mv (.t 14)),⟨some 16,.mv (.t 0),some (15,true)⟩,⟨some 17,.bin .leq (.t 16) (.c (.int .u8 223)),some (15,true)⟩,o 18 (.pick (.t 15) (.t 17) (.c (.bool false))),o 12 (.mv (.t 18))]) (.cond (.t 12) (.seq (.reg [o 19 (.mv (.t 3)),o 20 (.mv (.t 4)),o 2 (.mv (.c (.int .i64 1))),o 3 (.mv (.t 19)),o 4 (.mv (.t 20))]) .ret) (.seq (.reg [o 22 (.mv (.t 0)),o 23 (.bin .geq (.t 22) (.c (.int .u8 224))),o 24 (.mv (.t 23)),⟨some 25,.mv (.t 0),some (24,true)⟩,⟨some 26,.bin .leq (.t 25) (.c (.int .u8 239)),some (24,true)⟩,o 27 (.pick (.t 24) (.t 26) (.c (.bool false))),o 21 (.mv (.t 27))]) (.cond (.t 21) (.reg [o 2 (.mv (.c (.int .i64 2)))]) (.seq (.reg [o 29 (.mv (.t 0)),o 30 (.bin .geq (.t 29) (.c (.int .u8 240))),o 31 (.mv (.t 30)),⟨some 32,.mv (.t 0),some (31,true)⟩,⟨some 33,.bin .leq (.t 32) (.c (.int .u8 244)),some (31,true)⟩,o 34 (.pick (.t 31) (.t 33) (.c (.bool false))),o 28 (.mv (.t 34))]) (.cond (.t 28) (.reg [o 2 (.mv (.c (.int .i64 3)))]) (.seq (.reg [o 5 (.mv (.t 3)),o 6 (.mv (.t 4)),o 2 (.mv (.c (.int .i64 (-1)))),o 3 (.mv (.t 5)),o 4 (.mv (.t 6))]) .ret)))))))))) (.seq (.seq (.reg [o 35 (.mv (.t 0))]) (.block 1 (.seq (.reg [o 37 (.bin .eql (.t 35) (.c (.int .u8 224))),o 36 (.mv (.t 37))]) (.cond (.t 36) (.reg [o 3 (.mv (.c (.int .u8 160)))]) (.seq (.reg [o 39 (.bin .eql (.t 35) (.c (.int .u8 237))),o 38 (.mv (.t 39))]) (.cond (.t 38) (.reg [o 4 (.mv (.c (.int .u8 159)))]) (.seq (.reg [o 41 (.bin .eql (.t 35) (.c (.int .u8 240))),o 40 (.mv (.t 41))]) (.cond (.t 40) (.reg [o 3 (.mv (.c (.int .u8 144)))]) (.seq (.reg [o 43 (.bin .eql (.t 35) (.c (.int .u8 244))),o 42 (.mv (.t 43))]) (.cond (.t 42) (.reg [o 4 (.mv (.c (.int .u8 143)))]) .skip)))))))))) (.seq (.reg [o 44 (.mv (.t 2)),o 45 (.mv (.t 3)),o 46 (.mv (.t 4)),o 2 (.mv (.t 44)),o 3 (.mv (.t 45)),o 4 (.mv (.t 46))]) .ret)))),[.tmp 2,.tmp 3,.tmp 4]⟩
theorem hc82:Y6 Tryz.prog {} Tryz.f82=some c82:=by kernel_rfl
theorem lead_ok (b:Int) (h0:0<=b) (h1:b<256):PCalls (Pg G) 82 [.int .u8 b] (.tup [Y0 (K6 b).1,.int .u8 (K6 b).2.1,.int .u8 (K6 b).2.2]):=fun h=>by
 refine Z4 Tryz.func82 (by kernel_rfl) hc82 (by rw [Tryz.ntmps82];simp) (by rw [Tryz.ntmps82];decide) ?_
 rcases (by omega:(0<=b/\b<=127)\/(128<=b/\b<=193)\/(194<=b/\b<=223)\/(224<=b/\b<=224)\/(225<=b/\b<=236)\/(237<=b/\b<=237)\/(238<=b/\b<=239)\/(240<=b/\b<=240)\/(241<=b/\b<=243)\/(244<=b/\b<=244)\/(245<=b/\b<=255)) with hc | hc | hc | hc | hc | hc | hc | hc | hc | hc | hc
 ·have hm:K6 b=(0,128,191):=by
   unfold K6;repeat' split
   all_goals first | omega | (simp;omega) | rfl
  have f0:decide (b<128)=true:=by simp;omega
  have f1:decide (194<=b)=false:=by simp;omega
  have f2:decide (224<=b)=false:=by simp;omega
  have f3:decide (240<=b)=false:=by simp;omega
  have f4:decide (b<=223)=true:=by simp;omega
  have f5:decide (b<=239)=true:=by simp;omega
  have f6:decide (b<=244)=true:=by simp;omega
  have f7:(b==224)=false:=by simp;omega
  have f8:(b==237)=false:=by simp;omega
  have f9:(b==240)=false:=by simp;omega
  have f10:(b==244)=false:=by simp;omega
  rw [hm]
  simp -dsimp -implicitDefEqProofs (disch:=omega) only [↓Q0 15,↓Q2 15,↓Q0 24,↓Q2 24,↓Q0 31,↓Q2 31,VCA,Z1,↓Q3,Nat.reduceEqDiff,Nat.reduceBEq,Nat.reduceAdd,Nat.reduceSub,Nat.reduceMul,Nat.reduceLT,Nat.reduceLeDiff,↓reduceIte,reduceCtorEq,Z3,Q6,SOp.rd,SI.rd,SX.rd,rdL,rdO,rdP,Q5,Q4,Q1,Q8,Q7,Z0,implies_true,forall_const,forall_eq,ne_eq,exists_eq_right_right,exists_eq_right,exists_eq_left,exists_eq_left',Q9,X3,c82,f0,f1,f2,f3,f4,f5,f6,f7,f8,f9,f10]
  exact Sub.refl _
 ·have hm:K6 b=(-1,128,191):=by
   unfold K6;repeat' split
   all_goals first | omega | (simp;omega) | rfl
  have f0:decide (b<128)=false:=by simp;omega
  have f1:decide (194<=b)=false:=by simp;omega
  have f2:decide (224<=b)=false:=by simp;omega
  have f3:decide (240<=b)=false:=by simp;omega
  have f4:decide (b<=223)=true:=by simp;omega
  have f5:decide (b<=239)=true:=by simp;omega
  have f6:decide (b<=244)=true:=by simp;omega
  have f7:(b==224)=false:=by simp;omega
  have f8:(b==237)=false:=by simp;omega
  have f9:(b==240)=false:=by simp;omega
  have f10:(b==244)=false:=by simp;omega
  rw [hm]
  simp -dsimp -implicitDefEqProofs (disch:=omega) only [↓Q0 15,↓Q2 15,↓Q0 24,↓Q2 24,↓Q0 31,↓Q2 31,VCA,Z1,↓Q3,Nat.reduceEqDiff,Nat.reduceBEq,Nat.reduceAdd,Nat.reduceSub,Nat.reduceMul,Nat.reduceLT,Nat.reduceLeDiff,↓reduceIte,reduceCtorEq,Z3,Q6,SOp.rd,SI.rd,SX.rd,rdL,rdO,rdP,Q5,Q4,Q1,Q8,Q7,Z0,implies_true,forall_const,forall_eq,ne_eq,exists_eq_right_right,exists_eq_right,exists_eq_left,exists_eq_left',Q9,X3,c82,f0,f1,f2,f3,f4,f5,f6,f7,f8,f9,f10]
  exact Sub.refl _
 ·have hm:K6 b=(1,128,191):=by
   unfold K6;repeat' split
   all_goals first | omega | (simp;omega) | rfl
  have f0:decide (b<128)=false:=by simp;omega
  have f1:decide (194<=b)=true:=by simp;omega
  have f2:decide (224<=b)=false:=by simp;omega
  have f3:decide (240<=b)=false:=by simp;omega
  have f4:decide (b<=223)=true:=by simp;omega
  have f5:decide (b<=239)=true:=by simp;omega
  have f6:decide (b<=244)=true:=by simp;omega
  have f7:(b==224)=false:=by simp;omega
  have f8:(b==237)=false:=by simp;omega
  have f9:(b==240)=false:=by simp;omega
  have f10:(b==244)=false:=by simp;omega
  rw [hm]
  simp -dsimp -implicitDefEqProofs (disch:=omega) only [↓Q0 15,↓Q2 15,↓Q0 24,↓Q2 24,↓Q0 31,↓Q2 31,VCA,Z1,↓Q3,Nat.reduceEqDiff,Nat.reduceBEq,Nat.reduceAdd,Nat.reduceSub,Nat.reduceMul,Nat.reduceLT,Nat.reduceLeDiff,↓reduceIte,reduceCtorEq,Z3,Q6,SOp.rd,SI.rd,SX.rd,rdL,rdO,rdP,Q5,Q4,Q1,Q8,Q7,Z0,implies_true,forall_const,forall_eq,ne_eq,exists_eq_right_right,exists_eq_right,exists_eq_left,exists_eq_left',Q9,X3,c82,f0,f1,f2,f3,f4,f5,f6,f7,f8,f9,f10]
  exact Sub.refl _
 ·have hm:K6 b=(2,160,191):=by
   unfold K6;repeat' split
   all_goals first | omega | (simp;omega) | rfl
  have f0:decide (b<128)=false:=by simp;omega
  have f1:decide (194<=b)=true:=by simp;omega
  have f2:decide (224<=b)=true:=by simp;omega
  have f3:decide (240<=b)=false:=by simp;omega
  have f4:decide (b<=223)=false:=by simp;omega
  have f5:decide (b<=239)=true:=by simp;omega
  have f6:decide (b<=244)=true:=by simp;omega
  have f7:(b==224)=true:=by simp;omega
  have f8:(b==237)=false:=by simp;omega
  have f9:(b==240)=false:=by simp;omega
  have f10:(b==244)=false:=by simp;omega
  rw [hm]
  simp -dsimp -implicitDefEqProofs (disch:=omega) only [↓Q0 15,↓Q2 15,↓Q0 24,↓Q2 24,↓Q0 31,↓Q2 31,VCA,Z1,↓Q3,Nat.reduceEqDiff,Nat.reduceBEq,Nat.reduceAdd,Nat.reduceSub,Nat.reduceMul,Nat.reduceLT,Nat.reduceLeDiff,↓reduceIte,reduceCtorEq,Z3,Q6,SOp.rd,SI.rd,SX.rd,rdL,rdO,rdP,Q5,Q4,Q1,Q8,Q7,Z0,implies_true,forall_const,forall_eq,ne_eq,exists_eq_right_right,exists_eq_right,exists_eq_left,exists_eq_left',Q9,X3,c82,f0,f1,f2,f3,f4,f5,f6,f7,f8,f9,f10]
  exact Sub.refl _
 ·have hm:K6 b=(2,128,191):=by
   unfold K6;repeat' split
   all_goals first | omega | (simp;omega) | rfl
  have f0:decide (b<128)=false:=by simp;omega
  have f1:decide (194<=b)=true:=by simp;omega
  have f2:decide (224<=b)=true:=by simp;omega
  have f3:decide (240<=b)=false:=by simp;omega
  have f4:decide (b<=223)=false:=by simp;omega
  have f5:decide (b<=239)=true:=by simp;omega
  have f6:decide (b<=244)=true:=by simp;omega
  have f7:(b==224)=false:=by simp;omega
  have f8:(b==237)=false:=by simp;omega
  have f9:(b==240)=false:=by simp;omega
  have f10:(b==244)=false:=by simp;omega
  rw [hm]
  simp -dsimp -implicitDefEqProofs (disch:=omega) only [↓Q0 15,↓Q2 15,↓Q0 24,↓Q2 24,↓Q0 31,↓Q2 31,VCA,Z1,↓Q3,Nat.reduceEqDiff,Nat.reduceBEq,Nat.reduceAdd,Nat.reduceSub,Nat.reduceMul,Nat.reduceLT,Nat.reduceLeDiff,↓reduceIte,reduceCtorEq,Z3,Q6,SOp.rd,SI.rd,SX.rd,rdL,rdO,rdP,Q5,Q4,Q1,Q8,Q7,Z0,implies_true,forall_const,forall_eq,ne_eq,exists_eq_right_right,exists_eq_right,exists_eq_left,exists_eq_left',Q9,X3,c82,f0,f1,f2,f3,f4,f5,f6,f7,f8,f9,f10]
  exact Sub.refl _
 ·have hm:K6 b=(2,128,159):=by
   unfold K6;repeat' split
   all_goals first | omega | (simp;omega) | rfl
  have f0:decide (b<128)=false:=by simp;omega
  have f1:decide (194<=b)=true:=by simp;omega
  have f2:decide (224<=b)=true:=by simp;omega
  have f3:decide (240<=b)=false:=by simp;omega
  have f4:decide (b<=223)=false:=by simp;omega
  have f5:decide (b<=239)=true:=by simp;omega
  have f6:decide (b<=244)=true:=by simp;omega
  have f7:(b==224)=false:=by simp;omega
  have f8:(b==237)=true:=by simp;omega
  have f9:(b==240)=false:=by simp;omega
  have f10:(b==244)=false:=by simp;omega
  rw [hm]
  simp -dsimp -implicitDefEqProofs (disch:=omega) only [↓Q0 15,↓Q2 15,↓Q0 24,↓Q2 24,↓Q0 31,↓Q2 31,VCA,Z1,↓Q3,Nat.reduceEqDiff,Nat.reduceBEq,Nat.reduceAdd,Nat.reduceSub,Nat.reduceMul,Nat.reduceLT,Nat.reduceLeDiff,↓reduceIte,reduceCtorEq,Z3,Q6,SOp.rd,SI.rd,SX.rd,rdL,rdO,rdP,Q5,Q4,Q1,Q8,Q7,Z0,implies_true,forall_const,forall_eq,ne_eq,exists_eq_right_right,exists_eq_right,exists_eq_left,exists_eq_left',Q9,X3,c82,f0,f1,f2,f3,f4,f5,f6,f7,f8,f9,f10]
  exact Sub.refl _
 ·have hm:K6 b=(2,128,191):=by
   unfold K6;repeat' split
   all_goals first | omega | (simp;omega) | rfl
  have f0:decide (b<128)=false:=by simp;omega
  have f1:decide (194<=b)=true:=by simp;omega
  have f2:decide (224<=b)=true:=by simp;omega
  have f3:decide (240<=b)=false:=by simp;omega
  have f4:decide (b<=223)=false:=by simp;omega
  have f5:decide (b<=239)=true:=by simp;omega
  have f6:decide (b<=244)=true:=by simp;omega
  have f7:(b==224)=false:=by simp;omega
  have f8:(b==237)=false:=by simp;omega
  have f9:(b==240)=false:=by simp;omega
  have f10:(b==244)=false:=by simp;omega
  rw [hm]
  simp -dsimp -implicitDefEqProofs (disch:=omega) only [↓Q0 15,↓Q2 15,↓Q0 24,↓Q2 24,↓Q0 31,↓Q2 31,VCA,Z1,↓Q3,Nat.reduceEqDiff,Nat.reduceBEq,Nat.reduceAdd,Nat.reduceSub,Nat.reduceMul,Nat.reduceLT,Nat.reduceLeDiff,↓reduceIte,reduceCtorEq,Z3,Q6,SOp.rd,SI.rd,SX.rd,rdL,rdO,rdP,Q5,Q4,Q1,Q8,Q7,Z0,implies_true,forall_const,forall_eq,ne_eq,exists_eq_right_right,exists_eq_right,exists_eq_left,exists_eq_left',Q9,X3,c82,f0,f1,f2,f3,f4,f5,f6,f7,f8,f9,f10]
  exact Sub.refl _
 ·have hm:K6 b=(3,144,191):=by
   unfold K6;repeat' split
   all_goals first | omega | (simp;omega) | rfl
  have f0:decide (b<128)=false:=by simp;omega
  have f1:decide (194<=b)=true:=by simp;omega
  have f2:decide (224<=b)=true:=by simp;omega
  have f3:decide (240<=b)=true:=by simp;omega
  have f4:decide (b<=223)=false:=by simp;omega
  have f5:decide (b<=239)=false:=by simp;omega
  have f6:decide (b<=244)=true:=by simp;omega
  have f7:(b==224)=false:=by simp;omega
  have f8:(b==237)=false:=by simp;omega
  have f9:(b==240)=true:=by simp;omega
  have f10:(b==244)=false:=by simp;omega
  rw [hm]
  simp -dsimp -implicitDefEqProofs (disch:=omega) only [↓Q0 15,↓Q2 15,↓Q0 24,↓Q2 24,↓Q0 31,↓Q2 31,VCA,Z1,↓Q3,Nat.reduceEqDiff,Nat.reduceBEq,Nat.reduceAdd,Nat.reduceSub,Nat.reduceMul,Nat.reduceLT,Nat.reduceLeDiff,↓reduceIte,reduceCtorEq,Z3,Q6,SOp.rd,SI.rd,SX.rd,rdL,rdO,rdP,Q5,Q4,Q1,Q8,Q7,Z0,implies_true,forall_const,forall_eq,ne_eq,exists_eq_right_right,exists_eq_right,exists_eq_left,exists_eq_left',Q9,X3,c82,f0,f1,f2,f3,f4,f5,f6,f7,f8,f9,f10]
  exact Sub.refl _
 ·have hm:K6 b=(3,128,191):=by
   unfold K6;repeat' split
   all_goals first | omega | (simp;omega) | rfl
  have f0:decide (b<128)=false:=by simp;omega
  have f1:decide (194<=b)=true:=by simp;omega
  have f2:decide (224<=b)=true:=by simp;omega
  have f3:decide (240<=b)=true:=by simp;omega
  have f4:decide (b<=223)=false:=by simp;omega
  have f5:decide (b<=239)=false:=by simp;omega
  have f6:decide (b<=244)=true:=by simp;omega
  have f7:(b==224)=false:=by simp;omega
  have f8:(b==237)=false:=by simp;omega
  have f9:(b==240)=false:=by simp;omega
  have f10:(b==244)=false:=by simp;omega
  rw [hm]
  simp -dsimp -implicitDefEqProofs (disch:=omega) only [↓Q0 15,↓Q2 15,↓Q0 24,↓Q2 24,↓Q0 31,↓Q2 31,VCA,Z1,↓Q3,Nat.reduceEqDiff,Nat.reduceBEq,Nat.reduceAdd,Nat.reduceSub,Nat.reduceMul,Nat.reduceLT,Nat.reduceLeDiff,↓reduceIte,reduceCtorEq,Z3,Q6,SOp.rd,SI.rd,SX.rd,rdL,rdO,rdP,Q5,Q4,Q1,Q8,Q7,Z0,implies_true,forall_const,forall_eq,ne_eq,exists_eq_right_right,exists_eq_right,exists_eq_left,exists_eq_left',Q9,X3,c82,f0,f1,f2,f3,f4,f5,f6,f7,f8,f9,f10]
  exact Sub.refl _
 ·have hm:K6 b=(3,128,143):=by
   unfold K6;repeat' split
   all_goals first | omega | (simp;omega) | rfl
  have f0:decide (b<128)=false:=by simp;omega
  have f1:decide (194<=b)=true:=by simp;omega
  have f2:decide (224<=b)=true:=by simp;omega
  have f3:decide (240<=b)=true:=by simp;omega
  have f4:decide (b<=223)=false:=by simp;omega
  have f5:decide (b<=239)=false:=by simp;omega
  have f6:decide (b<=244)=true:=by simp;omega
  have f7:(b==224)=false:=by simp;omega
  have f8:(b==237)=false:=by simp;omega
  have f9:(b==240)=false:=by simp;omega
  have f10:(b==244)=true:=by simp;omega
  rw [hm]
  simp -dsimp -implicitDefEqProofs (disch:=omega) only [↓Q0 15,↓Q2 15,↓Q0 24,↓Q2 24,↓Q0 31,↓Q2 31,VCA,Z1,↓Q3,Nat.reduceEqDiff,Nat.reduceBEq,Nat.reduceAdd,Nat.reduceSub,Nat.reduceMul,Nat.reduceLT,Nat.reduceLeDiff,↓reduceIte,reduceCtorEq,Z3,Q6,SOp.rd,SI.rd,SX.rd,rdL,rdO,rdP,Q5,Q4,Q1,Q8,Q7,Z0,implies_true,forall_const,forall_eq,ne_eq,exists_eq_right_right,exists_eq_right,exists_eq_left,exists_eq_left',Q9,X3,c82,f0,f1,f2,f3,f4,f5,f6,f7,f8,f9,f10]
  exact Sub.refl _
 ·have hm:K6 b=(-1,128,191):=by
   unfold K6;repeat' split
   all_goals first | omega | (simp;omega) | rfl
  have f0:decide (b<128)=false:=by simp;omega
  have f1:decide (194<=b)=true:=by simp;omega
  have f2:decide (224<=b)=true:=by simp;omega
  have f3:decide (240<=b)=true:=by simp;omega
  have f4:decide (b<=223)=false:=by simp;omega
  have f5:decide (b<=239)=false:=by simp;omega
  have f6:decide (b<=244)=false:=by simp;omega
  have f7:(b==224)=false:=by simp;omega
  have f8:(b==237)=false:=by simp;omega
  have f9:(b==240)=false:=by simp;omega
  have f10:(b==244)=false:=by simp;omega
  rw [hm]
  simp -dsimp -implicitDefEqProofs (disch:=omega) only [↓Q0 15,↓Q2 15,↓Q0 24,↓Q2 24,↓Q0 31,↓Q2 31,VCA,Z1,↓Q3,Nat.reduceEqDiff,Nat.reduceBEq,Nat.reduceAdd,Nat.reduceSub,Nat.reduceMul,Nat.reduceLT,Nat.reduceLeDiff,↓reduceIte,reduceCtorEq,Z3,Q6,SOp.rd,SI.rd,SX.rd,rdL,rdO,rdP,Q5,Q4,Q1,Q8,Q7,Z0,implies_true,forall_const,forall_eq,ne_eq,exists_eq_right_right,exists_eq_right,exists_eq_left,exists_eq_left',Q9,X3,c82,f0,f1,f2,f3,f4,f5,f6,f7,f8,f9,f10]
  exact Sub.refl _
def bt (s:List UInt8) (i:Nat):Int:=((s.getD i 0).toNat:Int)
theorem bt_byte (s:List UInt8) (i:Nat):0<=bt s i/\bt s i<256:=by
 unfold bt;have:=(s.getD i 0).toNat_lt;omega
def KT (s:List UInt8) (more:Nat):Nat->Nat->Int->Int->Int->Int×Nat
 | 0,_,_,_,n=>(n,more+1)
 | f+1,i,low,high,n=>if i=s.length\/bt s i<low\/high<bt s i then (65533,i) else KT s more f (i+1) 128 191 (n*64+bt s i % 64)
def KV (s:List UInt8):Int×Nat:=
 let p:=K6 (bt s 0)
 if p.1<0 then (65533,1) else if p.1=0 then (bt s 0,1)
 else KT s p.1.toNat p.1.toNat 1 p.2.1 p.2.2 (bt s 0 % 2 ^ (6-p.1.toNat))
theorem leadM_cases (b:Int):(K6 b).1 = -1\/(K6 b).1=0 \/ ∃ m:Nat,1<=m/\m<=3/\(K6 b).1=m:=by
 unfold K6;repeat' split
 all_goals first | exact .inl rfl | exact .inr (.inl rfl) | exact .inr (.inr ⟨1,by omega,by omega,rfl⟩) | exact .inr (.inr ⟨2,by omega,by omega,rfl⟩) | exact .inr (.inr ⟨3,by omega,by omega,rfl⟩)
theorem mask_ok {m:Nat} (h1:1<=m) (h3:m<=3) {b:Int} (h0:0<=b) (hb:b<256) :
 QK .and .i32 (IntKind.i32.wrap b) (IntKind.i32.wrap (IntKind.i32.wrap (1*2 ^ min (6-(m:Int)).toNat IntKind.i32.bits)-1))=b % 2 ^ (6-m):=by
 have hw:IntKind.i32.wrap b=b:=by rw [IntKind.wrap_i32];omega
 rw [hw]
 rcases (by omega:m=1\/m=2\/m=3) with rfl | rfl | rfl
 ·exact bits_mask .i32 31 (by decide) wraps_i32 5 (by decide) b h0 (by omega)
 ·exact bits_mask .i32 31 (by decide) wraps_i32 4 (by decide) b h0 (by omega)
 ·exact bits_mask .i32 31 (by decide) wraps_i32 3 (by decide) b h0 (by omega)
theorem join_ok {n b:Int} (h0:0<=n) (h1:n<33554432) (hb:0<=b) (hb1:b<256) :
 QK .or .i32 (IntKind.i32.wrap (n*2 ^ min (6:Int).toNat IntKind.i32.bits)) (IntKind.i32.wrap (QK .and .u8 b 63))=n*64+b % 64:=by
 have e:(2:Int) ^ min (6:Int).toNat IntKind.i32.bits=64:=rfl
 have e2:QK .and .u8 b 63=b % 64:=u8_and63 _ hb hb1
 have hw:IntKind.i32.wrap (n*64)=n*64:=by rw [IntKind.wrap_i32];omega
 have hw2:IntKind.i32.wrap (b % 64)=b % 64:=by rw [IntKind.wrap_i32];omega
 rw [e,e2,hw,hw2]
 exact i32_or6 _ _ (by omega) (by omega) (by omega) (by omega) (by omega)
def c60:SFun:=⟨.seq (.reg [o 2 (.mv (.c (.int .i32 0))),o 3 (.mv (.c (.int .i64 0)))]) (.seq (.reg [o 10 (.mv (.t 0)),o 11 (.idxS (.t 10) (.c (.int .i64 0))),o 12 (.pcall 82 [.t 11]),o 9 (.mv (.t 12)),o 13 (.ext (.t 9) 0),o 14 (.ext (.t 9) 1),o 15 (.ext (.t 9) 2),o 4 (.mv (.t 13)),o 5 (.mv (.t 14)),o 6 (.mv (.t 15))]) (.seq (.seq (.reg [o 16 (.mv (.t 4)),o 17 (.bin .lss (.t 16) (.c (.int .i64 0)))]) (.cond (.t 17) (.seq (.reg [o 2 (.mv (.c (.int .i32 65533))),o 3 (.mv (.c (.int .i64 1)))]) .ret) .skip)) (.seq (.seq (.reg [o 18 (.mv (.t 4)),o 19 (.bin .eql (.t 18) (.c (.int .i64 0)))]) (.cond (.t 19) (.seq (.reg [o 20 (.mv (.t 0)),o 21 (.idxS (.t 20) (.c (.int .i64 0))),o 22 (.cvi .i32 (.t 21)),o 2 (.mv (.t 22)),o 3 (.mv (.c (.int .i64 1)))]) .ret) .skip)) (.seq (.dreg [(o 23 (.mv (.t 0)),none),(o 24 (.idxS (.t 23) (.c (.int .i64 0))),none),(o 25 (.cvi .i32 (.t 24)),none),(o 26 (.mv (.t 4)),none),(o 27 (.bin .sub (.c (.int .i64 6)) (.t 26)),none),(o 28 (.bin .shl (.c (.int .i32 1)) (.t 27)),none),(o 29 (.bin .sub (.t 28) (.c (.int .i32 1))),none),(o 30 (.bin .and (.t 25) (.t 29)),none),(o 7 (.mv (.t 30)),none)]) (.seq (.seq (.reg [o 8 (.mv (.c (.int .i64 1)))]) (.block 0 (.loop (.seq (.seq (.reg [o 31 (.mv (.t 8)),o 32 (.mv (.t 4)),o 33 (.bin .leq (.t 31) (.t 32))]) (.cond (.t 33) .skip (.exit 0))) (.seq (.block 1 (.seq (.seq (.reg [o 36 (.mv (.t 8)),o 37 (.mv (.t 0)),o 38 (.lenS (.t 37)),o 39 (.bin .eql (.t 36) (.t 38)),o 40 (.mv (.t 39)),⟨some 41,.mv (.t 0),some (40,false)⟩,⟨some 42,.mv (.t 8),some (40,false)⟩,⟨some 43,.idxS (.t 41) (.t 42),some (40,false)⟩,⟨some 44,.mv (.t 5),some (40,false)⟩,⟨some 45,.bin .lss (.t 43) (.t 44),some (40,false)⟩,o 46 (.pick (.t 40) (.c (.bool true)) (.t 45)),o 47 (.mv (.t 46)),⟨some 48,.mv (.t 0),some (47,false)⟩,⟨some 49,.mv (.t 8),some (47,false)⟩,⟨some 50,.idxS (.t 48) (.t 49),some (47,false)⟩,⟨some 51,.mv (.t 6),some (47,false)⟩,⟨some 52,.bin .gtr (.t 50) (.t 51),some (47,false)⟩,o 53 (.pick (.t 47) (.c (.bool true)) (.t 52))]) (.cond (.t 53) (.seq (.reg [o 54 (.mv (.t 8)),o 2 (.mv (.c (.int .i32 65533))),o 3 (.mv (.t 54))]) .ret) .skip)) (.seq (.reg [o 55 (.mv (.t 7)),o 56 (.bin .shl (.t 55) (.c (.int .u64 6))),o 57 (.mv (.t 0)),o 58 (.mv (.t 8)),o 59 (.idxS (.t 57) (.t 58)),o 60 (.bin .and (.t 59) (.c (.int .u8 63))),o 61 (.cvi .i32 (.t 60)),o 62 (.bin .or (.t 56) (.t 61)),o 7 (.mv (.t 62))]) (.reg [o 5 (.mv (.c (.int .u8 128))),o 6 (.mv (.c (.int .u8 191)))])))) (.reg [o 34 (.mv (.t 8)),o 35 (.bin .add (.t 34) (.c (.int .i64 1))),o 8 (.mv (.t 35))])))))) (.seq (.reg [o 63 (.mv (.t 7)),o 64 (.mv (.t 4)),o 65 (.bin .add (.t 64) (.c (.int .i64 1))),o 2 (.mv (.t 63)),o 3 (.mv (.t 65))]) .ret)))))),[.tmp 2,.tmp 3]⟩
theorem hc60:Y6 Tryz.prog {pure:=[82]} Tryz.f60=some c60:=by kernel_rfl
theorem one_ok (s:List UInt8) (hs:s≠[]) (hl:s.length<=1073741824):PCalls (Pg G) 60 [.str s] (.tup [.int .i32 (KV s).1,Y0 (KV s).2]):=fun h=>by
 have hp:0<s.length:=List.length_pos_iff.2 hs
 have hb:=bt_byte s 0
 refine Z4 Tryz.func60 (by kernel_rfl) hc60 (by rw [Tryz.ntmps60];simp) (by rw [Tryz.ntmps60];decide) ?_
 simp -dsimp -implicitDefEqProofs (disch:=omega) only [↓Q0 40,↓Q2 40,↓Q0 47,↓Q2 47,VCA,Z1,↓Q3,Nat.reduceEqDiff,Nat.reduceBEq,Nat.reduceAdd,Nat.reduceSub,Nat.reduceMul,Nat.reduceLT,Nat.reduceLeDiff,↓reduceIte,reduceCtorEq,Z3,Q6,SOp.rd,SI.rd,SX.rd,rdL,rdO,rdP,Q5,Q4,Q1,Q8,Q7,Z0,implies_true,forall_const,forall_eq,ne_eq,exists_eq_right_right,exists_eq_right,exists_eq_left,exists_eq_left',Q9,X3,c60]
 refine ⟨by omega,?_⟩
 refine pcallE.of (lead_ok (bt s 0) hb.1 hb.2) ?_;simp -dsimp -implicitDefEqProofs (disch:=omega) only [↓Q0 40,↓Q2 40,↓Q0 47,↓Q2 47,VCA,Z1,↓Q3,Nat.reduceEqDiff,Nat.reduceBEq,Nat.reduceAdd,Nat.reduceSub,Nat.reduceMul,Nat.reduceLT,Nat.reduceLeDiff,↓reduceIte,reduceCtorEq,Z3,Q6,SOp.rd,SI.rd,SX.rd,rdL,rdO,rdP,Q5,Q4,Q1,Q8,Q7,Z0,implies_true,forall_const,forall_eq,ne_eq,exists_eq_right_right,exists_eq_right,exists_eq_left,exists_eq_left',Q9,X3]
 have hmo:=leadM_cases (bt s 0)
 have hO:KV s=if (K6 (bt s 0)).1<0 then (65533,1) else if (K6 (bt s 0)).1=0 then (bt s 0,1) else KT s (K6 (bt s 0)).1.toNat (K6 (bt s 0)).1.toNat 1 (K6 (bt s 0)).2.1 (K6 (bt s 0)).2.2 (bt s 0 % 2 ^ (6-(K6 (bt s 0)).1.toNat)):=rfl
 generalize K6 (bt s 0)=q at hmo hO
 obtain ⟨m,lo,hi⟩:=q
 simp only at hO
 simp only at hmo
 rcases hmo with rfl | rfl | ⟨m,hm1,hm3,rfl⟩
 ·have a1:decide ((-1:Int)<0)=true:=rfl
  simp -dsimp -implicitDefEqProofs (disch:=omega) only [↓Q0 40,↓Q2 40,↓Q0 47,↓Q2 47,VCA,Z1,↓Q3,Nat.reduceEqDiff,Nat.reduceBEq,Nat.reduceAdd,Nat.reduceSub,Nat.reduceMul,Nat.reduceLT,Nat.reduceLeDiff,↓reduceIte,reduceCtorEq,Z3,Q6,SOp.rd,SI.rd,SX.rd,rdL,rdO,rdP,Q5,Q4,Q1,Q8,Q7,Z0,implies_true,forall_const,forall_eq,ne_eq,exists_eq_right_right,exists_eq_right,exists_eq_left,exists_eq_left',Q9,X3,a1]
  rw [hO,if_pos (by decide)]
  exact ⟨Sub.refl _,rfl⟩
 ·have a2:decide ((0:Int)<0)=false:=rfl
  have b2:((0:Int)==0)=true:=rfl
  simp -dsimp -implicitDefEqProofs (disch:=omega) only [↓Q0 40,↓Q2 40,↓Q0 47,↓Q2 47,VCA,Z1,↓Q3,Nat.reduceEqDiff,Nat.reduceBEq,Nat.reduceAdd,Nat.reduceSub,Nat.reduceMul,Nat.reduceLT,Nat.reduceLeDiff,↓reduceIte,reduceCtorEq,Z3,Q6,SOp.rd,SI.rd,SX.rd,rdL,rdO,rdP,Q5,Q4,Q1,Q8,Q7,Z0,implies_true,forall_const,forall_eq,ne_eq,exists_eq_right_right,exists_eq_right,exists_eq_left,exists_eq_left',Q9,X3,a2,b2]
  refine ⟨⟨by omega,by omega⟩,Sub.refl _,?_⟩
  rw [hO,if_neg (by decide),if_pos rfl]
  have:IntKind.i32.wrap (bt s 0)=bt s 0:=by rw [IntKind.wrap_i32];omega
  exact congrArg (fun z=>AVal.tup [AVal.int IntKind.i32 z,AVal.int IntKind.i64 1]) this
 ·have a3:decide ((m:Int)<0)=false:=by simp
  have b3:((m:Int)==0)=false:=by simp;omega
  have e3:¬ (m:Int)<0:=by omega
  have e4:¬ (m:Int)=0:=by omega
  simp -dsimp -implicitDefEqProofs (disch:=omega) only [↓Q0 40,↓Q2 40,↓Q0 47,↓Q2 47,VCA,Z1,↓Q3,Nat.reduceEqDiff,Nat.reduceBEq,Nat.reduceAdd,Nat.reduceSub,Nat.reduceMul,Nat.reduceLT,Nat.reduceLeDiff,↓reduceIte,reduceCtorEq,Z3,Q6,SOp.rd,SI.rd,SX.rd,rdL,rdO,rdP,Q5,Q4,Q1,Q8,Q7,Z0,implies_true,forall_const,forall_eq,ne_eq,exists_eq_right_right,exists_eq_right,exists_eq_left,exists_eq_left',Q9,X3,a3,b3]
  refine ⟨⟨by omega,by omega⟩,by omega,?_⟩
  have hmk:=mask_ok hm1 hm3 hb.1 hb.2
  rw [if_neg e3,if_neg e4,Int.toNat_natCast] at hO
  have hn1:0<=bt s 0 % 2 ^ (6-m)/\bt s 0 % 2 ^ (6-m)<32:=by
   rcases (by omega:m=1\/m=2\/m=3) with rfl | rfl | rfl <;> (simp only [Nat.reduceSub];omega)
  refine LoopVC.intro (fun q e h'=>∃ (f i:Nat) (lo' hi' n:Int),q=f/\i+f=m+1/\1<=i/\e 0=.str s/\e 4=Y0 m/\e 5=.int .u8 lo'/\e 6=.int .u8 hi'/\e 7=.int .i32 n/\e 8=Y0 i/\i<=s.length /\
   KT s m f i lo' hi' n=KV s/\0<=n/\(i=1->n<32)/\(i=2->n<2048)/\(i=3->n<131072)/\(i=4->n<8388608)/\h'=h) m ⟨m,1,lo,hi,bt s 0 % 2 ^ (6-m),rfl,by omega,by omega,rfl,rfl,rfl,rfl,?_,rfl,by omega,hO.symm,by omega,by omega,by omega,by omega,by omega,rfl⟩ ?_
  ·exact congrArg (AVal.int .i32) hmk
  ·rintro q e h' ⟨f,i,lo',hi',n,rfl,hif,hi1,he0,he4,he5,he6,he7,he8,his,hC,hn0,hn1,hn2,hn3,hn4,rfl⟩
   simp -dsimp -implicitDefEqProofs (disch:=omega) only [↓Q0 40,↓Q2 40,↓Q0 47,↓Q2 47,VCA,Z1,↓Q3,Nat.reduceEqDiff,Nat.reduceBEq,Nat.reduceAdd,Nat.reduceSub,Nat.reduceMul,Nat.reduceLT,Nat.reduceLeDiff,↓reduceIte,reduceCtorEq,Z3,Q6,SOp.rd,SI.rd,SX.rd,rdL,rdO,rdP,Q5,Q4,Q1,Q8,Q7,Z0,implies_true,forall_const,forall_eq,ne_eq,exists_eq_right_right,exists_eq_right,exists_eq_left,exists_eq_left',Q9,X3,he0,he4,he5,he6,he7,he8]
   refine Br.dec (fun hlt=>?_) (fun hge=>?_)
   ·obtain ⟨f,rfl⟩:∃ f',q=f'+1:=⟨q-1,by omega⟩
    unfold KT at hC
    simp -dsimp -implicitDefEqProofs (disch:=omega) only [↓Q0 40,↓Q2 40,↓Q0 47,↓Q2 47,VCA,Z1,↓Q3,Nat.reduceEqDiff,Nat.reduceBEq,Nat.reduceAdd,Nat.reduceSub,Nat.reduceMul,Nat.reduceLT,Nat.reduceLeDiff,↓reduceIte,reduceCtorEq,Z3,Q6,SOp.rd,SI.rd,SX.rd,rdL,rdO,rdP,Q5,Q4,Q1,Q8,Q7,Z0,implies_true,forall_const,forall_eq,ne_eq,exists_eq_right_right,exists_eq_right,exists_eq_left,exists_eq_left',Q9,X3,he0,he4,he5,he6,he7,he8]
    refine Br.eq (fun h2=>?_) (fun h2=>?_)
    ·rw [if_pos (.inl (by omega))] at hC
     simp -dsimp -implicitDefEqProofs (disch:=omega) only [↓Q0 40,↓Q2 40,↓Q0 47,↓Q2 47,VCA,Z1,↓Q3,Nat.reduceEqDiff,Nat.reduceBEq,Nat.reduceAdd,Nat.reduceSub,Nat.reduceMul,Nat.reduceLT,Nat.reduceLeDiff,↓reduceIte,reduceCtorEq,Z3,Q6,SOp.rd,SI.rd,SX.rd,rdL,rdO,rdP,Q5,Q4,Q1,Q8,Q7,Z0,implies_true,forall_const,forall_eq,ne_eq,exists_eq_right_right,exists_eq_right,exists_eq_left,exists_eq_left',Q9,X3,he0,he4,he5,he6,he7,he8]
     refine ⟨Sub.refl _,?_⟩
     rw [<-hC]
    ·have hbi:=bt_byte s i
     simp -dsimp -implicitDefEqProofs (disch:=omega) only [↓Q0 40,↓Q2 40,↓Q0 47,↓Q2 47,VCA,Z1,↓Q3,Nat.reduceEqDiff,Nat.reduceBEq,Nat.reduceAdd,Nat.reduceSub,Nat.reduceMul,Nat.reduceLT,Nat.reduceLeDiff,↓reduceIte,reduceCtorEq,Z3,Q6,SOp.rd,SI.rd,SX.rd,rdL,rdO,rdP,Q5,Q4,Q1,Q8,Q7,Z0,implies_true,forall_const,forall_eq,ne_eq,exists_eq_right_right,exists_eq_right,exists_eq_left,exists_eq_left',Q9,X3,he0,he4,he5,he6,he7,he8]
     refine ⟨by omega,?_⟩
     refine Br.dec (fun h3=>?_) (fun h3=>?_)
     ·rw [if_pos (.inr (.inl h3))] at hC
      simp -dsimp -implicitDefEqProofs (disch:=omega) only [↓Q0 40,↓Q2 40,↓Q0 47,↓Q2 47,VCA,Z1,↓Q3,Nat.reduceEqDiff,Nat.reduceBEq,Nat.reduceAdd,Nat.reduceSub,Nat.reduceMul,Nat.reduceLT,Nat.reduceLeDiff,↓reduceIte,reduceCtorEq,Z3,Q6,SOp.rd,SI.rd,SX.rd,rdL,rdO,rdP,Q5,Q4,Q1,Q8,Q7,Z0,implies_true,forall_const,forall_eq,ne_eq,exists_eq_right_right,exists_eq_right,exists_eq_left,exists_eq_left',Q9,X3,he0,he4,he5,he6,he7,he8]
      refine ⟨Sub.refl _,?_⟩
      rw [<-hC]
     ·simp -dsimp -implicitDefEqProofs (disch:=omega) only [↓Q0 40,↓Q2 40,↓Q0 47,↓Q2 47,VCA,Z1,↓Q3,Nat.reduceEqDiff,Nat.reduceBEq,Nat.reduceAdd,Nat.reduceSub,Nat.reduceMul,Nat.reduceLT,Nat.reduceLeDiff,↓reduceIte,reduceCtorEq,Z3,Q6,SOp.rd,SI.rd,SX.rd,rdL,rdO,rdP,Q5,Q4,Q1,Q8,Q7,Z0,implies_true,forall_const,forall_eq,ne_eq,exists_eq_right_right,exists_eq_right,exists_eq_left,exists_eq_left',Q9,X3,he0,he4,he5,he6,he7,he8]
      refine ⟨by omega,?_⟩
      refine Br.dec (fun h4=>?_) (fun h4=>?_)
      ·rw [if_pos (.inr (.inr h4))] at hC
       simp -dsimp -implicitDefEqProofs (disch:=omega) only [↓Q0 40,↓Q2 40,↓Q0 47,↓Q2 47,VCA,Z1,↓Q3,Nat.reduceEqDiff,Nat.reduceBEq,Nat.reduceAdd,Nat.reduceSub,Nat.reduceMul,Nat.reduceLT,Nat.reduceLeDiff,↓reduceIte,reduceCtorEq,Z3,Q6,SOp.rd,SI.rd,SX.rd,rdL,rdO,rdP,Q5,Q4,Q1,Q8,Q7,Z0,implies_true,forall_const,forall_eq,ne_eq,exists_eq_right_right,exists_eq_right,exists_eq_left,exists_eq_left',Q9,X3,he0,he4,he5,he6,he7,he8]
       refine ⟨Sub.refl _,?_⟩
       rw [<-hC]
      ·have hno:¬ (i=s.length\/bt s i<lo'\/hi'<bt s i):=not_or.2 ⟨by omega,not_or.2 ⟨h3,h4⟩⟩
       rw [if_neg hno] at hC
       have hj:=join_ok (n:=n) (b:=bt s i) hn0 (by
        rcases (by omega:i=1\/i=2\/i=3) with h | h | h
        ·have:=hn1 h;omega
        ·have:=hn2 h;omega
        ·have:=hn3 h;omega) hbi.1 hbi.2
       simp -dsimp -implicitDefEqProofs (disch:=omega) only [↓Q0 40,↓Q2 40,↓Q0 47,↓Q2 47,VCA,Z1,↓Q3,Nat.reduceEqDiff,Nat.reduceBEq,Nat.reduceAdd,Nat.reduceSub,Nat.reduceMul,Nat.reduceLT,Nat.reduceLeDiff,↓reduceIte,reduceCtorEq,Z3,Q6,SOp.rd,SI.rd,SX.rd,rdL,rdO,rdP,Q5,Q4,Q1,Q8,Q7,Z0,implies_true,forall_const,forall_eq,ne_eq,exists_eq_right_right,exists_eq_right,exists_eq_left,exists_eq_left',Q9,X3,he0,he4,he5,he6,he7,he8]
       refine ⟨by omega,by omega,⟨f,by omega,f,i+1,128,191,n*64+bt s i % 64,rfl,by omega,by omega,rfl,rfl,?_,by omega,by omega,hC,by omega,by omega,fun h=>?_,fun h=>?_,fun h=>?_⟩⟩
       ·exact hj
       ·have:=hn1 (by omega);omega
       ·have:=hn2 (by omega);omega
       ·have:=hn3 (by omega);omega
   ·simp -dsimp -implicitDefEqProofs (disch:=omega) only [↓Q0 40,↓Q2 40,↓Q0 47,↓Q2 47,VCA,Z1,↓Q3,Nat.reduceEqDiff,Nat.reduceBEq,Nat.reduceAdd,Nat.reduceSub,Nat.reduceMul,Nat.reduceLT,Nat.reduceLeDiff,↓reduceIte,reduceCtorEq,Z3,Q6,SOp.rd,SI.rd,SX.rd,rdL,rdO,rdP,Q5,Q4,Q1,Q8,Q7,Z0,implies_true,forall_const,forall_eq,ne_eq,exists_eq_right_right,exists_eq_right,exists_eq_left,exists_eq_left',Q9,X3,he0,he4,he5,he6,he7,he8]
    obtain rfl:q=0:=by omega
    unfold KT at hC
    refine ⟨Sub.refl _,?_⟩
    rw [<-hC]
    rfl
theorem contM_n (s:List UInt8) (m:Nat):∀ (f i:Nat) (lo hi n:Int),i+f=m+1->1<=i->i<=s.length->1<=(KT s m f i lo hi n).2/\(KT s m f i lo hi n).2<=s.length
 | 0,i,lo,hi,n,h,h1,h2=>by simp [KT];omega
 | f+1,i,lo,hi,n,h,h1,h2=>by
   unfold KT
   split
   ·exact ⟨h1,h2⟩
   ·exact contM_n s m f (i+1) _ _ _ (by omega) (by omega) (by omega)
theorem oneM_n {s:List UInt8} (hs:s≠[]):1<=(KV s).2/\(KV s).2<=s.length:=by
 have hp:0<s.length:=List.length_pos_iff.2 hs
 unfold KV
 simp only
 split
 ·simp;omega
 ·split
  ·simp;omega
  ·exact contM_n s _ _ _ _ _ _ (by omega) (by omega) (by omega)
theorem contM_r (s:List UInt8) (m:Nat) (hm:m<=3):∀ (f i:Nat) (lo hi n:Int),i+f=m+1->0<=n->n<32*64 ^ (i-1)->1<=i->0<=(KT s m f i lo hi n).1/\(KT s m f i lo hi n).1<8388608
 | 0,i,lo,hi,n,h,h0,h1,h2=>by
   unfold KT
   rcases (by omega:i=1\/i=2\/i=3\/i=4) with rfl | rfl | rfl | rfl <;> (simp at h1;omega)
 | f+1,i,lo,hi,n,h,h0,h1,h2=>by
   unfold KT
   split
   ·simp
   ·have hb:=bt_byte s i
    refine contM_r s m hm f (i+1) _ _ _ (by omega) (by omega) ?_ (by omega)
    have:32*(64:Int) ^ (i+1-1)=(32*64 ^ (i-1))*64:=by
     have:i+1-1=(i-1)+1:=by omega
     rw [this,Int.pow_succ];omega
    omega
theorem oneM_r (s:List UInt8):0<=(KV s).1/\(KV s).1<8388608:=by
 have hb:=bt_byte s 0
 unfold KV
 simp only
 split
 ·simp
 ·split
  ·simp;omega
  ·rename_i h1 h2
   rcases leadM_cases (bt s 0) with h | h | ⟨m,hm1,hm3,h⟩
   ·omega
   ·omega
   ·rw [h,Int.toNat_natCast]
    refine contM_r s m hm3 m 1 _ _ _ (by omega) ?_ ?_ (by omega)
    ·rcases (by omega:m=1\/m=2\/m=3) with rfl | rfl | rfl <;> (simp only [Nat.reduceSub];omega)
    ·rcases (by omega:m=1\/m=2\/m=3) with rfl | rfl | rfl <;> (simp only [Nat.reduceSub];omega)
def decD (s:List UInt8):List Int:=if h:s=[] then [] else (KV s).1 :: decD (s.drop (KV s).2)
termination_by s.length
decreasing_by
 have:=oneM_n h
 rw [List.length_drop];omega
theorem decD_nil:decD []=[]:=by unfold decD;rfl
theorem decD_cons {s:List UInt8} (h:s≠[]):decD s=(KV s).1 :: decD (s.drop (KV s).2):=by
 rw [decD];rw [dif_neg h]
abbrev Ti:Nat:=21
abbrev Rn:={ r:Int // 0<=r/\r<8388608 }
def oneR (s:List UInt8):Rn:=⟨(KV s).1,oneM_r s⟩
def sgnM (s:List UInt8) (i:Nat):List (Nat×Rn):=if h:i<s.length then (i,oneR (s.drop i)) :: sgnM s (i+(KV (s.drop i)).2) else []
termination_by s.length-i
decreasing_by
 have h1:=oneM_n (s:=s.drop i) (by intro h2;have:=congrArg List.length h2;simp at this;omega)
 omega
theorem sgnM_end {s:List UInt8} {i:Nat} (h:¬ i<s.length):sgnM s i=[]:=by rw [sgnM,dif_neg h]
theorem sgnM_on {s:List UInt8} {i:Nat} (h:i<s.length):sgnM s i=(i,oneR (s.drop i)) :: sgnM s (i+(KV (s.drop i)).2):=by
 conv=>lhs;rw [sgnM,dif_pos h]
theorem sgnM_dec (s:List UInt8) (i:Nat) (hi:i<=s.length):(sgnM s i).map (·.2.1)=decD (s.drop i):=by
 by_cases h:i<s.length
 ·have hne:s.drop i≠[]:=by intro h2;have:=congrArg List.length h2;simp at this;omega
  have hn:=oneM_n hne
  rw [List.length_drop] at hn
  rw [sgnM_on h,decD_cons hne,List.map_cons,sgnM_dec s (i+(KV (s.drop i)).2) (by omega),List.drop_drop]
  rfl
 ·rw [sgnM_end h,List.drop_eq_nil_of_le (by omega),decD_nil];rfl
termination_by s.length-i
def eSgn (x:Nat×Rn):List AVal:=[Y0 x.1,.int .i32 x.2.1]
def c59:ICode:=(.seq (.reg [.op ⟨some 3,.mv (.c (.int .i64 0)),none⟩]) (.block 0 (.loop (.seq (.seq (.reg [.op ⟨some 6,.mv (.t 3),none⟩,.op ⟨some 7,.ld 1 false (.t 1),none⟩,.op ⟨some 8,.lenS (.t 7),none⟩,.op ⟨some 9,.bin .lss (.t 6) (.t 8),none⟩]) (.cond (.t 9) .skip (.exit 0))) (.block 1 (.seq (.reg [.op ⟨some 11,.ld 1 false (.t 1),none⟩,.op ⟨some 12,.mv (.t 3),none⟩,.op ⟨some 13,.slS (.t 11) (some (.t 12)) none,none⟩,.op ⟨some 14,.pcall 60 [.t 13],none⟩,.op ⟨some 10,.mv (.t 14),none⟩,.op ⟨some 15,.ext (.t 10) 0,none⟩,.op ⟨some 16,.ext (.t 10) 1,none⟩,.op ⟨some 4,.mv (.t 15),none⟩,.op ⟨some 5,.mv (.t 16),none⟩]) (.seq (.seq (.reg [.op ⟨some 17,.mv (.t 0),none⟩,.op ⟨some 18,.mv (.t 3),none⟩,.op ⟨some 19,.mv (.t 4),none⟩,.yld (some 20) (.t 17) [.t 18,.t 19],.op ⟨some 21,.un .not (.t 20),none⟩]) (.cond (.t 21) .ret .skip)) (.reg [.op ⟨some 22,.mv (.t 3),none⟩,.op ⟨some 23,.mv (.t 5),none⟩,.op ⟨some 24,.bin .add (.t 22) (.t 23),none⟩,.op ⟨some 3,.mv (.t 24),none⟩]))))))))
theorem hc59:toIF Tryz.prog {pure:=[60]} 2 Tryz.f59=some c59:=by kernel_rfl
theorem signs1_it (s:List UInt8) (hl:s.length<=1073741824):IterV (Pg G) 59 [.pin [.str s]] eSgn (sgnM s 0) (s.length+1):=by
 refine iterV_of_itv Tryz.func59 (by kernel_rfl) hc59 (by rw [Tryz.ntmps59];simp) (by rw [Tryz.ntmps59];decide) ?_ ?_ ?_
 ·intro c hc
  simp at hc;subst hc
  exact .pin _ (fun c hc=>by simp at hc;subst hc;exact .str _)
 ·intro x y hy
  simp [eSgn] at hy
  rcases hy with rfl | rfl <;> exact .inl (by constructor)
 ·intro l
  simp -dsimp -implicitDefEqProofs (disch:=omega) only [VCA,Z1,↓Q3,Nat.reduceEqDiff,Nat.reduceBEq,Nat.reduceAdd,Nat.reduceSub,Nat.reduceMul,Nat.reduceLT,Nat.reduceLeDiff,↓reduceIte,reduceCtorEq,Z3,Q6,SOp.rd,SI.rd,SX.rd,rdL,rdO,rdP,Q5,Q4,Q1,Q8,Q7,Z0,implies_true,forall_const,forall_eq,ne_eq,exists_eq_right_right,exists_eq_right,exists_eq_left,exists_eq_left',Q9,X3,IT1,IT2,IT3,aft_lo,aft_hi,c59]
  refine itLoop.intro (fun m b p e=>∃ i:Nat,m=s.length-i/\i<=s.length/\b=false/\p.length<=i/\p++sgnM s i=sgnM s 0/\e 0=.prim (.func (.yield l) #[] #[])/\e 1=.pin [.str s]/\e 3=Y0 i) s.length ⟨0,rfl,by omega,rfl,by simp,rfl,rfl,rfl,rfl⟩ ?_
  rintro m b p e ⟨i,rfl,hi,rfl,hp,hP,he0,he1,he3⟩
  simp -dsimp -implicitDefEqProofs (disch:=omega) only [VCA,Z1,↓Q3,Nat.reduceEqDiff,Nat.reduceBEq,Nat.reduceAdd,Nat.reduceSub,Nat.reduceMul,Nat.reduceLT,Nat.reduceLeDiff,↓reduceIte,reduceCtorEq,Z3,Q6,SOp.rd,SI.rd,SX.rd,rdL,rdO,rdP,Q5,Q4,Q1,Q8,Q7,Z0,implies_true,forall_const,forall_eq,ne_eq,exists_eq_right_right,exists_eq_right,exists_eq_left,exists_eq_left',Q9,X3,IT1,IT2,IT3,aft_lo,aft_hi,he0,he1,he3]
  refine Br.dec (fun hlt=>?_) (fun hge=>?_)
  ·simp -dsimp -implicitDefEqProofs (disch:=omega) only [VCA,Z1,↓Q3,Nat.reduceEqDiff,Nat.reduceBEq,Nat.reduceAdd,Nat.reduceSub,Nat.reduceMul,Nat.reduceLT,Nat.reduceLeDiff,↓reduceIte,reduceCtorEq,Z3,Q6,SOp.rd,SI.rd,SX.rd,rdL,rdO,rdP,Q5,Q4,Q1,Q8,Q7,Z0,implies_true,forall_const,forall_eq,ne_eq,exists_eq_right_right,exists_eq_right,exists_eq_left,exists_eq_left',Q9,X3,IT1,IT2,IT3,aft_lo,aft_hi,he0,he1,he3]
   have hne:s.drop i≠[]:=by intro h2;have:=congrArg List.length h2;simp at this;omega
   have hn:=oneM_n hne
   rw [List.length_drop] at hn
   rw [sgnM_on (by omega)] at hP
   refine ⟨by omega,?_⟩
   refine pcallE.of (one_ok (s.drop i) hne (by simp;omega)) ?_;simp -dsimp -implicitDefEqProofs (disch:=omega) only [VCA,Z1,↓Q3,Nat.reduceEqDiff,Nat.reduceBEq,Nat.reduceAdd,Nat.reduceSub,Nat.reduceMul,Nat.reduceLT,Nat.reduceLeDiff,↓reduceIte,reduceCtorEq,Z3,Q6,SOp.rd,SI.rd,SX.rd,rdL,rdO,rdP,Q5,Q4,Q1,Q8,Q7,Z0,implies_true,forall_const,forall_eq,ne_eq,exists_eq_right_right,exists_eq_right,exists_eq_left,exists_eq_left',Q9,X3,IT1,IT2,IT3,aft_lo,aft_hi,he0,he1,he3]
   refine ⟨by omega,(i,oneR (s.drop i)),rfl,?_⟩
   refine ⟨⟨_,?_,i+(KV (s.drop i)).2,rfl,by omega,by simp;omega,by simp [hP],by omega⟩,?_⟩
   ·omega
   ·exact ⟨sgnM s (i+(KV (s.drop i)).2),by rw [<-hP];simp⟩
  ·simp -dsimp -implicitDefEqProofs (disch:=omega) only [VCA,Z1,↓Q3,Nat.reduceEqDiff,Nat.reduceBEq,Nat.reduceAdd,Nat.reduceSub,Nat.reduceMul,Nat.reduceLT,Nat.reduceLeDiff,↓reduceIte,reduceCtorEq,Z3,Q6,SOp.rd,SI.rd,SX.rd,rdL,rdO,rdP,Q5,Q4,Q1,Q8,Q7,Z0,implies_true,forall_const,forall_eq,ne_eq,exists_eq_right_right,exists_eq_right,exists_eq_left,exists_eq_left',Q9,X3,IT1,IT2,IT3,aft_lo,aft_hi]
   rw [sgnM_end (by omega),List.append_nil] at hP
   exact hP
def c42:SFun:=⟨.seq (.reg [o 1 (.boxF 9 1 (.t 0)),o 2 (.mv (.c (.prim .nilFunc)))]) (.seq (.reg [o 3 (.mkf 59 [] [.t 1]),o 2 (.mv (.t 3))]) .ret),[.tmp 2]⟩
theorem hc42:Y6 Tryz.prog {} Tryz.f42=some c42:=by kernel_rfl
theorem signs_ok (s:List UInt8):PCalls (Pg G) 42 [.str s] (.fn 59 [] [.pin [.str s]]):=fun h=>by
 refine Z4 Tryz.func42 (by kernel_rfl) hc42 (by rw [Tryz.ntmps42];simp) (by rw [Tryz.ntmps42];decide) ?_
 simp -dsimp -implicitDefEqProofs (disch:=omega) only [VCA,Z1,↓Q3,Nat.reduceEqDiff,Nat.reduceBEq,Nat.reduceAdd,Nat.reduceSub,Nat.reduceMul,Nat.reduceLT,Nat.reduceLeDiff,↓reduceIte,reduceCtorEq,Z3,Q6,SOp.rd,SI.rd,SX.rd,rdL,rdO,rdP,Q5,Q4,Q1,Q8,Q7,Z0,implies_true,forall_const,forall_eq,ne_eq,exists_eq_right_right,exists_eq_right,exists_eq_left,exists_eq_left',Q9,X3,IT1,IT2,IT3,aft_lo,aft_hi,c42]
 exact Sub.refl _
theorem upd_comm {α:Type} (f:Nat->α) {a b:Nat} (h:a≠b) (x y:α):upd (upd f a x) b y=upd (upd f b y) a x:=by
 funext t;unfold upd;by_cases h1:t=a <;> by_cases h2:t=b <;> simp_all
theorem Bl.strp {h0 h:Z2} {rb:Nat} {s:List UInt8} (hh:∀ t o,h0 t=some o->o.ty.isM=false\/h t=some o):Strp h (Bl h0 rb s):=by
 rintro h' h'' ⟨h1,p,buf,hp,hb,A,S⟩ hle hk
 refine ⟨h1,p,buf,hp,hb,?_,fun t o ht=>?_⟩
 ·rcases A with h2 | ⟨r,q1,q2,q3⟩
  ·exact .inl h2
  ·exact .inr ⟨r,q1,hk r _ q2 (.inl rfl),q3⟩
 ·by_cases e:t=rb
  ·subst e
   rw [Z9] at ht;cases ht
   exact hk t _ (S t _ (Z9 _ _ _)) (.inl rfl)
  ·exact hk t o (S t o ht) (hh t o (by rwa [J7 _ _ e] at ht))
theorem Bl.beside {h0 h:Z2} {rb rl:Nat} {s:List UInt8} {x y:AObj} (hne:rl≠rb) (B:Bl (upd h0 rl (some x)) rb s h):Bl (upd h0 rl (some y)) rb s (upd h rl (some y)):=by
 obtain ⟨h1,p,buf,hp,hb,A,S⟩:=B
 rw [upd_comm _ hne] at A S
 refine ⟨by simpa [Sim.upd,hne.symm] using h1,p,buf,hp,hb,?_,?_⟩
 ·rw [upd_comm _ hne];exact TX A
 ·rw [upd_comm _ hne];exact sub_at S
theorem bl_is {h0 h:Z2} {rb rl:Nat} {s:List UInt8} {x:AObj} (hne:rl≠rb) (B:Bl (upd h0 rl (some x)) rb s h):h rl=some x:=by
 obtain ⟨h1,p,buf,hp,hb,A,S⟩:=B
 exact S rl x (by simp [Sim.upd,hne])
def QU (last r:Int):List Int:=if r=0 then [65533] else if r=13\/(r=10/\last≠13) then [10] else if r≠10 then [r] else []
def T4:Int->List Int->List Int
 | _,[]=>[]
 | last,r :: l=>QU last r++T4 r l
def lastD (l:List Int):Int:=l.getLastD 0
theorem cleanL_snoc (last:Int) (l:List Int) (r:Int):T4 last (l++[r])=T4 last l++QU (l.getLastD last) r:=by
 induction l generalizing last with
 | nil=>simp [T4]
 | cons x l ih=>
   simp only [List.cons_append,T4,ih,List.append_assoc]
   cases l <;> simp [List.getLastD]
theorem decD_len (s:List UInt8):∀ n,s.length<=n->(decD s).length<=s.length:=by
 intro n
 induction n generalizing s with
 | zero=>intro h;have:s=[]:=List.length_eq_zero_iff.1 (by omega);subst this;rw [decD_nil];simp
 | succ n ih=>
   intro h
   by_cases hs:s=[]
   ·subst hs;rw [decD_nil];simp
   ·rw [decD_cons hs]
    have:=oneM_n hs
    have:=ih (s.drop (KV s).2) (by rw [List.length_drop];omega)
    rw [List.length_drop] at this
    simp only [List.length_cons];omega
theorem cleanS_len (last r:Int):(QU last r).length<=1:=by
 unfold QU;repeat' split
 all_goals simp
theorem cleanL_len (l:List Int):∀ last,(T4 last l).length<=l.length:=by
 induction l with
 | nil=>intro last;simp [T4]
 | cons r l ih=>intro last;have:=ih r;have:=cleanS_len last r;simp [T4];omega
theorem encM_append (a b:List Int):encM (a++b)=encM a++encM b:=by simp [encM]
theorem encM_one (r:Int):encM [r]=Lib.encodeRune r:=by simp [encM]
theorem enc10:Lib.encodeRune 10=[10]:=by decide +kernel
def c31:SFun:=⟨.seq (.reg [o 2 (.mv (.c (.str [])))]) (.seq (.reg [o 3 (.new 49 2 [.prim (Value.pointer none),.emp])]) (.seq (.reg [o 4 (.new 21 1 [.int .i32 0]),⟨none,.st 1 (.t 4) (.c (.int .i32 0)),none⟩]) (.seq (.seq (.reg [o 7 (.mv (.t 0)),o 8 (.pcall 42 [.t 7])]) (.block 0 (.range (.t 8) [9,10] (.reg [o 6 (.mv (.t 10))]) (.block 1 (.seq (.block 2 (.seq (.reg [o 12 (.mv (.t 6)),o 13 (.bin .eql (.t 12) (.c (.int .i32 0))),o 11 (.mv (.t 13))]) (.cond (.t 11) (.reg [o 14 (.call (.c (.fn 43 [] [])) [.t 3,.c (.int .i32 65533)])]) (.seq (.seq (.reg [o 16 (.mv (.t 6)),o 17 (.bin .eql (.t 16) (.c (.int .i32 13))),o 15 (.mv (.t 17))]) (.cond (.t 15) .skip (.reg [o 18 (.mv (.t 6)),o 19 (.bin .eql (.t 18) (.c (.int .i32 10))),o 20 (.mv (.t 19)),⟨some 21,.ld 1 false (.t 4),some (20,true)⟩,⟨some 22,.bin .neq (.t 21) (.c (.int .i32 13)),some (20,true)⟩,o 23 (.pick (.t 20) (.t 22) (.c (.bool false))),o 15 (.mv (.t 23))]))) (.cond (.t 15) (.reg [o 24 (.call (.c (.fn 44 [] [])) [.t 3,.c (.int .u8 10)])]) (.seq (.reg [o 26 (.mv (.t 6)),o 27 (.bin .neq (.t 26) (.c (.int .i32 10))),o 25 (.mv (.t 27))]) (.cond (.t 25) (.reg [o 28 (.mv (.t 6)),o 29 (.call (.c (.fn 43 [] [])) [.t 3,.t 28])]) .skip))))))) (.reg [o 30 (.mv (.t 6)),⟨none,.st 1 (.t 4) (.t 30),none⟩])))))) (.seq (.reg [o 31 (.call (.c (.fn 14 [] [])) [.t 3]),o 2 (.mv (.t 31))]) .ret)))),[.tmp 2]⟩
theorem hc31:Y6 Tryz.prog {pure:=[42]} Tryz.f31=some c31:=by kernel_rfl
theorem clean_ok (s:List UInt8) (hl:s.length<=1073741824):PCalls (Pg G) 31 [.str s] (.str (encM (T4 0 (decD s)))):=fun h=>by
 refine Z4 Tryz.func31 (by kernel_rfl) hc31 (by rw [Tryz.ntmps31];simp) (by rw [Tryz.ntmps31];decide) ?_
 simp -dsimp -implicitDefEqProofs (disch:=omega) only [↓Q0 20,↓Q2 20,VCA,Z1,↓Q3,Nat.reduceEqDiff,Nat.reduceBEq,Nat.reduceAdd,Nat.reduceSub,Nat.reduceMul,Nat.reduceLT,Nat.reduceLeDiff,↓reduceIte,reduceCtorEq,Z3,Q6,SOp.rd,SI.rd,SX.rd,rdL,rdO,rdP,Q5,Q4,Q1,Q8,Q7,Z0,implies_true,forall_const,forall_eq,ne_eq,exists_eq_right_right,exists_eq_right,exists_eq_left,exists_eq_left',Q9,X3,c31]
 intro rb hb rl hne
 refine pcallE.of (signs_ok s) ?_;simp -dsimp -implicitDefEqProofs (disch:=omega) only [↓Q0 20,↓Q2 20,VCA,Z1,↓Q3,Nat.reduceEqDiff,Nat.reduceBEq,Nat.reduceAdd,Nat.reduceSub,Nat.reduceMul,Nat.reduceLT,Nat.reduceLeDiff,↓reduceIte,reduceCtorEq,Z3,Q6,SOp.rd,SI.rd,SX.rd,rdL,rdO,rdP,Q5,Q4,Q1,Q8,Q7,Z0,implies_true,forall_const,forall_eq,ne_eq,exists_eq_right_right,exists_eq_right,exists_eq_left,exists_eq_left',Q9,X3]
 have hlen:(sgnM s 0).length<=s.length:=by
  have:=congrArg List.length (sgnM_dec s 0 (by omega))
  rw [List.length_map,List.drop_zero] at this
  have:=decD_len s _ (Nat.le_refl _)
  omega
 have hle:∀ pre:List (Nat×Rn),(encM (T4 0 (pre.map (·.2.1)))).length<=4*pre.length:=fun pre=>by
  have h1:=encM_len (T4 0 (pre.map (·.2.1)))
  have h2:=cleanL_len (pre.map (·.2.1)) 0
  rw [List.length_map] at h2;omega
 have hnl:h rl=none:=hne.2
 refine RangeVC.intro (signs1_it s hl) rfl (fun _=>rfl) (fun pre h'=>Bl (upd h rl (some ⟨Ti,1,[[.int .i32 (lastD (pre.map (·.2.1)))]]⟩)) rb (encM (T4 0 (pre.map (·.2.1)))) h') (fun _ _ _=>False) ?_ ?_ ?_ ?_ ⟨fun pre=>Bl.strp fun t o ht=>?_,fun _ _ _ _ q=>q.elim⟩
 ·have:=Bl.new (upd h rl (some ⟨Ti,1,[[.int .i32 0]]⟩)) rb (by simpa [Sim.upd,Ne.symm hne.1] using hb)
  rw [upd_comm _ hne.1] at this
  exact this
 ·intro pre x h' B hN
  have hp:=hle pre
  have hrl:=bl_is hne.1 B
  have hx:T4 0 ((pre++[x]).map (·.2.1))=T4 0 (pre.map (·.2.1))++QU (lastD (pre.map (·.2.1))) x.2.1:=by
   rw [List.map_append,List.map_cons,List.map_nil,cleanL_snoc];rfl
  have hlast:lastD ((pre++[x]).map (·.2.1))=x.2.1:=by simp [lastD]
  have fin:∀ h2,Bl (upd h rl (some ⟨Ti,1,[[.int .i32 (lastD (pre.map (·.2.1)))]]⟩)) rb (encM (T4 0 (pre.map (·.2.1)))++encM (QU (lastD (pre.map (·.2.1))) x.2.1)) h2 -> 
   Bl (upd h rl (some ⟨Ti,1,[[.int .i32 (lastD ((pre++[x]).map (·.2.1)))]]⟩)) rb (encM (T4 0 ((pre++[x]).map (·.2.1)))) (upd h2 rl (some ⟨Ti,1,[[.int .i32 x.2.1]]⟩)):=fun h2 B2=>by
   rw [hx,hlast,encM_append]
   exact B2.beside hne.1
  simp -dsimp -implicitDefEqProofs (disch:=omega) only [↓Q0 20,↓Q2 20,VCA,Z1,↓Q3,Nat.reduceEqDiff,Nat.reduceBEq,Nat.reduceAdd,Nat.reduceSub,Nat.reduceMul,Nat.reduceLT,Nat.reduceLeDiff,↓reduceIte,reduceCtorEq,Z3,Q6,SOp.rd,SI.rd,SX.rd,rdL,rdO,rdP,Q5,Q4,Q1,Q8,Q7,Z0,implies_true,forall_const,forall_eq,ne_eq,exists_eq_right_right,exists_eq_right,exists_eq_left,exists_eq_left',Q9,X3,eSgn]
  repeat' (first | ((with_reducible refine brC (fun _=>?_) fun _=>?_) <;> try (exfalso;omega)) | (with_reducible refine And.intro ?_ ?_; · omega) | simp -dsimp -implicitDefEqProofs (disch:=omega) only [↓Q0 20,↓Q2 20,VCA,Z1,↓Q3,Nat.reduceEqDiff,Nat.reduceBEq,Nat.reduceAdd,Nat.reduceSub,Nat.reduceMul,Nat.reduceLT,Nat.reduceLeDiff,↓reduceIte,reduceCtorEq,Z3,Q6,SOp.rd,SI.rd,SX.rd,rdL,rdO,rdP,Q5,Q4,Q1,Q8,Q7,Z0,implies_true,forall_const,forall_eq,ne_eq,exists_eq_right_right,exists_eq_right,exists_eq_left,exists_eq_left',Q9,X3,eSgn,hrl])
  ·have hs:QU (lastD (pre.map (·.2.1))) x.2.1=[65533]:=by unfold QU;rw [if_pos (by assumption)]
   rw [hs,encM_one] at fin
   refine DCalls.of (writeRune_ok 65533 B (by omega) (by omega) (by omega)) ?_
   rintro a h2 ⟨⟨n,rfl⟩,B'⟩
   simp -dsimp -implicitDefEqProofs (disch:=omega) only [↓Q0 20,↓Q2 20,VCA,Z1,↓Q3,Nat.reduceEqDiff,Nat.reduceBEq,Nat.reduceAdd,Nat.reduceSub,Nat.reduceMul,Nat.reduceLT,Nat.reduceLeDiff,↓reduceIte,reduceCtorEq,Z3,Q6,SOp.rd,SI.rd,SX.rd,rdL,rdO,rdP,Q5,Q4,Q1,Q8,Q7,Z0,implies_true,forall_const,forall_eq,ne_eq,exists_eq_right_right,exists_eq_right,exists_eq_left,exists_eq_left',Q9,X3,bl_is hne.1 B']
   exact fin _ B'
  ·have hs:QU (lastD (pre.map (·.2.1))) x.2.1=[10]:=by unfold QU;rw [if_neg (by omega),if_pos (by omega)]
   rw [hs,encM_one,enc10] at fin
   refine DCalls.of (writeByte_ok 10 B (by omega)) ?_
   rintro a h2 ⟨rfl,B'⟩
   simp -dsimp -implicitDefEqProofs (disch:=omega) only [↓Q0 20,↓Q2 20,VCA,Z1,↓Q3,Nat.reduceEqDiff,Nat.reduceBEq,Nat.reduceAdd,Nat.reduceSub,Nat.reduceMul,Nat.reduceLT,Nat.reduceLeDiff,↓reduceIte,reduceCtorEq,Z3,Q6,SOp.rd,SI.rd,SX.rd,rdL,rdO,rdP,Q5,Q4,Q1,Q8,Q7,Z0,implies_true,forall_const,forall_eq,ne_eq,exists_eq_right_right,exists_eq_right,exists_eq_left,exists_eq_left',Q9,X3,bl_is hne.1 B']
   exact fin _ B'
  ·have hs:QU (lastD (pre.map (·.2.1))) x.2.1=[10]:=by unfold QU;rw [if_neg (by omega),if_pos (by omega)]
   rw [hs,encM_one,enc10] at fin
   refine DCalls.of (writeByte_ok 10 B (by omega)) ?_
   rintro a h2 ⟨rfl,B'⟩
   simp -dsimp -implicitDefEqProofs (disch:=omega) only [↓Q0 20,↓Q2 20,VCA,Z1,↓Q3,Nat.reduceEqDiff,Nat.reduceBEq,Nat.reduceAdd,Nat.reduceSub,Nat.reduceMul,Nat.reduceLT,Nat.reduceLeDiff,↓reduceIte,reduceCtorEq,Z3,Q6,SOp.rd,SI.rd,SX.rd,rdL,rdO,rdP,Q5,Q4,Q1,Q8,Q7,Z0,implies_true,forall_const,forall_eq,ne_eq,exists_eq_right_right,exists_eq_right,exists_eq_left,exists_eq_left',Q9,X3,bl_is hne.1 B']
   exact fin _ B'
  ·have hs:QU (lastD (pre.map (·.2.1))) x.2.1=[]:=by unfold QU;rw [if_neg (by omega),if_neg (by omega),if_neg (by omega)]
   rw [hs] at fin
   exact fin _ (by simpa [encM] using B)
  ·have hs:QU (lastD (pre.map (·.2.1))) x.2.1=[x.2.1]:=by unfold QU;rw [if_neg (by omega),if_neg (by omega),if_pos (by assumption)]
   rw [hs,encM_one] at fin
   have hxr:=x.2.2
   refine DCalls.of (writeRune_ok x.2.1 B (by omega) (by omega) (by omega)) ?_
   rintro a h2 ⟨⟨n,rfl⟩,B'⟩
   simp -dsimp -implicitDefEqProofs (disch:=omega) only [↓Q0 20,↓Q2 20,VCA,Z1,↓Q3,Nat.reduceEqDiff,Nat.reduceBEq,Nat.reduceAdd,Nat.reduceSub,Nat.reduceMul,Nat.reduceLT,Nat.reduceLeDiff,↓reduceIte,reduceCtorEq,Z3,Q6,SOp.rd,SI.rd,SX.rd,rdL,rdO,rdP,Q5,Q4,Q1,Q8,Q7,Z0,implies_true,forall_const,forall_eq,ne_eq,exists_eq_right_right,exists_eq_right,exists_eq_left,exists_eq_left',Q9,X3,bl_is hne.1 B']
   exact fin _ B'
 ·intro h' B
  have hp:=hle (sgnM s 0)
  have e:(sgnM s 0).map (·.2.1)=decD s:=by
   have:=sgnM_dec s 0 (by omega)
   rwa [List.drop_zero] at this
  rw [e] at B hp
  simp -dsimp -implicitDefEqProofs (disch:=omega) only [↓Q0 20,↓Q2 20,VCA,Z1,↓Q3,Nat.reduceEqDiff,Nat.reduceBEq,Nat.reduceAdd,Nat.reduceSub,Nat.reduceMul,Nat.reduceLT,Nat.reduceLeDiff,↓reduceIte,reduceCtorEq,Z3,Q6,SOp.rd,SI.rd,SX.rd,rdL,rdO,rdP,Q5,Q4,Q1,Q8,Q7,Z0,implies_true,forall_const,forall_eq,ne_eq,exists_eq_right_right,exists_eq_right,exists_eq_left,exists_eq_left',Q9,X3]
  refine DCalls.of (string_ok B (by omega)) ?_
  rintro a h2 ⟨rfl,S⟩
  simp -dsimp -implicitDefEqProofs (disch:=omega) only [↓Q0 20,↓Q2 20,VCA,Z1,↓Q3,Nat.reduceEqDiff,Nat.reduceBEq,Nat.reduceAdd,Nat.reduceSub,Nat.reduceMul,Nat.reduceLT,Nat.reduceLeDiff,↓reduceIte,reduceCtorEq,Z3,Q6,SOp.rd,SI.rd,SX.rd,rdL,rdO,rdP,Q5,Q4,Q1,Q8,Q7,Z0,implies_true,forall_const,forall_eq,ne_eq,exists_eq_right_right,exists_eq_right,exists_eq_left,exists_eq_left',Q9,X3]
  exact fun t o ht=>S t o (by rw [J7 _ _ (by rintro rfl;rw [hnl] at ht;cases ht)];exact ht)
 ·intro ex pre h' _ _ hh
  exact hh.elim
 ·by_cases e:t=rl
  ·subst e;rw [Z9] at ht;cases ht;exact .inl rfl
  ·rw [J7 _ _ e] at ht
   refine .inr ?_
   have e2:t≠rb:=fun q=>by subst q;rw [hb] at ht;cases ht
   simp [Sim.upd,e,e2,ht]
def hasPre (s p:List UInt8):Bool:=decide (p.length<=s.length)&&s.take p.length==p
def c49:SFun:=⟨.seq (.reg [o 4 (.mv (.c (.bool false)))]) (.seq (.reg [o 5 (.mv (.t 0)),o 6 (.lenS (.t 5)),o 7 (.mv (.t 1)),o 8 (.lenS (.t 7)),o 9 (.bin .geq (.t 6) (.t 8)),o 10 (.mv (.t 9)),⟨some 11,.mv (.t 0),some (10,true)⟩,⟨some 12,.mv (.t 1),some (10,true)⟩,⟨some 13,.lenS (.t 12),some (10,true)⟩,⟨some 14,.slS (.t 11) none (some (.t 13)),some (10,true)⟩,⟨some 15,.mv (.t 1),some (10,true)⟩,⟨some 16,.bin .eql (.t 14) (.t 15),some (10,true)⟩,o 17 (.pick (.t 10) (.t 16) (.c (.bool false))),o 4 (.mv (.t 17))]) .ret),[.tmp 4]⟩
theorem hc49:Y6 Tryz.prog {} Tryz.f49=some c49:=by kernel_rfl
theorem hn49 : (Tryz.f49.name == "runtime.NumGoroutine") = false := by kernel_rfl
theorem slHasPre_ok (s p:List UInt8) (hs:s.length<=1073741824) (hp:p.length<=1073741824):PCalls (Pg G) 49 [.str s,.str p] (.bool (hasPre s p)):=fun h=>by
 refine Z4 Tryz.func49 hn49 hc49 (by rw [Tryz.ntmps49];simp) (by rw [Tryz.ntmps49];decide) ?_
 simp -dsimp -implicitDefEqProofs (disch:=omega) only [↓Q0 10,↓Q2 10,VCA,Z1,↓Q3,Nat.reduceEqDiff,Nat.reduceBEq,Nat.reduceAdd,Nat.reduceSub,Nat.reduceMul,Nat.reduceLT,Nat.reduceLeDiff,↓reduceIte,reduceCtorEq,Z3,Q6,SOp.rd,SI.rd,SX.rd,rdL,rdO,rdP,Q5,Q4,Q1,Q8,Q7,Z0,implies_true,forall_const,forall_eq,ne_eq,exists_eq_right_right,exists_eq_right,exists_eq_left,exists_eq_left',Q9,X3,c49]
 refine Br.dec (fun h1=>?_) (fun h1=>?_)
 ·simp -dsimp -implicitDefEqProofs (disch:=omega) only [↓Q0 10,↓Q2 10,VCA,Z1,↓Q3,Nat.reduceEqDiff,Nat.reduceBEq,Nat.reduceAdd,Nat.reduceSub,Nat.reduceMul,Nat.reduceLT,Nat.reduceLeDiff,↓reduceIte,reduceCtorEq,Z3,Q6,SOp.rd,SI.rd,SX.rd,rdL,rdO,rdP,Q5,Q4,Q1,Q8,Q7,Z0,implies_true,forall_const,forall_eq,ne_eq,exists_eq_right_right,exists_eq_right,exists_eq_left,exists_eq_left',Q9,X3]
  have h1':p.length<=s.length:=by omega
  refine ⟨by omega,Sub.refl _,?_⟩
  simp [hasPre,h1']
 ·simp -dsimp -implicitDefEqProofs (disch:=omega) only [↓Q0 10,↓Q2 10,VCA,Z1,↓Q3,Nat.reduceEqDiff,Nat.reduceBEq,Nat.reduceAdd,Nat.reduceSub,Nat.reduceMul,Nat.reduceLT,Nat.reduceLeDiff,↓reduceIte,reduceCtorEq,Z3,Q6,SOp.rd,SI.rd,SX.rd,rdL,rdO,rdP,Q5,Q4,Q1,Q8,Q7,Z0,implies_true,forall_const,forall_eq,ne_eq,exists_eq_right_right,exists_eq_right,exists_eq_left,exists_eq_left',Q9,X3]
  have h1':¬ p.length<=s.length:=by omega
  exact ⟨Sub.refl _,by simp [hasPre,h1']⟩
def c36:SFun:=⟨.seq (.reg [o 4 (.mv (.c (.bool false)))]) (.seq (.reg [o 5 (.mv (.t 0)),o 6 (.mv (.t 1)),o 7 (.pcall 49 [.t 5,.t 6]),o 4 (.mv (.t 7))]) .ret),[.tmp 4]⟩
theorem hc36:Y6 Tryz.prog {pure:=[49]} Tryz.f36=some c36:=by kernel_rfl
theorem hn36 : (Tryz.f36.name == "runtime.NumGoroutine") = false := by kernel_rfl
theorem hasPre_ok (s p:List UInt8) (hs:s.length<=1073741824) (hp:p.length<=1073741824):PCalls (Pg G) 36 [.str s,.str p] (.bool (hasPre s p)):=fun h=>by
 refine Z4 Tryz.func36 hn36 hc36 (by rw [Tryz.ntmps36];simp) (by rw [Tryz.ntmps36];decide) ?_
 simp -dsimp -implicitDefEqProofs (disch:=omega) only [VCA,Z1,↓Q3,Nat.reduceEqDiff,Nat.reduceBEq,Nat.reduceAdd,Nat.reduceSub,Nat.reduceMul,Nat.reduceLT,Nat.reduceLeDiff,↓reduceIte,reduceCtorEq,Z3,Q6,SOp.rd,SI.rd,SX.rd,rdL,rdO,rdP,Q5,Q4,Q1,Q8,Q7,Z0,implies_true,forall_const,forall_eq,ne_eq,exists_eq_right_right,exists_eq_right,exists_eq_left,exists_eq_left',Q9,X3,c36]
 refine pcallE.of (slHasPre_ok s p hs hp) ?_;simp -dsimp -implicitDefEqProofs (disch:=omega) only [VCA,Z1,↓Q3,Nat.reduceEqDiff,Nat.reduceBEq,Nat.reduceAdd,Nat.reduceSub,Nat.reduceMul,Nat.reduceLT,Nat.reduceLeDiff,↓reduceIte,reduceCtorEq,Z3,Q6,SOp.rd,SI.rd,SX.rd,rdL,rdO,rdP,Q5,Q4,Q1,Q8,Q7,Z0,implies_true,forall_const,forall_eq,ne_eq,exists_eq_right_right,exists_eq_right,exists_eq_left,exists_eq_left',Q9,X3]
 exact Sub.refl _
structure EName where
 word:List UInt8
 sign:Int
 bare:Bool
deriving DecidableEq,Inhabited
def eName (x:EName):List AVal:=[.str x.word,.int .i32 x.sign,.bool x.bare]
instance:LenE eName 3:=⟨fun _=>rfl⟩
def c167:SFun:=⟨.seq (.reg [o 4 (.mv (.c (.str []))),o 5 (.mv (.c (.int .i64 0)))]) (.seq (.block 0 (.seq (.reg [o 7 (.mv (.t 0)),o 8 (.bin .eql (.t 7) (.c (.str []))),o 9 (.mv (.t 8)),⟨some 10,.mv (.t 0),some (9,false)⟩,⟨some 11,.idxS (.t 10) (.c (.int .i64 0)),some (9,false)⟩,⟨some 12,.bin .neq (.t 11) (.c (.int .u8 38)),some (9,false)⟩,o 13 (.pick (.t 9) (.c (.bool true)) (.t 12)),o 6 (.mv (.t 13))]) (.cond (.t 6) (.seq (.reg [o 4 (.mv (.c (.str []))),o 5 (.mv (.c (.int .i64 0)))]) .ret) (.seq (.reg [o 15 (.mv (.t 0)),o 16 (.lenS (.t 15)),o 17 (.bin .gtr (.t 16) (.c (.int .i64 1))),o 18 (.mv (.t 17)),⟨some 19,.mv (.t 0),some (18,true)⟩,⟨some 20,.idxS (.t 19) (.c (.int .i64 1)),some (18,true)⟩,⟨some 21,.bin .eql (.t 20) (.c (.int .u8 35)),some (18,true)⟩,o 22 (.pick (.t 18) (.t 21) (.c (.bool false))),o 14 (.mv (.t 22))]) (.cond (.t 14) (.seq (.reg [o 23 (.mv (.t 0)),o 24 (.pcall 209 [.t 23]),o 25 (.ext (.t 24) 0),o 26 (.ext (.t 24) 1),o 4 (.mv (.t 25)),o 5 (.mv (.t 26))]) .ret) .skip))))) (.seq (.reg [o 27 (.mv (.t 0)),o 28 (.mv (.t 1)),o 29 (.pcall 210 [.t 27,.t 28]),o 30 (.ext (.t 29) 0),o 31 (.ext (.t 29) 1),o 4 (.mv (.t 30)),o 5 (.mv (.t 31))]) .ret)),[.tmp 4,.tmp 5]⟩
theorem hc167:Y6 Tryz.prog {pure:=[209,210]} Tryz.f167=some c167:=by kernel_rfl
theorem hn167 : (Tryz.f167.name == "runtime.NumGoroutine") = false := by kernel_rfl
def c111:SFun:=⟨.seq (.reg [o 4 (.mv (.c (.str [])))]) (.seq (.reg [o 5 (.new 49 2 [.prim (Value.pointer none),.emp])]) (.seq (.block 0 (.loop (.seq (.seq (.reg [o 8 (.mv (.t 0)),o 9 (.bin .neq (.t 8) (.c (.str [])))]) (.cond (.t 9) .skip (.exit 0))) (.block 1 (.seq (.reg [o 11 (.mv (.t 0)),o 12 (.mv (.t 1)),o 13 (.pcall 167 [.t 11,.t 12]),o 10 (.mv (.t 13)),o 14 (.ext (.t 10) 0),o 15 (.ext (.t 10) 1),o 6 (.mv (.t 14)),o 7 (.mv (.t 15))]) (.seq (.seq (.reg [o 16 (.mv (.t 7)),o 17 (.bin .eql (.t 16) (.c (.int .i64 0)))]) (.cond (.t 17) (.reg [o 18 (.mv (.t 0)),o 19 (.slS (.t 18) none (some (.c (.int .i64 1)))),o 6 (.mv (.t 19)),o 7 (.mv (.c (.int .i64 1)))]) .skip)) (.seq (.reg [o 20 (.mv (.t 6)),o 21 (.call (.c (.fn 24 [] [])) [.t 5,.t 20])]) (.reg [o 22 (.mv (.t 0)),o 23 (.mv (.t 7)),o 24 (.slS (.t 22) (some (.t 23)) none),o 0 (.mv (.t 24))])))))))) (.seq (.reg [o 25 (.call (.c (.fn 14 [] [])) [.t 5]),o 4 (.mv (.t 25))]) .ret))),[.tmp 4]⟩
theorem hc111:Y6 Tryz.prog {pure:=[167]} Tryz.f111=some c111:=by kernel_rfl
theorem hn111 : (Tryz.f111.name == "runtime.NumGoroutine") = false := by kernel_rfl
def c76:SFun:=⟨.seq (.reg [o 2 (.mv (.c (.str [])))]) (.seq (.reg [o 3 (.mv (.t 0)),o 4 (.pcall 111 [.t 3,.c (.bool false)]),o 2 (.mv (.t 4))]) .ret),[.tmp 2]⟩
theorem hc76:Y6 Tryz.prog {pure:=[111]} Tryz.f76=some c76:=by kernel_rfl
theorem hn76 : (Tryz.f76.name == "runtime.NumGoroutine") = false := by kernel_rfl
def firstF (q:Nat->Bool):Nat->Nat->Nat
 | 0,a=>a
 | f+1,a=>if q a=true then a else firstF q f (a+1)
def YV (q:Nat->Bool) (n a:Nat):Nat:=firstF q (n-a) a
theorem first_on {q:Nat->Bool} {n a:Nat} (h:a<n) (hq:q a=false):YV q n a=YV q n (a+1):=by
 unfold YV
 obtain ⟨f,hf⟩:∃ f,n-a=f+1:=⟨n-a-1,by omega⟩
 rw [hf,show n-(a+1)=f by omega,firstF,hq,if_neg (by simp)]
theorem first_off {q:Nat->Bool} {n a:Nat} (hq:q a=true) (h:a<n):YV q n a=a:=by
 unfold YV
 obtain ⟨f,hf⟩:∃ f,n-a=f+1:=⟨n-a-1,by omega⟩
 rw [hf,firstF,hq,if_pos rfl]
theorem first_end {q:Nat->Bool} {n a:Nat} (h:n<=a):YV q n a=a:=by
 unfold YV
 rw [show n-a=0 by omega];rfl
structure FirstIs (q:Nat->Bool) (n a k:Nat):Prop where
 ge:a<=k
 le:k<=n
 hit:k<n->q k=true
 no:∀ j,a<=j->j<k->q j=false
theorem first_is {q:Nat->Bool} {n:Nat}:∀ m a,n-a=m->a<=n->FirstIs q n a (YV q n a)
 | 0,a,hm,h=>by
   obtain rfl:a=n:=by omega
   rw [first_end (Nat.le_refl _)]
   exact ⟨Nat.le_refl _,Nat.le_refl _,fun h=>absurd h (Nat.lt_irrefl _),fun j h1 h2=>by omega⟩
 | m+1,a,hm,h=>by
   cases hq:q a with
   | true=>
     rw [first_off hq (by omega)]
     exact ⟨Nat.le_refl _,h,fun _=>hq,fun j h1 h2=>by omega⟩
   | false=>
     rw [first_on (by omega) hq]
     obtain ⟨h1,h2,h3,h4⟩:=first_is (q:=q) (n:=n) m (a+1) (by omega) (by omega)
     refine ⟨by omega,h2,h3,fun j g1 g2=>?_⟩
     by_cases e:j=a
     ·rw [e];exact hq
     ·exact h4 j (by omega) g2
theorem fstI {q:Nat->Bool} {n a:Nat} (h:a<=n):FirstIs q n a (YV q n a):=first_is _ a rfl h
theorem FirstIs.eq {q:Nat->Bool} {n a k:Nat} (h:FirstIs q n a k):YV q n a=k:=by
 have g:=fstI (q:=q) (n:=n) (a:=a) (Nat.le_trans h.ge h.le)
 rcases Nat.lt_trichotomy (YV q n a) k with hl | he | hl
 ·have h1:=h.no _ g.ge hl
  rw [g.hit (Nat.lt_of_lt_of_le hl h.le)] at h1;cases h1
 ·exact he
 ·have h1:=g.no _ h.ge hl
  rw [h.hit (Nat.lt_of_lt_of_le hl g.le)] at h1;cases h1
def UW (b:Int):Bool:=b==32||(b==9||(b==10||(b==12||b==13)))
def rawM (nm:List UInt8):Int:=if nm=[115,99,114,105,112,116]\/nm=[115,116,121,108,101] then 1 else if nm=[116,101,120,116,97,114,101,97]\/nm=[116,105,116,108,101] then 2 else 0
structure HTok where
 kind:Int
 name:List UInt8
 attrs:List HAttr
 text:List UInt8
 self:Bool
 frm:Int
 til:Int
deriving DecidableEq,Inhabited
def eTok (t:HTok):List AVal:=[Y0 t.kind,.str t.name,sl Z5 t.attrs,.str t.text,.bool t.self,Y0 t.frm,Y0 t.til]
instance:LenE eTok 7:=⟨fun _=>rfl⟩
def eStr (s:List UInt8):List AVal:=[.str s]
instance:LenE eStr 1:=⟨fun _=>rfl⟩
def KJ (G:U5):Prop:=∃ m,G 0=.pin [Y0 m]
theorem contains_ok (hG:KJ G) (s t:List UInt8) (hs:s.length<4294967281):PCalls (Pg G) 67 [.str s,.str t] (.bool (Lib.contains s t)):=by
 obtain ⟨m,hG⟩:=hG
 refine PCalls.ofRun ⟨_,Tryz.func67,by kernel_rfl,by kernel_rfl⟩ fun g w vs GR V=>?_
 obtain ⟨u,v,rfl,hu,hv⟩:=V.two_inv
 rw [hu.str_inv',hv.str_inv']
 exact (Tryz.strings_Contains ⟨⟨s⟩⟩ ⟨⟨t⟩⟩ m w hs (GR.int hG)).mono fun e w' ⟨he,hw⟩=>⟨_,he,hw,.bool _⟩
theorem contains_iff (s t:List UInt8):Lib.contains s t=true ↔ ∃ a b,s=a++t++b:=by
 unfold Lib.contains
 rw [decide_eq_true_iff]
 constructor
 ·intro h
  rcases Lib.index_spec s t with ⟨h1,_⟩ | ⟨i,h1,h2,h3,_⟩
  ·omega
  ·unfold Lib.occAt at h3
   rw [List.isPrefixOf_iff_prefix] at h3
   obtain ⟨b,hb⟩:=h3
   exact ⟨s.take i,b,by rw [List.append_assoc,hb,List.take_append_drop]⟩
 ·rintro ⟨a,b,rfl⟩
  rcases Lib.index_spec (a++t++b) t with ⟨_,h2⟩ | ⟨i,h1,_⟩
  ·have:=h2 a.length (by simp)
   unfold Lib.occAt at this
   rw [List.append_assoc,List.drop_left] at this
   have h:t.isPrefixOf (t++b)=true:=by rw [List.isPrefixOf_iff_prefix];exact ⟨b,rfl⟩
   rw [h] at this;cases this
  ·omega
def X5 (b:UInt8):List UInt8->List UInt8->List (List UInt8)
 | cur,[]=>[cur]
 | cur,c :: r=>if c=b then cur :: X5 b [] r else X5 b (cur++[c]) r
theorem splitB_ne (b:UInt8) (cur s:List UInt8):X5 b cur s≠[]:=by
 induction s generalizing cur with
 | nil=>simp [X5]
 | cons c r ih=>unfold X5;split <;> simp [ih]
theorem splitB_cur (b:UInt8) (cur s:List UInt8):X5 b cur s=(cur++(X5 b [] s).headD []) :: (X5 b [] s).tail:=by
 induction s generalizing cur with
 | nil=>simp [X5]
 | cons c r ih=>
   by_cases h:c=b
   ·simp [X5,h]
   ·simp only [X5,if_neg h]
    rw [ih (cur++[c]),ih ([]++[c])]
    simp
theorem split_head (b:UInt8) (nm s:List UInt8) (hn:b∉nm):(∃ post,s++[b]=nm++b :: post)↔nm=(X5 b [] s).headD []:=by
 induction s generalizing nm with
 | nil=>
   constructor
   ·rintro ⟨post,h⟩
    cases nm with
    | nil=>rfl
    | cons x r=>simp at h
   ·intro h;exact ⟨[],by rw [h];rfl⟩
 | cons c r ih=>
   by_cases hc:c=b
   ·subst hc
    simp only [X5,if_true,List.headD_cons]
    constructor
    ·rintro ⟨post,h⟩
     cases nm with
     | nil=>rfl
     | cons x r=>simp at h;exact absurd (by simp [h.1]) hn
    ·rintro rfl;exact ⟨_,rfl⟩
   ·simp only [X5,if_neg hc]
    rw [splitB_cur]
    simp only [List.headD_cons,List.nil_append,List.singleton_append]
    constructor
    ·rintro ⟨post,h⟩
     cases nm with
     | nil=>simp at h;exact absurd h.1 hc
     | cons x t=>
       simp at h
       obtain ⟨rfl,h⟩:=h
       rw [<-(ih t (fun h=>hn (by simp [h]))).1 ⟨post,h⟩]
    ·rintro rfl
     obtain ⟨post,h⟩:=(ih _ (fun h=>hn (List.mem_cons_of_mem _ h))).2 rfl
     exact ⟨post,by simp [h]⟩
theorem split_tail (b:UInt8) (nm s:List UInt8) (hn:b∉nm):(∃ pre post,s++[b]=pre++b :: (nm++b :: post))↔nm∈(X5 b [] s).tail:=by
 induction s with
 | nil=>
   constructor
   ·rintro ⟨pre,post,h⟩
    have:=congrArg List.length h
    simp at this;omega
   ·simp [X5]
 | cons c r ih=>
   by_cases hc:c=b
   ·subst hc
    simp only [X5,if_true,List.tail_cons]
    have e:X5 c [] r=(X5 c [] r).headD [] :: (X5 c [] r).tail:=by
     cases h:X5 c [] r with
     | nil=>exact absurd h (splitB_ne _ _ _)
     | cons x t=>rfl
    rw [e,List.mem_cons,<-ih,<-split_head c nm r hn]
    constructor
    ·rintro ⟨pre,post,h⟩
     cases pre with
     | nil=>exact .inl ⟨post,by simpa using h⟩
     | cons x p=>simp at h;exact .inr ⟨p,post,by simpa using h.2⟩
    ·rintro (⟨post,h⟩ | ⟨pre,post,h⟩)
     ·exact ⟨[],post,by simp [h]⟩
     ·exact ⟨c :: pre,post,by simp [h]⟩
   ·simp only [X5,if_neg hc]
    rw [splitB_cur]
    simp only [List.tail_cons]
    rw [<-ih]
    constructor
    ·rintro ⟨pre,post,h⟩
     cases pre with
     | nil=>simp at h;exact absurd h.1 hc
     | cons x p=>simp at h;exact ⟨p,post,by simpa using h.2⟩
    ·rintro ⟨pre,post,h⟩
     exact ⟨c :: pre,post,by simp [h]⟩
theorem split_mem (b:UInt8) (nm s:List UInt8) (hn:b∉nm):Lib.contains (b :: (s++[b])) (b :: (nm++[b]))=true↔nm∈X5 b [] s:=by
 have e:X5 b [] s=(X5 b [] s).headD [] :: (X5 b [] s).tail:=by
  cases h:X5 b [] s with
  | nil=>exact absurd h (splitB_ne _ _ _)
  | cons x t=>rfl
 rw [e,List.mem_cons,<-split_tail b nm s hn,<-split_head b nm s hn,contains_iff]
 constructor
 ·rintro ⟨pre,post,h⟩
  cases pre with
  | nil=>exact .inl ⟨post,by simpa using h⟩
  | cons x p=>exact .inr ⟨p,post,by simp at h;simpa using h.2⟩
 ·rintro (⟨post,h⟩ | ⟨pre,post,h⟩)
  ·exact ⟨[],post,by simp [h]⟩
  ·exact ⟨b :: pre,post,by simp [h]⟩
theorem splitB_no (b:UInt8) (s x:List UInt8) (hx:x∈X5 b [] s):b∉x:=by
 have:∀ (cur s:List UInt8),b∉cur -> ∀ x∈X5 b cur s,b∉x:=by
  intro cur s
  induction s generalizing cur with
  | nil=>intro h x hx;simp [X5] at hx;subst hx;exact h
  | cons c r ih=>
    intro h x hx
    by_cases hc:c=b
    ·simp only [X5,if_pos hc,List.mem_cons] at hx
     rcases hx with rfl | hx
     ·exact h
     ·exact ih [] (by simp) x hx
    ·simp only [X5,if_neg hc] at hx
     exact ih (cur++[c]) (by simp [h,Ne.symm hc]) x hx
 exact this [] s (by simp) x hx
theorem TT (b:UInt8) (s:List UInt8):Lib.contains s [b]=decide (b∈s):=by
 rw [Bool.eq_iff_iff,contains_iff,decide_eq_true_iff]
 constructor
 ·rintro ⟨x,y,rfl⟩;simp
 ·intro h
  obtain ⟨x,y,rfl⟩:=List.append_of_mem h
  exact ⟨x,y,by simp⟩
def oneW (nm l:List UInt8):Bool:=nm != []&&(!(decide (32∈nm))&&Lib.contains l ([32]++nm++[32]))
def c48:SFun:=⟨.seq (.reg [o 4 (.mv (.c (.bool false)))]) (.seq (.reg [o 5 (.mv (.t 0)),o 6 (.bin .neq (.t 5) (.c (.str []))),o 7 (.mv (.t 6)),⟨some 8,.mv (.t 0),some (7,true)⟩,⟨some 9,.pcall 67 [.t 8,.c (.str [32])],some (7,true)⟩,⟨some 10,.un .not (.t 9),some (7,true)⟩,o 11 (.pick (.t 7) (.t 10) (.c (.bool false))),o 12 (.mv (.t 11)),⟨some 13,.mv (.t 1),some (12,true)⟩,⟨some 14,.mv (.t 0),some (12,true)⟩,⟨some 15,.bin .add (.c (.str [32])) (.t 14),some (12,true)⟩,⟨some 16,.bin .add (.t 15) (.c (.str [32])),some (12,true)⟩,⟨some 17,.pcall 67 [.t 13,.t 16],some (12,true)⟩,o 18 (.pick (.t 12) (.t 17) (.c (.bool false))),o 4 (.mv (.t 18))]) .ret),[.tmp 4]⟩
theorem hc48:Y6 Tryz.prog {pure:=[67]} Tryz.f48=some c48:=by kernel_rfl
theorem hn48 : (Tryz.f48.name == "runtime.NumGoroutine") = false := by kernel_rfl
theorem oneW_ok (hG:KJ G) (nm l:List UInt8) (hn:nm.length<4294967281) (hl:l.length<4294967281):PCalls (Pg G) 48 [.str nm,.str l] (.bool (oneW nm l)):=by
 intro h
 refine Z4 Tryz.func48 hn48 hc48 (by rw [Tryz.ntmps48];simp) (by rw [Tryz.ntmps48];decide) ?_
 simp -dsimp -implicitDefEqProofs (disch:=omega) only [↓Q0 7,↓Q2 7,↓Q0 12,↓Q2 12,VCA,Z1,↓Q3,Nat.reduceEqDiff,Nat.reduceBEq,Nat.reduceAdd,Nat.reduceSub,Nat.reduceMul,Nat.reduceLT,Nat.reduceLeDiff,↓reduceIte,reduceCtorEq,Z3,Q6,SOp.rd,SI.rd,SX.rd,rdL,rdO,rdP,Q5,Q4,Q1,Q8,Q7,Z0,implies_true,forall_const,forall_eq,ne_eq,exists_eq_right_right,exists_eq_right,exists_eq_left,exists_eq_left',Q9,eStr,c48]
 refine Br.ne (fun h1=>?_) (fun h1=>?_)
 ·simp -dsimp -implicitDefEqProofs (disch:=omega) only [↓Q0 7,↓Q2 7,↓Q0 12,↓Q2 12,VCA,Z1,↓Q3,Nat.reduceEqDiff,Nat.reduceBEq,Nat.reduceAdd,Nat.reduceSub,Nat.reduceMul,Nat.reduceLT,Nat.reduceLeDiff,↓reduceIte,reduceCtorEq,Z3,Q6,SOp.rd,SI.rd,SX.rd,rdL,rdO,rdP,Q5,Q4,Q1,Q8,Q7,Z0,implies_true,forall_const,forall_eq,ne_eq,exists_eq_right_right,exists_eq_right,exists_eq_left,exists_eq_left',Q9,eStr]
  refine pcallE.of (contains_ok hG nm [32] hn) ?_;simp -dsimp -implicitDefEqProofs (disch:=omega) only [↓Q0 7,↓Q2 7,↓Q0 12,↓Q2 12,VCA,Z1,↓Q3,Nat.reduceEqDiff,Nat.reduceBEq,Nat.reduceAdd,Nat.reduceSub,Nat.reduceMul,Nat.reduceLT,Nat.reduceLeDiff,↓reduceIte,reduceCtorEq,Z3,Q6,SOp.rd,SI.rd,SX.rd,rdL,rdO,rdP,Q5,Q4,Q1,Q8,Q7,Z0,implies_true,forall_const,forall_eq,ne_eq,exists_eq_right_right,exists_eq_right,exists_eq_left,exists_eq_left',Q9,eStr,TT]
  refine Br.intro (fun h2=>?_) (fun h2=>?_)
  ·simp -dsimp -implicitDefEqProofs (disch:=omega) only [↓Q0 7,↓Q2 7,↓Q0 12,↓Q2 12,VCA,Z1,↓Q3,Nat.reduceEqDiff,Nat.reduceBEq,Nat.reduceAdd,Nat.reduceSub,Nat.reduceMul,Nat.reduceLT,Nat.reduceLeDiff,↓reduceIte,reduceCtorEq,Z3,Q6,SOp.rd,SI.rd,SX.rd,rdL,rdO,rdP,Q5,Q4,Q1,Q8,Q7,Z0,implies_true,forall_const,forall_eq,ne_eq,exists_eq_right_right,exists_eq_right,exists_eq_left,exists_eq_left',Q9,eStr]
   refine ⟨by omega,by omega,?_⟩
   refine pcallE.of (contains_ok hG l _ hl) ?_;simp -dsimp -implicitDefEqProofs (disch:=omega) only [↓Q0 7,↓Q2 7,↓Q0 12,↓Q2 12,VCA,Z1,↓Q3,Nat.reduceEqDiff,Nat.reduceBEq,Nat.reduceAdd,Nat.reduceSub,Nat.reduceMul,Nat.reduceLT,Nat.reduceLeDiff,↓reduceIte,reduceCtorEq,Z3,Q6,SOp.rd,SI.rd,SX.rd,rdL,rdO,rdP,Q5,Q4,Q1,Q8,Q7,Z0,implies_true,forall_const,forall_eq,ne_eq,exists_eq_right_right,exists_eq_right,exists_eq_left,exists_eq_left',Q9,eStr]
   exact ⟨Sub.refl _,by simp [TT] at h2;simp only [oneW,bne_iff_ne.2 h1,h2,decide_false,Bool.not_false,Bool.true_and,List.cons_append,List.nil_append]⟩
  ·simp -dsimp -implicitDefEqProofs (disch:=omega) only [↓Q0 7,↓Q2 7,↓Q0 12,↓Q2 12,VCA,Z1,↓Q3,Nat.reduceEqDiff,Nat.reduceBEq,Nat.reduceAdd,Nat.reduceSub,Nat.reduceMul,Nat.reduceLT,Nat.reduceLeDiff,↓reduceIte,reduceCtorEq,Z3,Q6,SOp.rd,SI.rd,SX.rd,rdL,rdO,rdP,Q5,Q4,Q1,Q8,Q7,Z0,implies_true,forall_const,forall_eq,ne_eq,exists_eq_right_right,exists_eq_right,exists_eq_left,exists_eq_left',Q9,eStr]
   exact ⟨Sub.refl _,by simp [TT] at h2;simp [oneW,h2]⟩
 ·simp -dsimp -implicitDefEqProofs (disch:=omega) only [↓Q0 7,↓Q2 7,↓Q0 12,↓Q2 12,VCA,Z1,↓Q3,Nat.reduceEqDiff,Nat.reduceBEq,Nat.reduceAdd,Nat.reduceSub,Nat.reduceMul,Nat.reduceLT,Nat.reduceLeDiff,↓reduceIte,reduceCtorEq,Z3,Q6,SOp.rd,SI.rd,SX.rd,rdL,rdO,rdP,Q5,Q4,Q1,Q8,Q7,Z0,implies_true,forall_const,forall_eq,ne_eq,exists_eq_right_right,exists_eq_right,exists_eq_left,exists_eq_left',Q9,eStr]
  first | exact Sub.refl _ | exact ⟨Sub.refl _,by simp [oneW,h1]⟩
theorem oneM_split (s nm:List UInt8) (hs:[]∉X5 32 [] s):oneW nm (32 :: (s++[32]))=(X5 32 [] s).any (· == nm):=by
 rw [Bool.eq_iff_iff,oneW,Bool.and_eq_true,Bool.and_eq_true,Bool.not_eq_true',decide_eq_false_iff_not,bne_iff_ne,List.any_beq',List.contains_iff_mem]
 constructor
 ·rintro ⟨h1,h2,h3⟩
  exact (split_mem 32 nm s h2).1 h3
 ·intro h
  have h2:=splitB_no 32 s nm h
  exact ⟨fun e=>hs (e ▸ h),h2,(split_mem 32 nm s h2).2 h⟩
def inW (nm s:List UInt8):Bool:=(X5 32 [] s).any (· == nm)
theorem one_in (hG:KJ G) (nm s:List UInt8) (hs:((X5 32 [] s).any (· == []))=false) (hn:nm.length<4294967281) (hl:s.length<4294967200):PCalls (Pg G) 48 [.str nm,.str (32 :: (s++[32]))] (.bool (inW nm s)):=by
 have h:=oneW_ok hG nm (32 :: (s++[32])) hn (by simp;omega)
 rw [oneM_split s nm (fun h=>by rw [List.any_eq_false] at hs;exact hs _ h rfl)] at h
 exact h
def voidS:List UInt8:=[97,114,101,97,32,98,97,115,101,32,98,114,32,99,111,108,32,101,109,98,101,100,32,104,114,32,105,109,103,32,105,110,112,117,116,32,108,105,110,107,32,109,101,116,97,32,115,111,117,114,99,101,32,116,114,97,99,107,32,119,98,114]
def k35_1:List UInt8:=[32,97,114,101,97,32,98,97,115,101,32,98,114,32,99,111,108,32,101,109,98,101,100,32,104,114,32,105,109,103,32,105,110,112,117,116,32,108,105,110,107,32,109,101,116,97,32,115,111,117,114,99,101,32,116,114,97,99,107,32,119,98,114,32]
def c35:SFun:=⟨.seq (.reg [o 2 (.mv (.c (.bool false)))]) (.seq (.reg [o 3 (.mv (.t 0)),o 4 (.pcall 48 [.t 3,.c (.str k35_1)]),o 2 (.mv (.t 4))]) .ret),[.tmp 2]⟩
theorem hc35:Y6 Tryz.prog {pure:=[48]} Tryz.f35=some c35:=by kernel_rfl
theorem hn35 : (Tryz.f35.name == "runtime.NumGoroutine") = false := by kernel_rfl
theorem void_ok (hG:KJ G) (nm:List UInt8) (hn:nm.length<4294967281):PCalls (Pg G) 35 [.str nm] (.bool (inW nm voidS)):=by
 intro h
 refine Z4 Tryz.func35 hn35 hc35 (by rw [Tryz.ntmps35];simp) (by rw [Tryz.ntmps35];decide) ?_
 have e:k35_1=32 :: (voidS++[32]):=by decide +kernel
 simp -dsimp -implicitDefEqProofs (disch:=omega) only [VCA,Z1,↓Q3,Nat.reduceEqDiff,Nat.reduceBEq,Nat.reduceAdd,Nat.reduceSub,Nat.reduceMul,Nat.reduceLT,Nat.reduceLeDiff,↓reduceIte,reduceCtorEq,Z3,Q6,SOp.rd,SI.rd,SX.rd,rdL,rdO,rdP,Q5,Q4,Q1,Q8,Q7,Z0,implies_true,forall_const,forall_eq,ne_eq,exists_eq_right_right,exists_eq_right,exists_eq_left,exists_eq_left',Q9,eStr,c35,e]
 refine pcallE.of (one_in hG nm voidS (by decide +kernel) hn (by decide +kernel)) ?_;simp -dsimp -implicitDefEqProofs (disch:=omega) only [VCA,Z1,↓Q3,Nat.reduceEqDiff,Nat.reduceBEq,Nat.reduceAdd,Nat.reduceSub,Nat.reduceMul,Nat.reduceLT,Nat.reduceLeDiff,↓reduceIte,reduceCtorEq,Z3,Q6,SOp.rd,SI.rd,SX.rd,rdL,rdO,rdP,Q5,Q4,Q1,Q8,Q7,Z0,implies_true,forall_const,forall_eq,ne_eq,exists_eq_right_right,exists_eq_right,exists_eq_left,exists_eq_left',Q9,eStr]
 first | exact Sub.refl _ | exact ⟨Sub.refl _,by simp []⟩
def k229_1:List UInt8:=[32,99,97,112,116,105,111,110,32,104,116,109,108,32,111,98,106,101,99,116,32,116,97,98,108,101,32,116,100,32,116,101,109,112,108,97,116,101,32,116,104,32,111,108,32,117,108,32]
def k229_2:List UInt8:=[32,99,97,112,116,105,111,110,32,104,116,109,108,32,111,98,106,101,99,116,32,116,97,98,108,101,32,116,100,32,116,101,109,112,108,97,116,101,32,116,104,32,98,117,116,116,111,110,32]
def k229_3:List UInt8:=[32,99,97,112,116,105,111,110,32,104,116,109,108,32,111,98,106,101,99,116,32,116,97,98,108,101,32,116,100,32,116,101,109,112,108,97,116,101,32,116,104,32]
def c229:SFun:=⟨.seq (.reg [o 4 (.mv (.c (.bool false)))]) (.seq (.seq (.reg [o 5 (.mv (.t 1))]) (.block 0 (.seq (.reg [o 7 (.bin .eql (.t 5) (.c (.int .i64 2))),o 6 (.mv (.t 7))]) (.cond (.t 6) (.seq (.reg [o 8 (.mv (.t 0)),o 9 (.pcall 48 [.t 8,.c (.str k229_1)]),o 4 (.mv (.t 9))]) .ret) (.seq (.reg [o 11 (.bin .eql (.t 5) (.c (.int .i64 3))),o 10 (.mv (.t 11))]) (.cond (.t 10) (.seq (.reg [o 12 (.mv (.t 0)),o 13 (.pcall 48 [.t 12,.c (.str k229_2)]),o 4 (.mv (.t 13))]) .ret) (.seq (.reg [o 15 (.bin .eql (.t 5) (.c (.int .i64 4))),o 14 (.mv (.t 15))]) (.cond (.t 14) (.seq (.reg [o 16 (.mv (.t 0)),o 17 (.pcall 48 [.t 16,.c (.str [32,104,116,109,108,32,116,97,98,108,101,32,116,101,109,112,108,97,116,101,32])]),o 4 (.mv (.t 17))]) .ret) (.seq (.reg [o 19 (.bin .eql (.t 5) (.c (.int .i64 5))),o 18 (.mv (.t 19))]) (.cond (.t 18) (.seq (.reg [o 20 (.mv (.t 0)),o 21 (.bin .neq (.t 20) (.c (.str [111,112,116,103,114,111,117,112]))),o 22 (.mv (.t 21)),⟨some 23,.mv (.t 0),some (22,true)⟩,⟨some 24,.bin .neq (.t 23) (.c (.str [111,112,116,105,111,110])),some (22,true)⟩,o 25 (.pick (.t 22) (.t 24) (.c (.bool false))),o 4 (.mv (.t 25))]) .ret) .skip)))))))))) (.seq (.reg [o 26 (.mv (.t 0)),o 27 (.pcall 48 [.t 26,.c (.str k229_3)]),o 4 (.mv (.t 27))]) .ret)),[.tmp 4]⟩
theorem hc229:Y6 Tryz.prog {pure:=[48]} Tryz.f229=some c229:=by kernel_rfl
theorem hn229 : (Tryz.f229.name == "runtime.NumGoroutine") = false := by kernel_rfl
def MaxOK (G:U5):Prop:=∃ m,G 0=.pin [Y0 m]
theorem ZJ (hG:MaxOK G) (s old new:List UInt8) (hs:s.length<=1073741823) (h1:1<=old.length) (h2:new.length<=100):PCalls (Pg G) 47 [.str s,.str old,.str new] (.str (Lib.replaceAll s old new)):=by
 obtain ⟨m,hG⟩:=hG
 refine ofBelow ⟨_,Tryz.func47,by kernel_rfl,by kernel_rfl⟩ fun g w vs GR V=>?_
 obtain ⟨u,v,x,rfl,hu,hv,hx⟩:∃ u v x,vs = #[u,v,x]/\VRel g w u (.str s)/\VRel g w v (.str old)/\VRel g w x (.str new):=by
  obtain ⟨hs,hv⟩:=V
  obtain ⟨l⟩:=vs
  match l,hs with
  | [u,v,x],_=>exact ⟨u,v,x,rfl,hv 0 u _ rfl rfl,hv 1 v _ rfl rfl,hv 2 x _ rfl rfl⟩
 rw [hu.str_inv',hv.str_inv',hx.str_inv']
 have hc:Lib.countB ⟨⟨s⟩⟩ ⟨⟨old⟩⟩<=s.length+1:=Lib.count_le s old
 have hb:s.length+Lib.countB ⟨⟨s⟩⟩ ⟨⟨old⟩⟩*new.length<=140737488355328:=by
  have:=Nat.mul_le_mul hc h2
  omega
 exact (Tryz.strings_ReplaceAll ⟨⟨s⟩⟩ ⟨⟨old⟩⟩ ⟨⟨new⟩⟩ m w (by show s.length<_;omega) (GR.int hG) h1 hb).mono fun e w' ⟨he,hw⟩=>⟨_,he,hw,fun g w=>VRel.str_mk g w _⟩
section
variable {old new:List UInt8}
def ra (old new s:List UInt8):List UInt8:=Lib.replaceK old new (Lib.count s old) s
theorem ra_all (hne:old≠new) (s:List UInt8):Lib.replaceAll s old new=ra old new s:=by
 unfold Lib.replaceAll Lib.replace ra Lib.replaceNum
 rw [if_neg (by simpa using hne),if_pos (.inl (by decide))]
theorem ra_nil (ho:old≠[]):ra old new []=[]:=by
 have:Lib.index [] old = -1:=by unfold Lib.index;rw [if_neg (by cases old <;> simp_all)]
 unfold ra
 rw [Lib.count_miss this]
 rfl
theorem ra_pre (ho:old≠[]) (t:List UInt8):ra old new (old++t)=new++ra old new t:=by
 have hi:Lib.index (old++t) old=((0:Nat):Int):=by
  obtain ⟨c,r,rfl⟩:=List.exists_cons_of_ne_nil ho
  rw [List.cons_append];unfold Lib.index
  rw [if_pos (by rw [List.isPrefixOf_iff_prefix];exact ⟨t,rfl⟩)];simp
 unfold ra
 rw [Lib.count_hit ho hi,Nat.add_comm 1,Lib.replaceK_hit _ _ _ _ 0 hi]
 simp
theorem UY (ho:old≠[]) (c:UInt8) (t:List UInt8) (h:old.isPrefixOf (c :: t)=false):ra old new (c :: t)=c :: ra old new t:=by
 have hx:Lib.index (c :: t) old=if Lib.index t old == -1 then -1 else Lib.index t old+1:=by
  conv=>lhs;unfold Lib.index
  rw [if_neg (by rw [h];simp)]
 have hge:=Lib.index_ge t old
 unfold ra
 by_cases hm:Lib.index t old = -1
 ·rw [hm] at hx
  rw [Lib.count_miss hx,Lib.count_miss hm]
  rfl
 ·obtain ⟨i,hi⟩:∃ i:Nat,Lib.index t old=i:=⟨(Lib.index t old).toNat,by omega⟩
  have hj:Lib.index (c :: t) old=((i+1:Nat):Int):=by rw [hx,hi,if_neg (by simp)];rfl
  have e:i+1+old.length=(i+old.length)+1:=by omega
  rw [Lib.count_hit ho hj,Lib.count_hit ho hi,Nat.add_comm 1,e,List.drop_succ_cons,Nat.add_comm 1,Lib.replaceK_hit _ _ _ _ _ hj,Lib.replaceK_hit _ _ _ _ _ hi,e,List.drop_succ_cons]
  simp
theorem ra_one (b:UInt8) (new s:List UInt8):ra [b] new s=s.flatMap fun c=>if c=b then new else [c]:=by
 induction s with
 | nil=>exact ra_nil (by simp)
 | cons c t ih=>
   by_cases h:c=b
   ·subst h
    have:=ra_pre (old:=[c]) (new:=new) (by simp) t
    rw [List.singleton_append] at this
    rw [this,List.flatMap_cons,if_pos rfl,ih]
   ·have hp:([b]:List UInt8).isPrefixOf (c :: t)=false:=by simp [List.isPrefixOf];exact fun e=>h e.symm
    rw [UY (by simp) c t hp,List.flatMap_cons,if_neg h,ih];rfl
end
def ampS:List UInt8:=[38,97,109,112,59]
def nbspS:List UInt8:=[38,110,98,115,112,59]
def quotS:List UInt8:=[38,113,117,111,116,59]
def ltS:List UInt8:=[38,108,116,59]
def gtS:List UInt8:=[38,103,116,59]
def escC (attr:Bool) (c:UInt8):List UInt8:=if c=38 then ampS else if attr=true/\c=34 then quotS else if attr=false/\c=60 then ltS else if attr=false/\c=62 then gtS else [c]
def JU (attr:Bool) (s:List UInt8):List UInt8:=
 match s with
 | []=>[]
 | c :: t=>if c=194/\t.head? = some 160 then nbspS++JU attr t.tail else escC attr c++JU attr t
termination_by s.length
decreasing_by
 ·simp only [List.length_tail,List.length_cons];omega
 ·simp
theorem escD_nil (attr:Bool):JU attr []=[]:=by unfold JU;rfl
theorem escD_nb (attr:Bool) (t:List UInt8):JU attr (194 :: 160 :: t)=nbspS++JU attr t:=by
 rw [JU];rw [if_pos ⟨rfl,rfl⟩];rfl
theorem escD_c (attr:Bool) (c:UInt8) (t:List UInt8) (h:¬ (c=194/\t.head? = some 160)):JU attr (c :: t)=escC attr c++JU attr t:=by
 rw [JU];rw [if_neg h]
def ZT (s:List UInt8):List UInt8:=ra [38] ampS s
def ZX (attr:Bool) (s:List UInt8):List UInt8:=if attr=true then ra [34] quotS s else ra [62] gtS (ra [60] ltS s)
theorem last_app (attr:Bool) (a b:List UInt8):ZX attr (a++b)=ZX attr a++ZX attr b:=by
 unfold ZX;split <;> simp [ra_one]
theorem last_amp (attr:Bool):ZX attr ampS=ampS:=by cases attr <;> (simp only [ZX,ra_one];decide)
theorem last_nbsp (attr:Bool):ZX attr nbspS=nbspS:=by cases attr <;> (simp only [ZX,ra_one];decide)
theorem last_nil (attr:Bool):ZX attr []=[]:=by cases attr <;> (simp only [ZX,ra_one];rfl)
theorem last_c (attr:Bool) (c:UInt8) (h:c≠38):ZX attr [c]=escC attr c:=by
 unfold escC
 rw [if_neg h]
 cases attr
 ·simp only [ZX,ra_one,Bool.false_eq_true,if_false,false_and,true_and]
  by_cases h1:c=60
  ·subst h1;decide
  ·by_cases h2:c=62
   ·subst h2;decide
   ·simp [h1,h2]
 ·simp only [ZX,ra_one,if_true,true_and]
  by_cases h1:c=34
  ·subst h1;decide
  ·simp [h1]
theorem amp_c (c:UInt8) (t:List UInt8) (h:c≠38):ZT (c :: t)=c :: ZT t:=by simp [ZT,ra_one,h]
theorem amp_a (t:List UInt8):ZT (38 :: t)=ampS++ZT t:=by simp [ZT,ra_one]
theorem no194 (c:UInt8) (t:List UInt8) (h:c≠194):([194,160]:List UInt8).isPrefixOf (c :: t)=false:=by
 simp only [List.isPrefixOf,Bool.and_eq_false_imp,beq_iff_eq]
 intro e;exact absurd e.symm h
theorem esc_eq (attr:Bool):∀ (n:Nat) (s:List UInt8),s.length<=n->ZX attr (ra [194,160] nbspS (ZT s))=JU attr s:=by
 intro n
 induction n with
 | zero=>
   intro s hs
   have:s=[]:=List.eq_nil_of_length_eq_zero (by omega)
   subst this
   rw [escD_nil,show ZT []=[] from rfl,ra_nil (by simp),last_nil]
 | succ n ih=>
   intro s hs
   cases s with
   | nil=>rw [escD_nil,show ZT []=[] from rfl,ra_nil (by simp),last_nil]
   | cons c t=>
     simp only [List.length_cons] at hs
     by_cases h0:c=194/\t.head? = some 160
     ·obtain ⟨rfl,h0⟩:=h0
      obtain ⟨u,rfl⟩:∃ u,t=160 :: u:=by
       cases t with
       | nil=>simp at h0
       | cons x u=>simp at h0;subst h0;exact ⟨u,rfl⟩
      simp only [List.length_cons] at hs
      rw [escD_nb,amp_c _ _ (by decide),amp_c _ _ (by decide)]
      have:=ra_pre (old:=[194,160]) (new:=nbspS) (by simp) (ZT u)
      rw [List.cons_append,List.singleton_append] at this
      rw [this,last_app,last_nbsp,ih u (by omega)]
     ·rw [escD_c _ _ _ h0]
      by_cases h1:c=38
      ·subst h1
       have e:escC attr 38=ampS:=if_pos rfl
       rw [amp_a,e,<-ih t (by omega)]
       have:ra [194,160] nbspS (ampS++ZT t)=ampS++ra [194,160] nbspS (ZT t):=by
        unfold ampS
        simp only [List.cons_append,List.nil_append]
        rw [UY (by simp) _ _ (no194 _ _ (by decide)),UY (by simp) _ _ (no194 _ _ (by decide)),UY (by simp) _ _ (no194 _ _ (by decide)),UY (by simp) _ _ (no194 _ _ (by decide)),UY (by simp) _ _ (no194 _ _ (by decide))]
       rw [this,last_app,last_amp]
      ·have hp:([194,160]:List UInt8).isPrefixOf (c :: ZT t)=false:=by
        by_cases h2:c=194
        ·subst h2
         cases t with
         | nil=>rfl
         | cons x u=>
           have hx:x≠160:=fun e=>h0 ⟨rfl,by rw [e];rfl⟩
           by_cases h3:x=38
           ·subst h3;rw [amp_a];rfl
           ·rw [amp_c _ _ h3]
            simp only [List.isPrefixOf,beq_self_eq_true,Bool.true_and,Bool.and_true]
            rw [beq_eq_false_iff_ne];exact fun e=>hx e.symm
        ·exact no194 _ _ h2
       rw [amp_c _ _ h1,UY (by simp) _ _ hp,<-last_c attr c h1,<-ih t (by omega),<-last_app]
       rfl
theorem flat_len {f:UInt8->List UInt8} {k:Nat} (h:∀ c,(f c).length<=k) (s:List UInt8):(s.flatMap f).length<=k*s.length:=by
 induction s with
 | nil=>simp
 | cons c t ih=>have:=h c;simp only [List.flatMap_cons,List.length_append,List.length_cons,Nat.mul_add];omega
theorem ra_one_len (b:UInt8) (new s:List UInt8) (hn:1<=new.length):(ra [b] new s).length<=new.length*s.length:=by
 rw [ra_one]
 refine flat_len (fun c=>?_) s
 split
 ·omega
 ·simpa using hn
theorem ra_two_len (s:List UInt8):∀ n,s.length<=n->(ra [194,160] nbspS s).length<=6*s.length:=by
 intro n
 induction n generalizing s with
 | zero=>intro hs;have:s=[]:=List.eq_nil_of_length_eq_zero (by omega);subst this;rw [ra_nil (by simp)];simp
 | succ n ih=>
   intro hs
   cases s with
   | nil=>rw [ra_nil (by simp)];simp
   | cons c t=>
     simp only [List.length_cons] at hs ⊢
     cases hp:([194,160]:List UInt8).isPrefixOf (c :: t) with
     | false=>
       rw [UY (by simp) _ _ hp]
       have:=ih t (by omega)
       simp only [List.length_cons];omega
     | true=>
       rw [List.isPrefixOf_iff_prefix] at hp
       obtain ⟨u,hu⟩:=hp
       rw [<-hu,ra_pre (by simp)]
       have hl:=congrArg List.length hu
       simp only [List.length_append,List.length_cons,List.length_nil] at hl
       have:=ih u (by omega)
       have e:nbspS.length=6:=rfl
       simp only [List.length_append,e];omega
def c34:SFun:=⟨.seq (.reg [o 4 (.mv (.c (.str [])))]) (.seq (.reg [o 5 (.mv (.t 0)),o 6 (.pcall 47 [.t 5,.c (.str [38]),.c (.str [38,97,109,112,59])]),o 0 (.mv (.t 6))]) (.seq (.reg [o 7 (.mv (.t 0)),o 8 (.pcall 47 [.t 7,.c (.str [194,160]),.c (.str [38,110,98,115,112,59])]),o 0 (.mv (.t 8))]) (.seq (.seq (.reg [o 9 (.mv (.t 1))]) (.cond (.t 9) (.seq (.reg [o 10 (.mv (.t 0)),o 11 (.pcall 47 [.t 10,.c (.str [34]),.c (.str [38,113,117,111,116,59])]),o 4 (.mv (.t 11))]) .ret) .skip)) (.seq (.reg [o 12 (.mv (.t 0)),o 13 (.pcall 47 [.t 12,.c (.str [60]),.c (.str [38,108,116,59])]),o 14 (.pcall 47 [.t 13,.c (.str [62]),.c (.str [38,103,116,59])]),o 4 (.mv (.t 14))]) .ret)))),[.tmp 4]⟩
theorem hc34:Y6 Tryz.prog {pure:=[47]} Tryz.f34=some c34:=by kernel_rfl
theorem escape_ok (hG:MaxOK G) (s:List UInt8) (attr:Bool) (hs:s.length<=4000000):PCalls (Pg G) 34 [.str s,.bool attr] (.str (JU attr s)):=fun h=>by
 have E:=esc_eq attr s.length s (Nat.le_refl _)
 have l1:(ZT s).length<=5*s.length:=ra_one_len 38 ampS s (by decide)
 have l2:=ra_two_len (ZT s) _ (Nat.le_refl _)
 have c1:=ZJ hG s [38] ampS (by omega) (by decide) (by decide)
 have c2:=ZJ hG (ZT s) [194,160] nbspS (by omega) (by decide) (by decide)
 rw [ra_all (by decide)] at c1 c2
 have hq:=ZJ hG (ra [194,160] nbspS (ZT s)) [34] quotS (by omega) (by decide) (by decide)
 have hl:=ZJ hG (ra [194,160] nbspS (ZT s)) [60] ltS (by omega) (by decide) (by decide)
 have l3:=ra_one_len 60 ltS (ra [194,160] nbspS (ZT s)) (by decide)
 have e4:ltS.length=4:=rfl
 rw [e4] at l3
 have hg:=ZJ hG (ra [60] ltS (ra [194,160] nbspS (ZT s))) [62] gtS (by omega) (by decide) (by decide)
 rw [ra_all (by decide)] at hq hl hg
 unfold ZX at E
 have c1:PCalls (Pg G) 47 [.str s,.str [38],.str [38,97,109,112,59]] (.str (ZT s)):=c1
 have c2:PCalls (Pg G) 47 [.str (ZT s),.str [194,160],.str [38,110,98,115,112,59]] (.str (ra [194,160] nbspS (ZT s))):=c2
 have hq:PCalls (Pg G) 47 [.str (ra [194,160] nbspS (ZT s)),.str [34],.str [38,113,117,111,116,59]] (.str (ra [34] quotS (ra [194,160] nbspS (ZT s)))):=hq
 have hl:PCalls (Pg G) 47 [.str (ra [194,160] nbspS (ZT s)),.str [60],.str [38,108,116,59]] (.str (ra [60] ltS (ra [194,160] nbspS (ZT s)))):=hl
 have hg:PCalls (Pg G) 47 [.str (ra [60] ltS (ra [194,160] nbspS (ZT s))),.str [62],.str [38,103,116,59]] (.str (ra [62] gtS (ra [60] ltS (ra [194,160] nbspS (ZT s))))):=hg
 refine Z4 Tryz.func34 (by kernel_rfl) hc34 (by rw [Tryz.ntmps34];simp) (by rw [Tryz.ntmps34];decide) ?_
 cases attr
 ·rw [if_neg (by simp)] at E
  simp -dsimp -implicitDefEqProofs (disch:=omega) only [VCA,Z1,↓Q3,Nat.reduceEqDiff,Nat.reduceBEq,Nat.reduceAdd,Nat.reduceSub,Nat.reduceMul,Nat.reduceLT,Nat.reduceLeDiff,↓reduceIte,reduceCtorEq,Z3,Q6,SOp.rd,SI.rd,SX.rd,rdL,rdO,rdP,Q5,Q4,Q1,Q8,Q7,Z0,implies_true,forall_const,forall_eq,ne_eq,exists_eq_right_right,exists_eq_right,exists_eq_left,exists_eq_left',Q9,X3,eName,c34]
  repeat' (first | ((with_reducible refine brC (fun _=>?_) fun _=>?_) <;> try (exfalso;omega)) | (with_reducible apply pcallE.of; · exact c1) | (with_reducible apply pcallE.of; · exact c2) | (with_reducible apply pcallE.of; · exact hl) | (with_reducible apply pcallE.of; · exact hg) | (with_reducible refine And.intro ?_ ?_; · omega) | simp -dsimp -implicitDefEqProofs (disch:=omega) only [VCA,Z1,↓Q3,Nat.reduceEqDiff,Nat.reduceBEq,Nat.reduceAdd,Nat.reduceSub,Nat.reduceMul,Nat.reduceLT,Nat.reduceLeDiff,↓reduceIte,reduceCtorEq,Z3,Q6,SOp.rd,SI.rd,SX.rd,rdL,rdO,rdP,Q5,Q4,Q1,Q8,Q7,Z0,implies_true,forall_const,forall_eq,ne_eq,exists_eq_right_right,exists_eq_right,exists_eq_left,exists_eq_left',Q9,X3,eName])
  exact ⟨Sub.refl _,by rw [E]⟩
 ·rw [if_pos rfl] at E
  simp -dsimp -implicitDefEqProofs (disch:=omega) only [VCA,Z1,↓Q3,Nat.reduceEqDiff,Nat.reduceBEq,Nat.reduceAdd,Nat.reduceSub,Nat.reduceMul,Nat.reduceLT,Nat.reduceLeDiff,↓reduceIte,reduceCtorEq,Z3,Q6,SOp.rd,SI.rd,SX.rd,rdL,rdO,rdP,Q5,Q4,Q1,Q8,Q7,Z0,implies_true,forall_const,forall_eq,ne_eq,exists_eq_right_right,exists_eq_right,exists_eq_left,exists_eq_left',Q9,X3,eName,c34]
  repeat' (first | ((with_reducible refine brC (fun _=>?_) fun _=>?_) <;> try (exfalso;omega)) | (with_reducible apply pcallE.of; · exact c1) | (with_reducible apply pcallE.of; · exact c2) | (with_reducible apply pcallE.of; · exact hq) | (with_reducible refine And.intro ?_ ?_; · omega) | simp -dsimp -implicitDefEqProofs (disch:=omega) only [VCA,Z1,↓Q3,Nat.reduceEqDiff,Nat.reduceBEq,Nat.reduceAdd,Nat.reduceSub,Nat.reduceMul,Nat.reduceLT,Nat.reduceLeDiff,↓reduceIte,reduceCtorEq,Z3,Q6,SOp.rd,SI.rd,SX.rd,rdL,rdO,rdP,Q5,Q4,Q1,Q8,Q7,Z0,implies_true,forall_const,forall_eq,ne_eq,exists_eq_right_right,exists_eq_right,exists_eq_left,exists_eq_left',Q9,X3,eName])
  exact ⟨Sub.refl _,by rw [E]⟩
def c175:SFun:=⟨.seq (.reg [o 2 (.mv (.c (.str [])))]) (.seq (.reg [o 3 (.mv (.t 0)),o 4 (.pcall 111 [.t 3,.c (.bool true)]),o 2 (.mv (.t 4))]) .ret),[.tmp 2]⟩
theorem hc175:Y6 Tryz.prog {pure:=[111]} Tryz.f175=some c175:=by kernel_rfl
theorem hn175 : (Tryz.f175.name == "runtime.NumGoroutine") = false := by kernel_rfl
end Go.Proofs.K
end
section
set_option linter.unusedSimpArgs false
set_option linter.unusedVariables false
namespace Go.Proofs.K
open Go Go.Sim Go.Proofs
def ZK (a:HAttr):List UInt8:=[32]++a.name++[61,34]++JU true a.value++[34]
def XY (x:HNode):List UInt8:=[60]++x.name++x.attrs.flatMap ZK++[62]
def X9 (d:HDoc) (x:HNode):Bool:=
 (x.name==[112,114,101]||x.name==[116,101,120,116,97,114,101,97])&&(decide (x.kids≠[])&&((nd d (nth x.kids 0)).kind==3&&((nd d (nth x.kids 0)).text != []&&bt (nd d (nth x.kids 0)).text 0==10)))
def htG (d:HDoc) (x:HNode) (inner:List UInt8):List UInt8:=
 if x.kind=1 then inner
 else if x.kind=5 then [60,33,68,79,67,84,89,80,69,32]++x.name++[62]
 else if x.kind=4 then [60,33,45,45]++x.text++[45,45,62]
 else if x.kind=3 then (if 0<=x.parent/\rawM (nd d x.parent).name=1 then x.text else JU false x.text)
 else if inW x.name voidS=true/\x.kids=[] then XY x
 else XY x++(if X9 d x=true then [10] else [])++inner++[60,47]++x.name++[62]
def htF:Nat->HDoc->Int->List UInt8
 | 0,_,_=>[]
 | f+1,d,n=>htG d (nd d n) ((nd d n).kids.flatMap (htF f d))
def X6 (d:HDoc) (n:Int):List UInt8:=htF 41 d n
theorem htF_eq {d:HDoc} (V:DV d):∀ (f g:Nat) (n:Int),inD d n->41<=f+up d n->41<=g+up d n->htF f d n=htF g d n
 | 0,g,n,hn,hf,_=>by have:=V.deep n hn;omega
 | f+1,0,n,hn,_,hg=>by have:=V.deep n hn;omega
 | f+1,g+1,n,hn,hf,hg=>by
   unfold htF
   rw [W6 fun k hk=>htF_eq V f g k (V.kid n hn k hk).1 (by have:=V.up_kid hn hk;omega) (by have:=V.up_kid hn hk;omega)]
theorem UZ {d:HDoc} (V:DV d) {n:Int} (hn:inD d n):X6 d n=htG d (nd d n) ((nd d n).kids.flatMap (X6 d)):=by
 show htF 41 d n=_
 unfold htF
 rw [W6 fun k hk=>htF_eq V 40 41 k (V.kid n hn k hk).1 (by have:=V.up_kid hn hk;omega) (by omega)]
 rfl
theorem XV (attr:Bool):∀ (n:Nat) (s:List UInt8),s.length<=n->(JU attr s).length<=6*s.length
 | _,[],_=>by rw [escD_nil];simp
 | 0,c :: t,h=>by simp at h
 | n+1,c :: t,h=>by
   by_cases hc:c=194/\t.head? = some 160
   ·obtain ⟨rfl,ht⟩:=hc
    cases t with
    | nil=>cases ht
    | cons b u=>
      simp only [List.head?_cons,Option.some.injEq] at ht
      subst ht
      rw [escD_nb]
      have:=XV attr n u (by simp at h;omega)
      simp only [List.length_append,List.length_cons]
      have:nbspS.length=6:=rfl
      omega
   ·rw [escD_c attr c t hc]
    have h1:=XV attr n t (by simp at h;omega)
    have h2:(escC attr c).length<=6:=by
     unfold escC
     repeat' split
     all_goals first | decide | simp
    simp only [List.length_append,List.length_cons]
    omega
theorem flat_le {α β:Type} {f:α->List β} {k:Nat}:∀ l:List α,(∀ x∈l,(f x).length<=k)->(l.flatMap f).length<=k*l.length
 | [],_=>by simp
 | x :: r,h=>by
   have h1:=h x List.mem_cons_self
   have h2:=flat_le r fun y hy=>h y (List.mem_cons_of_mem _ hy)
   rw [List.flatMap_cons,List.length_append,List.length_cons,Nat.mul_add]
   omega
theorem flat_le2 {α β γ:Type} {f:α->List β} {g:α->List γ} {k:Nat}:∀ l:List α,(∀ x∈l,(f x).length<=k*(g x).length)->(l.flatMap f).length<=k*(l.flatMap g).length
 | [],_=>by simp
 | x :: r,h=>by
   have h1:=h x List.mem_cons_self
   have h2:=flat_le2 r fun y hy=>h y (List.mem_cons_of_mem _ hy)
   rw [List.flatMap_cons,List.flatMap_cons,List.length_append,List.length_append,Nat.mul_add]
   omega
structure NodeSz (x:HNode):Prop where
 name:x.name.length<=400
 attrs:x.attrs.length<=12
 each:∀ a∈x.attrs,a.name.length<=40/\a.value.length<=400/\YW false a.name=true
 text:x.text.length<=400
 elem:x.kind=2->YW true x.name=true
 kind:1<=x.kind/\x.kind<=5/\bareM x=true
theorem nodeE_sz {x:HNode} (h:nodeE x=0):NodeSz x:=by
 unfold nodeE at h
 split at h
 ·omega
 rename_i hk
 split at h
 ·omega
 rename_i he
 split at h
 ·rename_i ha;exact absurd h ha
 rename_i ha
 split at h
 ·omega
 rename_i hl
 have ha:attrsE x.attrs=0:=by simpa using ha
 unfold attrsE at ha
 split at ha
 ·omega
 have hz:=fe_zero ha
 refine ⟨by omega,by omega,fun a hm=>?_,by omega,fun k=>?_,by omega,by omega,?_⟩
 ·obtain ⟨j,hj,rfl⟩:=mem_nth hm
  have h1:=hz j hj
  unfold attrE at h1
  split at h1
  ·omega
  rename_i hn
  split at h1
  ·omega
  have hn:YW false (nth x.attrs j).name=true:=by simpa using hn
  refine ⟨?_,by omega,hn⟩
  unfold YW at hn
  simp only [Bool.and_eq_true,decide_eq_true_eq] at hn
  omega
 ·cases hq:YW true x.name with
  | true=>rfl
  | false=>exact absurd ⟨k,hq⟩ he
 ·cases hq:bareM x with
  | true=>rfl
  | false=>exact absurd (.inr (.inr hq)) hk
theorem html_len {d:HDoc} (V:DV d):∀ n,inD d n->(X6 d n).length<=40000*(J8 d n).length:=V.down fun n hn ih=>by
 have Z:=nodeE_sz (V.node n hn)
 rw [UZ V hn,V9 V hn]
 have hin:((nd d n).kids.flatMap (X6 d)).length<=40000*((nd d n).kids.flatMap (J8 d)).length:=flat_le2 _ ih
 have h1:=Z.name
 have h2:=Z.text
 have h3:=XV false _ (nd d n).text (Nat.le_refl _)
 have h4:(XY (nd d n)).length<=36000:=by
  unfold XY
  have:=flat_le (f:=ZK) (k:=2500) (nd d n).attrs fun a ha=>by
   have h1:=Z.each a ha
   have h2:=XV true _ a.value (Nat.le_refl _)
   unfold ZK
   simp only [List.length_append,List.length_cons,List.length_nil]
   omega
  have h5:=Z.attrs
  simp only [List.length_append,List.length_cons,List.length_nil]
  omega
 unfold htG
 simp only [List.length_cons]
 repeat' split
 all_goals (try simp only [List.length_append,List.length_cons,List.length_nil]);omega
section
variable {d:HDoc} {n:Int}
def fi (d:HDoc) (n k:Int):Int:=d.nodes.length+ix (J8 d n) k
def cc (d:HDoc) (n:Int):HDoc:=cpT d n (J8 d n).length
theorem UT:(cc d n).nodes.length=d.nodes.length+(J8 d n).length:=by
 unfold cc cpT;rw [List.length_append,List.length_map,List.length_take,Nat.min_self]
theorem ix_at (V:DV d) (hn:inD d n) {k:Int} (hk:k∈J8 d n):∃ i,i<(J8 d n).length/\nth (J8 d n) i=k/\ix (J8 d n) k=i:=by
 obtain ⟨i,_,h1,h2,h3⟩:=ix_mem (U2 V n hn) (Nat.le_refl _) (by rw [List.take_length];exact hk)
 exact ⟨i,h1,h2,h3⟩
theorem cc_in_old {m:Int} (h:inD d m):inD (cc d n) m:=by unfold inD at h ⊢; rw [UT];omega
theorem cc_in_new (V:DV d) (hn:inD d n) {k:Int} (hk:k∈J8 d n):inD (cc d n) (fi d n k):=by
 obtain ⟨i,h1,h2,h3⟩:=ix_at V hn hk
 unfold inD fi;rw [UT,h3];omega
theorem cc_old {m:Int} (h:inD d m):nd (cc d n) m=nd d m:=by
 unfold nd cc cpT
 obtain ⟨h0,h1⟩:=h
 have:m.toNat<d.nodes.length:=by omega
 unfold nth
 rw [List.getD_eq_getElem?_getD,List.getElem?_append_left this,<-List.getD_eq_getElem?_getD]
theorem cc_new (V:DV d) (hn:inD d n) {k:Int} (hk:k∈J8 d n):nd (cc d n) (fi d n k)=cpR d n k:=by
 obtain ⟨i,h1,h2,h3⟩:=ix_at V hn hk
 unfold nd fi cc cpT
 rw [h3]
 have e:((d.nodes.length:Int)+(i:Int)).toNat=d.nodes.length+i:=by omega
 unfold nth at h2 ⊢
 rw [e,List.getD_eq_getElem?_getD,List.getElem?_append_right (by omega),Nat.add_sub_cancel_left,List.take_length,List.getElem?_map]
 rw [List.getD_eq_getElem?_getD] at h2
 rw [List.getElem?_eq_getElem h1] at h2 ⊢
 simp only [Option.map_some,Option.getD_some] at h2 ⊢
 rw [h2]
theorem KX (V:DV d) (hn:inD d n) {m:Int} (h:inD (cc d n) m):inD d m \/ ∃ k,k∈J8 d n/\m=fi d n k:=by
 unfold inD at h;rw [UT] at h
 by_cases hm:m<d.nodes.length
 ·exact .inl ⟨h.1,hm⟩
 ·right
  have hi:(m-d.nodes.length).toNat<(J8 d n).length:=by omega
  refine ⟨nth (J8 d n) (m-d.nodes.length).toNat,U8 hi,?_⟩
  unfold fi
  rw [JQ (U2 V n hn) hi]
  omega
theorem fi_inj (V:DV d) (hn:inD d n) {k l:Int} (hk:k∈J8 d n) (hl:l∈J8 d n) (h:fi d n k=fi d n l):k=l:=by
 obtain ⟨i,_,h2,h3⟩:=ix_at V hn hk
 obtain ⟨j,_,g2,g3⟩:=ix_at V hn hl
 unfold fi at h
 rw [h3,g3] at h
 have:i=j:=by omega
 subst this
 rw [<-h2,g2]
theorem kids_in (V:DV d) (hn:inD d n) {p k:Int} (hp:p∈J8 d n) (hk:k∈(nd d p).kids):k∈J8 d n/\k≠n:=by
 have hpd:=YZ V n hn p hp
 obtain ⟨hkd,hpar⟩:=V.kid p hpd k hk
 have h1:k∈J8 d n:=(fam_below V hn hp).subset (List.mem_cons_of_mem _ hk)
 refine ⟨h1,fun e=>?_⟩
 subst e
 have h2:=(JT V hpd hn).1 hp
 have h3:=(chain_le V p hpd k h2).1
 have h4:=V.up_kid hpd hk
 omega
theorem nodeE_cp {x:HNode} {p:Int} {l:List Int} (h:(l=[])↔(x.kids=[])):nodeE { x with parent:=p,kids:=l }=nodeE x:=by
 have e:decide (l=[])=decide (x.kids=[]):=by simp [h]
 unfold nodeE bareM
 simp only [e]
theorem cc_DV (V:DV d) (hn:inD d n) (h0:n≠0) (hl:d.nodes.length+(J8 d n).length<=200):DV (cc d n):=by
 have bin:=YZ V n hn
 have no0:∀ k∈J8 d n,k≠0:=fun k hk e=>by
  subst e
  have h2:=(JT V (bin 0 hk) hn).1 hk
  have h3:=(chain_le V 0 (bin 0 hk) n h2).1
  have h4:up d 0=0:=V.up_top (by rw [V.root];decide)
  have h5:=(chain_le V 0 (bin 0 hk) n h2).2
  exact h0 (h5 (by omega))
 have old:=fun {m:Int} (h:inD d m)=>cc_old (n:=n) h
 have new:=fun {k:Int} (h:k∈J8 d n)=>cc_new V hn h
 have upo:∀ m,inD d m->up (cc d n) m=up d m:=fun m hm=>by
  have h1:upF ((cc d n).nodes.length+1) (cc d n) m=upF ((cc d n).nodes.length+1) d m:=upF_congr V (fun k hk=>by rw [old hk]) _ m hm
  have h3:=V.fin m hm
  unfold up at h3 ⊢
  rw [h1]
  exact upF_mono (f:=d.nodes.length+1) (by omega) (by rw [UT];omega)
 have upn:∀ (f:Nat) (k:Int),k∈J8 d n->upF f (cc d n) (fi d n k)<=upF f d k:=fun f=>by
  induction f with
  | zero=>intro k hk;exact Nat.le_refl _
  | succ f ih=>
    intro k hk
    unfold upF
    rw [new hk]
    unfold cpR
    simp only
    by_cases hkn:k=n
    ·subst hkn
     rw [if_pos rfl,if_neg (by decide)]
     exact Nat.zero_le _
    ·obtain ⟨q0,q1,q2⟩:=WX V hn hk hkn
     rw [if_neg hkn,if_pos q0]
     have:=ih _ q1
     unfold fi at this
     split
     ·omega
     ·omega
 have upn':∀ k,k∈J8 d n->up (cc d n) (fi d n k)<=up d k:=fun k hk=>by
  have h1:=upn ((cc d n).nodes.length+1) k hk
  have h3:=V.fin k (bin k hk)
  have h2:upF ((cc d n).nodes.length+1) d k=up d k:=upF_mono (f:=d.nodes.length+1) (by unfold up at h3;omega) (by rw [UT];omega)
  unfold up at h1 h2 ⊢
  omega
 have hpos:=V.pos
 have z0:inD d 0:=⟨by omega,by omega⟩
 refine ⟨by rw [UT];omega,by rw [UT];exact hl,fun m hm=>?_,fun m hm=>?_,fun m hm k hk=>?_,fun m hm=>?_,?_,fun m hm=>?_,?_,fun m hm=>?_,fun m hm=>?_⟩
 ·rcases KX V hn hm with h | ⟨k,hk,rfl⟩
  ·rw [old h];exact V.kind m h
  ·rw [new hk]
   have h1:=V.kind k (bin k hk)
   have h2:=no0 k hk
   have h3:fi d n k≠0:=by obtain ⟨i,_,_,h3⟩:=ix_at V hn hk;unfold fi;rw [h3];omega
   show (nd d k).kind=1↔_
   exact ⟨fun e=>absurd (h1.1 e) h2,fun e=>absurd e h3⟩
 ·rcases KX V hn hm with h | ⟨k,hk,rfl⟩
  ·rw [old h];exact V.node m h
  ·rw [new hk]
   unfold cpR
   rw [nodeE_cp (by simp)]
   exact V.node k (bin k hk)
 ·rcases KX V hn hm with h | ⟨p,hp,rfl⟩
  ·rw [old h] at hk
   obtain ⟨q1,q2⟩:=V.kid m h k hk
   exact ⟨cc_in_old q1,by rw [old q1];exact q2⟩
  ·rw [new hp] at hk
   unfold cpR at hk
   simp only [List.mem_map] at hk
   obtain ⟨c,hc,rfl⟩:=hk
   obtain ⟨q1,q2⟩:=kids_in V hn hp hc
   have q3:=V.kid p (bin p hp) c hc
   refine ⟨cc_in_new V hn q1,?_⟩
   show (nd (cc d n) (fi d n c)).parent=_
   rw [new q1]
   unfold cpR
   simp only
   rw [if_neg q2,q3.2]
   rfl
 ·rcases KX V hn hm with h | ⟨p,hp,rfl⟩
  ·rw [old h];exact V.nodup m h
  ·rw [new hp]
   show ((nd d p).kids.map fun c=>(d.nodes.length:Int)+ix (J8 d n) c).Nodup
   have hnd:=V.nodup p (bin p hp)
   rw [List.Nodup,List.pairwise_map]
   exact List.Pairwise.imp_of_mem (fun {a b} ha hb hab e=>hab (fi_inj V hn (kids_in V hn hp ha).1 (kids_in V hn hp hb).1 e)) hnd
 ·intro k hk
  rw [old z0] at hk
  rw [old (V.kid 0 z0 k hk).1]
  exact V.top k hk
 ·rcases KX V hn hm with h | ⟨k,hk,rfl⟩
  ·rw [old h]
   rcases V.par m h with q | ⟨q1,q2⟩
   ·exact .inl q
   ·exact .inr ⟨cc_in_old q1,by rw [old q1];exact q2⟩
  ·rw [new hk]
   unfold cpR
   simp only
   by_cases hkn:k=n
   ·rw [if_pos hkn];exact .inl rfl
   ·rw [if_neg hkn]
    obtain ⟨q0,q1,q2⟩:=WX V hn hk hkn
    refine .inr ⟨cc_in_new V hn q1,?_⟩
    show _∈(nd (cc d n) (fi d n (nd d k).parent)).kids
    rw [new q1]
    exact List.mem_map.2 ⟨k,q2,rfl⟩
 ·rw [old z0];exact V.root
 ·rcases KX V hn hm with h | ⟨k,hk,rfl⟩
  ·rw [upo m h,UT];have:=V.fin m h;omega
  ·have:=upn' k hk;have:=V.fin k (bin k hk);rw [UT];omega
 ·rcases KX V hn hm with h | ⟨k,hk,rfl⟩
  ·rw [upo m h];exact V.deep m h
  ·have:=upn' k hk;have:=V.deep k (bin k hk);omega
theorem cc_html_old (V:DV d) (C:DV (cc d n)):∀ m,inD d m->X6 (cc d n) m=X6 d m:=V.down fun m hm ih=>by
 rw [UZ C (cc_in_old hm),UZ V hm,cc_old hm,W6 ih]
 unfold htG X9
 by_cases hk:(nd d m).kids=[]
 ·by_cases hp:0<=(nd d m).parent
  ·rw [cc_old (V.par_in hm hp).1];simp [hk]
  ·simp [hk,hp]
 ·have h1:inD d (nth (nd d m).kids 0):=(V.kid m hm _ (U8 (List.length_pos_iff.2 hk))).1
  rw [cc_old h1]
  by_cases hp:0<=(nd d m).parent
  ·rw [cc_old (V.par_in hm hp).1]
  ·simp [hp]
theorem cc_html_new (V:DV d) (hn:inD d n) (C:DV (cc d n)) (hraw:¬ ((nd d n).kind=3/\0<=(nd d n).parent/\rawM (nd d (nd d n).parent).name=1)):∀ k,inD d k->k∈J8 d n->X6 (cc d n) (fi d n k)=X6 d k:=V.down fun k hk ih hb=>by
 rw [UZ C (cc_in_new V hn hb),UZ V hk,cc_new V hn hb]
 have e1:(cpR d n k).kids.flatMap (X6 (cc d n))=(nd d k).kids.flatMap (X6 d):=by
  show ((nd d k).kids.map fun c=>(d.nodes.length:Int)+ix (J8 d n) c).flatMap _=_
  rw [List.flatMap_map]
  exact W6 fun c hc=>ih c hc (kids_in V hn hb hc).1
 rw [e1]
 have e2:X9 (cc d n) (cpR d n k)=X9 d (nd d k):=by
  unfold X9
  by_cases hk0:(nd d k).kids=[]
  ·have:(cpR d n k).kids=[]:=by unfold cpR;simp [hk0]
   rw [this,hk0];simp
  ·have hpos:=List.length_pos_iff.2 hk0
   have h1:nth (cpR d n k).kids 0=fi d n (nth (nd d k).kids 0):=by
    show nth ((nd d k).kids.map fun c=>(d.nodes.length:Int)+ix (J8 d n) c) 0=_
    cases hks:(nd d k).kids with
    | nil=>exact absurd hks hk0
    | cons c r=>rfl
   have h2:=(kids_in V hn hb (U8 hpos)).1
   rw [h1,cc_new V hn h2]
   have h3:((cpR d n k).kids≠[])=((nd d k).kids≠[]):=by unfold cpR;simp
   simp only [h3]
   rfl
 have e3:((cpR d n k).kids=[])=((nd d k).kids=[]):=by unfold cpR;simp
 unfold htG
 rw [e2]
 simp only [e3]
 have e4:((nd d k).kind=3)->(if 0<=(cpR d n k).parent/\rawM (nd (cc d n) (cpR d n k).parent).name=1 then (nd d k).text else JU false (nd d k).text)=if 0<=(nd d k).parent/\rawM (nd d (nd d k).parent).name=1 then (nd d k).text else JU false (nd d k).text:=fun h3=>by
  by_cases hkn:k=n
  ·subst hkn
   have h4:(cpR d k k).parent = -1:=by unfold cpR;simp
   rw [h4,if_neg (by omega),if_neg (fun q=>hraw ⟨h3,q⟩)]
  ·obtain ⟨q0,q1,q2⟩:=WX V hn hb hkn
   have h4:(cpR d n k).parent=fi d n (nd d k).parent:=by unfold cpR fi;simp [hkn]
   have h5:0<=fi d n (nd d k).parent:=by obtain ⟨i,_,_,h3⟩:=ix_at V hn q1;unfold fi;rw [h3];omega
   rw [h4,cc_new V hn q1]
   have h6:(0<=fi d n (nd d k).parent/\rawM (cpR d n (nd d k).parent).name=1)=(0<=(nd d k).parent/\rawM (nd d (nd d k).parent).name=1):=by
    simp only [h5,q0,true_and]
    rfl
   simp only [h6]
 show (if (nd d k).kind=1 then _ else _)=_
 by_cases k1:(nd d k).kind=1
 ·rw [if_pos k1,if_pos k1]
 ·rw [if_neg k1,if_neg k1]
  show (if (nd d k).kind=5 then _ else _)=_
  by_cases k5:(nd d k).kind=5
  ·rw [if_pos k5,if_pos k5];rfl
  ·rw [if_neg k5,if_neg k5]
   show (if (nd d k).kind=4 then _ else _)=_
   by_cases k4:(nd d k).kind=4
   ·rw [if_pos k4,if_pos k4];rfl
   ·rw [if_neg k4,if_neg k4]
    show (if (nd d k).kind=3 then _ else _)=_
    by_cases k3:(nd d k).kind=3
    ·rw [if_pos k3,if_pos k3];exact e4 k3
    ·rw [if_neg k3,if_neg k3];rfl
end
end Go.Proofs.K
end
section
set_option linter.unusedSimpArgs false
set_option linter.unusedVariables false
namespace Go.Proofs.K
open Go Go.Sim Go.Proofs
variable {G:U5}
section
variable {X:List Nat} {h h':Z2} {f:Nat->HNode} {k:Nat} {b:AVal} {g:Nat->Nat}
end
namespace Own2
end Own2
end Go.Proofs.K
end
section
set_option linter.unusedSimpArgs false
set_option linter.unusedVariables false
namespace Go.Proofs.K
open Go Go.Sim Go.Proofs
variable {G:U5}
theorem upd_id {α:Type} (f:Nat->α) (r:Nat):upd f r (f r)=f:=by
 funext t
 by_cases h:t=r
 ·rw [h,Z9]
 ·rw [J7 _ _ h]
section
variable {d:HDoc}
def VX (d:HDoc) (n:Int):List Int:=(ZU d n).reverse
theorem path_len (V:DV d) {n:Int} (hn:inD d n):(VX d n).length=up d n+1:=by unfold VX;rw [List.length_reverse,chain_len V n hn]
theorem path_up (V:DV d) {n:Int} (hn:inD d n) (hp:0<=(nd d n).parent):VX d n=VX d (nd d n).parent++[n]:=by unfold VX;rw [ZQ V hn hp,List.reverse_cons]
theorem path_top (V:DV d) {n:Int} (hp:¬ 0<=(nd d n).parent):VX d n=[n]:=by unfold VX;rw [JK V hp];rfl
theorem nth_snoc_lt {l:List Int} {x:Int} {j:Nat} (h:j<l.length):nth (l++[x]) j=nth l j:=by
 unfold nth;rw [List.getD_eq_getElem?_getD,List.getElem?_append_left h,<-List.getD_eq_getElem?_getD]
theorem nth_snoc_eq {l:List Int} {x:Int}:nth (l++[x]) l.length=x:=by simp [nth,List.getD_eq_getElem?_getD]
theorem path_at (V:DV d):∀ n,inD d n -> ∀ j,j<=up d n->nth (VX d n) j∈ZU d n/\up d (nth (VX d n) j)=j:=V.rise fun n hn ih j hj=>by
 by_cases hp:0<=(nd d n).parent
 ·have hu:=V.up_par hn hp
  have hl:=path_len V (V.par_in hn hp).1
  rw [path_up V hn hp]
  by_cases h1:j=up d n
  ·have:j=(VX d (nd d n).parent).length:=by omega
   rw [this,nth_snoc_eq];exact ⟨TW _ _,by omega⟩
  ·obtain ⟨h2,h3⟩:=ih hp j (by omega)
   rw [nth_snoc_lt (by omega)]
   exact ⟨by rw [ZQ V hn hp];exact List.mem_cons_of_mem _ h2,h3⟩
 ·have hu:=V.up_top hp
  obtain rfl:j=0:=by omega
  rw [path_top V hp];exact ⟨TW _ _,hu⟩
structure Part (d:HDoc) (a b:Int) (i:Nat):Prop where
 pos:1<=i
 la:i<=(VX d a).length
 lb:i<=(VX d b).length
 eq:∀ j,j<i->nth (VX d a) j=nth (VX d b) j
 ne:¬ (i<(VX d a).length/\i<(VX d b).length/\nth (VX d a) i=nth (VX d b) i)
variable {a b:Int} {i:Nat}
theorem Part.node (V:DV d) (ha:inD d a) (hb:inD d b) (p:Part d a b i):nth (VX d a) (i-1)∈ZU d a/\nth (VX d a) (i-1)∈ZU d b/\up d (nth (VX d a) (i-1))=i-1:=by
 have h1:=path_at V a ha (i-1) (by have:=p.la;rw [path_len V ha] at this;omega)
 have h2:=path_at V b hb (i-1) (by have:=p.lb;rw [path_len V hb] at this;omega)
 exact ⟨h1.1,by rw [p.eq _ (by have:=p.pos;omega)];exact h2.1,h1.2⟩
end
end Go.Proofs.K
end
section
set_option linter.unusedSimpArgs false
set_option linter.unusedVariables false
namespace Go.Proofs.K
open Go Go.Sim Go.Proofs
variable {G:U5}
structure HPoint where
 node:Int
 at':Int
deriving DecidableEq,Inhabited
def eP (p:HPoint):List AVal:=[Y0 p.node,Y0 p.at']
instance:LenE eP 2:=⟨fun _=>rfl⟩
structure HSpan where
 a:HPoint
 b:HPoint
deriving DecidableEq,Inhabited
def eS (s:HSpan):List AVal:=[Y0 s.a.node,Y0 s.a.at',Y0 s.b.node,Y0 s.b.at']
instance:LenE eS 4:=⟨fun _=>rfl⟩
def rkey (d:HDoc) (n:Int):List Int:=((ZU d n).filter (fun m=>decide (0<m))).map fun m=>2*idxM (· == m) (nd d (nd d m).parent).kids+1
def key (d:HDoc) (p:HPoint):List Int:=(2*p.at' :: rkey d p.node).reverse
section
variable {d:HDoc}
end
end Go.Proofs.K
end
section
set_option linter.unusedSimpArgs false
set_option linter.unusedVariables false
namespace Go.Proofs.K
open Go Go.Sim Go.Proofs
section
variable {d:HDoc}
end
end Go.Proofs.K
end
section
set_option linter.unusedSimpArgs false
set_option linter.unusedVariables false
namespace Go.Proofs.K
open Go Go.Sim Go.Proofs
variable {G:U5}
def c11:SFun:=⟨.seq (.reg [o 3 (.boxF 24 2 (.t 0)),o 6 (.mv (.c .emp))]) (.seq (.reg [o 9 (.mv (.t 2)),o 10 (.mv (.t 1)),o 11 (.bldF 3 1 [.t 10]),o 12 (.app 3 1 8 (.t 9) (.t 11)),o 2 (.mv (.t 12))]) (.seq (.seq (.reg [o 13 (.fldA 0 (.t 3)),o 14 (.ld 1 false (.t 13)),o 15 (.mv (.t 1)),o 16 (.idxA 6 (.t 14) (.t 15)),o 17 (.fldA 5 (.t 16)),o 18 (.ld 1 false (.t 17)),o 19 (.len (.t 18)),o 20 (.mv (.c (.int .i64 0)))]) (.block 0 (.loop (.seq (.reg [o 21 (.bin .lss (.t 20) (.t 19))]) (.seq (.cond (.t 21) .skip (.exit 0)) (.seq (.block 1 (.seq (.reg [o 22 (.idxA 1 (.t 18) (.t 20)),o 23 (.ld 1 false (.t 22)),o 8 (.mv (.t 23))]) (.reg [o 24 (.ld 2 true (.t 3)),o 25 (.mv (.t 8)),o 26 (.mv (.t 2)),o 27 (.call (.c (.fn 11 [] [])) [.t 24,.t 25,.t 26]),o 2 (.mv (.t 27))]))) (.reg [o 28 (.bin .add (.t 20) (.c (.int .i64 1))),o 20 (.mv (.t 28))]))))))) (.seq (.reg [o 29 (.mv (.t 2)),o 6 (.mv (.t 29))]) .ret))),[.tmp 6]⟩
theorem hc11:Y6 Tryz.prog {} Tryz.f11=some c11:=by kernel_rfl
theorem walk_ok (d:HDoc) (V:DV d) (sm:DocSm d):∀ n,inD d n -> ∀ (h h1:Z2) (L:List Int) (a:AVal),Acc h 3 1 (L.map Z7) a h1->Sim.Sub h h1->L.length+(J8 d n).length<=1000000 ->
 DCalls (Pg G) 11 [.agg (J9 d),Y0 n,a] h1 fun r h2=>Acc h 3 1 ((L++J8 d n).map Z7) r h2/\Sim.Sub h h2:=V.down fun n hn ih h h1 L a A S hL=>by
 have hl:=V.len
 have n0:=hn.1
 have n1:=hn.2
 have e0:nth d.nodes n.toNat=nd d n:=rfl
 have kl:=(sm.nd n).kids
 have bl:=VV V hn
 have be:=V9 V hn
 refine Z4 Tryz.func11 (by kernel_rfl) hc11 (by rw [Tryz.ntmps11];simp) (by rw [Tryz.ntmps11];decide) ?_
 simp -dsimp -implicitDefEqProofs (disch:=omega) only [VCA,Z1,↓Q3,Nat.reduceEqDiff,Nat.reduceBEq,Nat.reduceAdd,Nat.reduceSub,Nat.reduceMul,Nat.reduceLT,Nat.reduceLeDiff,↓reduceIte,reduceCtorEq,Z3,Q6,SOp.rd,SI.rd,SX.rd,rdL,rdO,rdP,Q5,Q4,Q1,Q8,Q7,Z0,implies_true,forall_const,forall_eq,ne_eq,exists_eq_right_right,exists_eq_right,exists_eq_left,exists_eq_left',Q9,Z7,J6,Z8,c11,J9,Z6]
 refine A.app S (by simp only [List.length_map,List.length_cons,List.length_nil];omega) (by simp only [List.length_map,List.length_cons,List.length_nil];omega) fun a2 h2 A2 S2=>?_
 simp -dsimp -implicitDefEqProofs (disch:=omega) only [VCA,Z1,↓Q3,Nat.reduceEqDiff,Nat.reduceBEq,Nat.reduceAdd,Nat.reduceSub,Nat.reduceMul,Nat.reduceLT,Nat.reduceLeDiff,↓reduceIte,reduceCtorEq,Z3,Q6,SOp.rd,SI.rd,SX.rd,rdL,rdO,rdP,Q5,Q4,Q1,Q8,Q7,Z0,implies_true,forall_const,forall_eq,ne_eq,exists_eq_right_right,exists_eq_right,exists_eq_left,exists_eq_left',Q9,Z7,J6,Z8,J9,Z6,e0]
 refine ⟨by omega,?_⟩
 have A0:Acc h 3 1 ((L++n :: ((nd d n).kids.take 0).flatMap (J8 d)).map Z7) a2 h2:=by simpa [Z7] using A2
 have bel:(J8 d n).length=1+((nd d n).kids.flatMap (J8 d)).length:=by rw [be,List.length_cons];omega
 refine LoopVC.intro (fun m e h'=>∃ k:Nat,k<=(nd d n).kids.length/\m=(nd d n).kids.length-k/\e 3=.pin (J9 d)/\e 18=sl Z7 (nd d n).kids/\e 19=Y0 (nd d n).kids.length/\e 20=Y0 k/\Acc h 3 1 ((L++n :: ((nd d n).kids.take k).flatMap (J8 d)).map Z7) (e 2) h'/\Sim.Sub h h') _ ⟨0,by omega,rfl,rfl,rfl,rfl,rfl,A0,S2⟩ ?_
 clear A0 A2 S2 A S
 rintro m e h' ⟨k,hk,rfl,he3,he18,he19,he20,A,S⟩
 simp -dsimp -implicitDefEqProofs (disch:=omega) only [VCA,Z1,↓Q3,Nat.reduceEqDiff,Nat.reduceBEq,Nat.reduceAdd,Nat.reduceSub,Nat.reduceMul,Nat.reduceLT,Nat.reduceLeDiff,↓reduceIte,reduceCtorEq,Z3,Q6,SOp.rd,SI.rd,SX.rd,rdL,rdO,rdP,Q5,Q4,Q1,Q8,Q7,Z0,implies_true,forall_const,forall_eq,ne_eq,exists_eq_right_right,exists_eq_right,exists_eq_left,exists_eq_left',Q9,Z7,J6,Z8,he3,he18,he19,he20]
 refine Br.dec (fun hlt=>?_) (fun hge=>?_)
 ·have hk':k<(nd d n).kids.length:=by omega
  have hfl:(((nd d n).kids.take (k+1)).flatMap (J8 d)).length<=((nd d n).kids.flatMap (J8 d)).length:=by
   conv=>rhs;rw [<-List.take_append_drop (k+1) (nd d n).kids,List.flatMap_append,List.length_append]
   omega
  rw [KZ hk',List.flatMap_append,List.length_append] at hfl
  simp only [List.flatMap_cons,List.flatMap_nil,List.append_nil] at hfl
  have hI:=ih _ (U8 hk') h h' (L++n :: ((nd d n).kids.take k).flatMap (J8 d)) (e 2) A S (by rw [List.length_append,List.length_cons];omega)
  simp -dsimp -implicitDefEqProofs (disch:=omega) only [VCA,Z1,↓Q3,Nat.reduceEqDiff,Nat.reduceBEq,Nat.reduceAdd,Nat.reduceSub,Nat.reduceMul,Nat.reduceLT,Nat.reduceLeDiff,↓reduceIte,reduceCtorEq,Z3,Q6,SOp.rd,SI.rd,SX.rd,rdL,rdO,rdP,Q5,Q4,Q1,Q8,Q7,Z0,implies_true,forall_const,forall_eq,ne_eq,exists_eq_right_right,exists_eq_right,exists_eq_left,exists_eq_left',Q9,Z7,J6,Z8,he3,he18,he19,he20,eDoc_len,eDoc_take]
  refine ⟨by omega,?_⟩
  refine DCalls.of hI ?_
  rintro r h3 ⟨A3,S3⟩
  have A4:Acc h 3 1 ((L++n :: ((nd d n).kids.take (k+1)).flatMap (J8 d)).map Z7) r h3:=by
   rw [KZ hk',List.flatMap_append]
   simpa using A3
  simp -dsimp -implicitDefEqProofs (disch:=omega) only [VCA,Z1,↓Q3,Nat.reduceEqDiff,Nat.reduceBEq,Nat.reduceAdd,Nat.reduceSub,Nat.reduceMul,Nat.reduceLT,Nat.reduceLeDiff,↓reduceIte,reduceCtorEq,Z3,Q6,SOp.rd,SI.rd,SX.rd,rdL,rdO,rdP,Q5,Q4,Q1,Q8,Q7,Z0,implies_true,forall_const,forall_eq,ne_eq,exists_eq_right_right,exists_eq_right,exists_eq_left,exists_eq_left',Q9,Z7,J6,Z8,he3,he18,he19,he20]
  exact ⟨_,by omega,k+1,by omega,rfl,by omega,A4,S3⟩
 ·obtain rfl:k=(nd d n).kids.length:=by omega
  rw [List.take_length,<-be] at A
  simp -dsimp -implicitDefEqProofs (disch:=omega) only [VCA,Z1,↓Q3,Nat.reduceEqDiff,Nat.reduceBEq,Nat.reduceAdd,Nat.reduceSub,Nat.reduceMul,Nat.reduceLT,Nat.reduceLeDiff,↓reduceIte,reduceCtorEq,Z3,Q6,SOp.rd,SI.rd,SX.rd,rdL,rdO,rdP,Q5,Q4,Q1,Q8,Q7,Z0,implies_true,forall_const,forall_eq,ne_eq,exists_eq_right_right,exists_eq_right,exists_eq_left,exists_eq_left',Q9,Z7,J6,Z8]
  exact ⟨_,Sub.refl _,A,S⟩
theorem walk0_ok (d:HDoc) (V:DV d) (sm:DocSm d) (n:Int) (hn:inD d n):PCalls (Pg G) 11 [.agg (J9 d),Y0 n,.emp] (sl Z7 (J8 d n)):=PCalls.acc (ty:=3) (sz:=1) fun h=>
 (walk_ok (G:=G) d V sm n hn h h [] .emp .nil (Sub.refl _) (by have:=VV V hn;have:=V.len;simp;omega)).mono fun r h' hh=>by rw [List.nil_append] at hh;exact hh
def c21:SFun:=⟨.seq (.reg [o 0 (.new 24 2 [.emp,.bool false])]) (.seq (.reg [o 1 (.bld [.int .i64 0,.str [],.emp,.str [],.int .i64 0,.emp] [(0,(1,(.c (.int .i64 1)))),(4,(1,(.c (.int .i64 (-1)))))]),o 2 (.bldF 35 6 [.t 1]),o 3 (.bld [.emp,.bool false] [(0,(1,(.t 2)))]),⟨none,.st 2 (.t 0) (.t 3),none⟩]) .ret),[.cell 0 2 true]⟩
theorem hc21:Y6 Tryz.prog {} Tryz.f21=some c21:=by kernel_rfl
theorem hn21 : (Tryz.f21.name == "runtime.NumGoroutine") = false := by kernel_rfl
def W7 (d:HDoc) (n:Int):Int:=if docE d≠0 then docE d else if ¬ inD d n then 1 else if n=0 then 7 else if 200<d.nodes.length+(J8 d n).length then 2 else 0
def c5_s6:SCode:=(.seq (.seq (.reg [o 42 (.ld 2 true (.t 2)),o 43 (.mv (.t 1)),o 44 (.pcall 11 [.t 42,.t 43,.c .emp]),o 45 (.len (.t 44)),o 46 (.mv (.c (.int .i64 0)))]) (.block 1 (.loop (.seq (.reg [o 47 (.bin .lss (.t 46) (.t 45))]) (.seq (.cond (.t 47) .skip (.exit 1)) (.seq (.block 2 (.seq (.reg [o 48 (.idxA 1 (.t 44) (.t 46)),o 49 (.ld 1 false (.t 48)),o 12 (.mv (.t 49))]) (.seq (.reg [o 50 (.mv (.t 10)),o 51 (.mv (.t 12)),o 52 (.fldA 0 (.t 8)),o 53 (.ld 1 false (.t 52)),o 54 (.len (.t 53)),⟨none,.mup (some .i64) (.t 50) (.t 51) (.t 54),none⟩]) (.seq (.reg [o 55 (.fldA 0 (.t 2)),o 56 (.ld 1 false (.t 55)),o 57 (.mv (.t 12)),o 58 (.mv (.t 12)),o 59 (.bin .add (.t 58) (.c (.int .i64 1))),o 60 (.slA 6 (.t 56) (some (.t 57)) (some (.t 59))),o 61 (.bld [.emp,.bool false] [(0,(1,(.t 60)))]),o 62 (.call (.c (.fn 10 [] [])) [.t 61]),o 63 (.fld 0 1 false (.t 62)),o 64 (.idxA 6 (.t 63) (.c (.int .i64 0))),o 65 (.ld 6 true (.t 64)),o 13 (.new 35 6 [.int .i64 0,.str [],.emp,.str [],.int .i64 0,.emp]),⟨none,.st 6 (.t 13) (.t 65),none⟩]) (.seq (.reg [o 66 (.fldA 5 (.t 13)),⟨none,.st 1 (.t 66) (.c .emp),none⟩]) (.seq (.seq (.reg [o 67 (.mv (.t 12)),o 68 (.mv (.t 1)),o 69 (.bin .eql (.t 67) (.t 68))]) (.cond (.t 69) (.reg [o 70 (.fldA 4 (.t 13)),⟨none,.st 1 (.t 70) (.c (.int .i64 (-1))),none⟩]) (.seq (.reg [o 71 (.mv (.t 10)),o 72 (.fldA 4 (.t 13)),o 73 (.ld 1 false (.t 72)),o 74 (.lkp (some .i64) false (.int .i64 0) (.t 71) (.t 73)),o 75 (.fldA 4 (.t 13)),⟨none,.st 1 (.t 75) (.t 74),none⟩]) (.seq (.reg [o 76 (.fldA 0 (.t 8)),o 77 (.ld 1 false (.t 76)),o 78 (.fldA 4 (.t 13)),o 79 (.ld 1 false (.t 78)),o 80 (.idxA 6 (.t 77) (.t 79)),o 14 (.mv (.t 80))]) (.dreg [(o 81 (.mv (.t 14)),none),(o 82 (.mv (.t 14)),none),(o 83 (.fldA 0 (.t 82)),none),(o 84 (.fldA 5 (.t 83)),none),(o 85 (.ld 1 false (.t 84)),none),(o 86 (.fldA 0 (.t 8)),none),(o 87 (.ld 1 false (.t 86)),none),(o 88 (.len (.t 87)),none),(o 89 (.bldF 3 1 [.t 88]),none),(o 90 (.app 3 1 8 (.t 85) (.t 89)),(some [85,87])),(o 91 (.fldA 0 (.t 81)),none),(o 92 (.fldA 5 (.t 91)),none),(⟨none,.st 1 (.t 92) (.t 90),none⟩,(some [85,87]))]))))) (.reg [o 93 (.fldA 0 (.t 8)),o 94 (.ld 1 false (.t 93)),o 95 (.ld 6 true (.t 13)),o 96 (.bldF 35 6 [.t 95]),o 97 (.app 35 6 96 (.t 94) (.t 96)),o 98 (.fldA 0 (.t 8)),⟨none,.st 1 (.t 98) (.t 97),none⟩]))))))) (.reg [o 99 (.bin .add (.t 46) (.c (.int .i64 1))),o 46 (.mv (.t 99))]))))))) (.seq (.seq (.reg [o 100 (.fldA 0 (.t 8)),o 101 (.ld 1 false (.t 100)),o 102 (.len (.t 101)),o 103 (.bin .gtr (.t 102) (.c (.int .i64 200)))]) (.cond (.t 103) (.seq (.reg [o 104 (.bld [.emp,.bool false] []),⟨none,.st 2 (.t 4) (.t 104),none⟩,o 5 (.mv (.c (.int .i64 0))),o 6 (.mv (.c (.int .i64 2)))]) .ret) .skip)) (.seq (.reg [o 105 (.ld 2 true (.t 8)),o 106 (.mv (.t 9)),⟨none,.st 2 (.t 4) (.t 105),none⟩,o 5 (.mv (.t 106)),o 6 (.mv (.c (.int .i64 0)))]) .ret)))
def c5:SFun:=⟨.seq (.reg [o 2 (.boxF 24 2 (.t 0)),o 4 (.new 24 2 [.emp,.bool false]),o 5 (.mv (.c (.int .i64 0))),o 6 (.mv (.c (.int .i64 0)))]) (.seq (.seq (.reg [o 15 (.ld 2 true (.t 2)),o 16 (.pcall 9 [.t 15]),o 7 (.mv (.t 16))]) (.seq (.reg [o 17 (.mv (.t 7)),o 18 (.bin .neq (.t 17) (.c (.int .i64 0)))]) (.cond (.t 18) (.seq (.reg [o 19 (.bld [.emp,.bool false] []),o 20 (.mv (.t 7)),⟨none,.st 2 (.t 4) (.t 19),none⟩,o 5 (.mv (.c (.int .i64 0))),o 6 (.mv (.t 20))]) .ret) .skip))) (.seq (.block 0 (.seq (.reg [o 22 (.mv (.t 1)),o 23 (.bin .lss (.t 22) (.c (.int .i64 0))),o 24 (.mv (.t 23)),⟨some 25,.mv (.t 1),some (24,false)⟩,⟨some 26,.fldA 0 (.t 2),some (24,false)⟩,⟨some 27,.ld 1 false (.t 26),some (24,false)⟩,⟨some 28,.len (.t 27),some (24,false)⟩,⟨some 29,.bin .geq (.t 25) (.t 28),some (24,false)⟩,o 30 (.pick (.t 24) (.c (.bool true)) (.t 29)),o 21 (.mv (.t 30))]) (.cond (.t 21) (.seq (.reg [o 31 (.bld [.emp,.bool false] []),⟨none,.st 2 (.t 4) (.t 31),none⟩,o 5 (.mv (.c (.int .i64 0))),o 6 (.mv (.c (.int .i64 1)))]) .ret) (.seq (.reg [o 33 (.mv (.t 1)),o 34 (.bin .eql (.t 33) (.c (.int .i64 0))),o 32 (.mv (.t 34))]) (.cond (.t 32) (.seq (.reg [o 35 (.bld [.emp,.bool false] []),⟨none,.st 2 (.t 4) (.t 35),none⟩,o 5 (.mv (.c (.int .i64 0))),o 6 (.mv (.c (.int .i64 7)))]) .ret) .skip))))) (.seq (.reg [o 36 (.ld 2 true (.t 2)),o 37 (.call (.c (.fn 10 [] [])) [.t 36]),o 8 (.new 24 2 [.emp,.bool false]),⟨none,.st 2 (.t 8) (.t 37),none⟩]) (.seq (.reg [o 38 (.fldA 0 (.t 8)),o 39 (.ld 1 false (.t 38)),o 40 (.len (.t 39)),o 9 (.mv (.t 40))]) (.seq (.reg [o 41 (.mkm 40),o 10 (.mv (.t 41))]) c5_s6))))),[.cell 4 2 true,.tmp 5,.tmp 6]⟩
theorem hc5:Y6 Tryz.prog {pure:=[9,11],mp:=[10,41,50,71]} Tryz.f5=some c5:=by kernel_rfl
def CpK (d:HDoc) (n:Int) (h:Z2) (a:AVal) (h':Z2):Prop:=Sim.Sub h h'/\VwT (newH h h') a (.tup [.agg (J9 (if W7 d n=0 then cpT d n (J8 d n).length else noDoc)),Y0 (if W7 d n=0 then d.nodes.length else 0),Y0 (W7 d n)])
theorem copy_end (d:HDoc) (V:DV d) (sm:DocSm d) (n:Int) (hn:inD d n) (hn0:n≠0) {h0 h:Z2} {r4 r8 rM rN:Nat} {sl0:Nat->AVal} (hr4:h0 r4=none) (S0:Sim.Sub h0 (upd h0 r4 (some ⟨.t 24,2,[[.emp,.bool false]]⟩)))
 (E0:Dw [rM,r8] (upd h0 r4 (some ⟨.t 24,2,[[.emp,.bool false]]⟩)) h rN d sl0) (M0:∀ k,k<2*d.nodes.length->Mut (sl0 k)) (g8:h r8=some ⟨.t 24,2,[[.osl rN 6 0 d.nodes.length,.bool d.quirks]]⟩) (gM:h rM=some ⟨.m 40 (eM []),1,[]⟩)
 (n8:upd h0 r4 (some ⟨.t 24,2,[[.emp,.bool false]]⟩) r8=none) (nM:upd h0 r4 (some ⟨.t 24,2,[[.emp,.bool false]]⟩) rM=none)
 (e:Env) (e1:e 1=Y0 n) (e2:e 2=.pin (J9 d)) (e4:e 4=.vp r4 0) (e8:e 8=.vp r8 0) (e9:e 9=Y0 d.nodes.length) (e10:e 10=.mpr rM) :
 vc (Pg G) c5_s6 (retK [.cell 4 2 true,.tmp 5,.tmp 6] (CpK d n h0)) e h:=by
 have hl:=V.len
 have hp:=V.pos
 have hB:=walk0_ok (G:=G) d V sm n hn
 have bin:=YZ V n hn
 have bl:=VV V hn
 obtain ⟨A,hA⟩:∃ A,J8 d n=A:=⟨_,rfl⟩
 rw [hA] at hB bin bl
 simp only [J9] at hB
 unfold c5_s6
 skip
 simp -dsimp -implicitDefEqProofs (disch:=omega) only [↓Q0 24,↓Q2 24,VCA,Z1,↓Q3,Nat.reduceEqDiff,Nat.reduceBEq,Nat.reduceAdd,Nat.reduceSub,Nat.reduceMul,Nat.reduceLT,Nat.reduceLeDiff,↓reduceIte,reduceCtorEq,Z3,Q6,SOp.rd,SI.rd,SX.rd,rdL,rdO,rdP,Q5,Q4,Q1,Q8,Q7,Z0,implies_true,forall_const,forall_eq,ne_eq,exists_eq_right_right,exists_eq_right,exists_eq_left,exists_eq_left',Q9,Z7,J6,Z8,J9,e1,e2,e4,e8,e9,e10,J9]
 repeat' (first | ((with_reducible refine brC (fun _=>?_) fun _=>?_) <;> try (exfalso;omega)) | (with_reducible apply pcallE.of; · exact hB) | (with_reducible refine And.intro ?_ ?_; · omega) | simp -dsimp -implicitDefEqProofs (disch:=omega) only [↓Q0 24,↓Q2 24,VCA,Z1,↓Q3,Nat.reduceEqDiff,Nat.reduceBEq,Nat.reduceAdd,Nat.reduceSub,Nat.reduceMul,Nat.reduceLT,Nat.reduceLeDiff,↓reduceIte,reduceCtorEq,Z3,Q6,SOp.rd,SI.rd,SX.rd,rdL,rdO,rdP,Q5,Q4,Q1,Q8,Q7,Z0,implies_true,forall_const,forall_eq,ne_eq,exists_eq_right_right,exists_eq_right,exists_eq_left,exists_eq_left',Q9,Z7,J6,Z8,J9,e1,e2,e4,e8,e9,e10,J9])
 obtain ⟨HZ,hHZ⟩:∃ HZ,HZ=upd h0 r4 (some ⟨.t 24,2,[[.emp,.bool false]]⟩):=⟨_,rfl⟩
 have gZ:HZ r4=some ⟨.t 24,2,[[.emp,.bool false]]⟩:=by rw [hHZ,Z9]
 rw [<-hHZ] at S0 E0 n8 nM
 have x4:r4≠r8:=fun e=>by rw [e,n8] at gZ;cases gZ
 have xM:r4≠rM:=fun e=>by rw [e,nM] at gZ;cases gZ
 have x8M:r8≠rM:=fun e=>by rw [e,gM] at g8;cases g8
 have z0:cpD d n 0=d:=cpD_zero n
 have cl:∀ j,j<=A.length->(cpD d n j).nodes.length=d.nodes.length+j:=fun j hj=>cpD_len n (by rw [hA];exact hj)
 have cq:∀ j,(cpD d n j).quirks=d.quirks:=fun j=>rfl
 refine LoopVC.intro (fun m e h'=>∃ (j:Nat) (rN:Nat) (sl':Nat->AVal) (l:List (Int×Int)) (b:AVal),b=.osl rN 6 0 (d.nodes.length+j)/\j<=A.length/\m=A.length-j/\e 1=Y0 n/\e 2=.pin (J9 d)/\e 4=.vp r4 0/\e 8=.vp r8 0/\e 9=Y0 d.nodes.length/\e 10=.mpr rM/\e 44=sl Z7 A/\e 45=Y0 A.length/\e 46=Y0 j /\
  Dw [rM,r8] HZ h' rN (cpD d n j) sl'/\(∀ k,k<2*(d.nodes.length+j)->Mut (sl' k))/\h' r8=some ⟨.t 24,2,[[b,.bool d.quirks]]⟩/\h' rM=some ⟨.m 40 (eM l),1,[]⟩ /\ ∀ i,i<j->findI l (nth A i)=some ((d.nodes.length:Int)+i)) A.length
  ⟨0,rN,sl0,[],_,rfl,by omega,by omega,e1,e2,e4,e8,e9,e10,rfl,rfl,rfl,E0.cong z0.symm,M0,g8,gM,fun i hi=>by omega⟩ ?_
 clear e1 e2 e4 e8 e9 e10 E0 M0 g8 gM
 rintro m e h' ⟨j,rN,sl',l,b,hb,hj,rfl,e1,e2,e4,e8,e9,e10,e44,e45,e46,E,M,g8,gM,hf⟩
 have g4:=E.sub _ _ gZ
 have bL:aLen b=Y0 ((d.nodes.length+j:Nat):Int):=by rw [hb];rfl
 have bL2:okLen b=True:=by rw [hb];rfl
 have bV:isV b=true:=by rw [hb];rfl
 have bC:cellsOf b=[b]:=by rw [hb];rfl
 simp -dsimp -implicitDefEqProofs (disch:=omega) only [↓Q0 24,↓Q2 24,VCA,Z1,↓Q3,Nat.reduceEqDiff,Nat.reduceBEq,Nat.reduceAdd,Nat.reduceSub,Nat.reduceMul,Nat.reduceLT,Nat.reduceLeDiff,↓reduceIte,reduceCtorEq,Z3,Q6,SOp.rd,SI.rd,SX.rd,rdL,rdO,rdP,Q5,Q4,Q1,Q8,Q7,Z0,implies_true,forall_const,forall_eq,ne_eq,exists_eq_right_right,exists_eq_right,exists_eq_left,exists_eq_left',Q9,Z7,J6,Z8,J9,e1,e2,e4,e8,e9,e10,e44,e45,e46,g8,gM,g4]
 refine Br.dec (fun hlt=>?_) (fun hge=>?_)
 ·have hj':j<A.length:=by omega
  obtain ⟨c,hc⟩:∃ c,nth A j=c:=⟨_,rfl⟩
  have hcA:c∈A:=by rw [<-hc];exact U8 hj'
  have hci:=bin c hcA
  have c0:=hci.1
  have c1:=hci.2
  have cn:=hci.nat
  obtain ⟨x,hx⟩:∃ x,nd d c=x:=⟨_,rfl⟩
  have hx':nth d.nodes c.toNat=x:=hx
  simp -dsimp -implicitDefEqProofs (disch:=omega) only [↓Q0 24,↓Q2 24,VCA,Z1,↓Q3,Nat.reduceEqDiff,Nat.reduceBEq,Nat.reduceAdd,Nat.reduceSub,Nat.reduceMul,Nat.reduceLT,Nat.reduceLeDiff,↓reduceIte,reduceCtorEq,Z3,Q6,SOp.rd,SI.rd,SX.rd,rdL,rdO,rdP,Q5,Q4,Q1,Q8,Q7,Z0,implies_true,forall_const,forall_eq,ne_eq,exists_eq_right_right,exists_eq_right,exists_eq_left,exists_eq_left',Q9,Z7,J6,Z8,J9,e1,e2,e4,e8,e9,e10,e44,e45,e46,g8,gM,g4,hc,J9,bL,bL2,bV,bC]
  have one:(d.nodes.take (c+1).toNat).drop c.toNat=[x]:=by
   rw [show (c+1).toNat=c.toNat+1 by omega,List.drop_take,show c.toNat+1-c.toNat=1 by omega,List.drop_eq_getElem_cons cn.1]
   show [_]=[x]
   have:=K4 cn.1
   rw [List.getElem?_eq_getElem cn.1,hx'] at this
   rw [Option.some.inj this]
  have smx:DocSm ⟨[x],false⟩:=⟨by show 1<=1073741824;decide,fun y hy=>by rw [List.mem_singleton.1 hy,<-hx];exact sm.nd c⟩
  refine ⟨by omega,by omega,?_⟩
  rw [one]
  refine DCalls.of (own_ok' (G:=G) ⟨[x],false⟩ smx (Nat.lt_succ_self 0) _) ?_
  rintro _ h1 ⟨rN1,sl1,rfl,D,M1⟩
  have EM:=E.other (r:=rM) (by simp) nM ⟨.m 40 (eM (putI c ((d.nodes.length+j:Nat):Int) l)),1,[]⟩
  obtain ⟨HM,hHM⟩:∃ HM,HM=upd h' rM (some ⟨.m 40 (eM (putI c ((d.nodes.length+j:Nat):Int) l)),1,[]⟩):=⟨_,rfl⟩
  rw [<-hHM] at EM D
  have gM1:HM rM=some ⟨.m 40 (eM (putI c ((d.nodes.length+j:Nat):Int) l)),1,[]⟩:=by rw [hHM,Z9]
  have g81:HM r8=some ⟨.t 24,2,[[b,.bool d.quirks]]⟩:=by rw [hHM,J7 _ _ x8M];exact g8
  have gN1:=D.nodes
  have e0:T0 ⟨[x],false⟩ sl1=[rowA x (sl1 0) (sl1 1)]:=rfl
  rw [e0] at gN1
  have gM2:=D.sub _ _ gM1
  have g82:=D.sub _ _ g81
  simp -dsimp -implicitDefEqProofs (disch:=omega) only [↓Q0 24,↓Q2 24,VCA,Z1,↓Q3,Nat.reduceEqDiff,Nat.reduceBEq,Nat.reduceAdd,Nat.reduceSub,Nat.reduceMul,Nat.reduceLT,Nat.reduceLeDiff,↓reduceIte,reduceCtorEq,Z3,Q6,SOp.rd,SI.rd,SX.rd,rdL,rdO,rdP,Q5,Q4,Q1,Q8,Q7,Z0,implies_true,forall_const,forall_eq,ne_eq,exists_eq_right_right,exists_eq_right,exists_eq_left,exists_eq_left',Q9,Z7,J6,Z8,J9,e1,e2,e4,e8,e9,e10,e44,e45,e46,gN1,gM2,g82,rowA,bL,bL2,bV,bC]
  refine ⟨by decide,fun r13 hr13=>?_⟩
  obtain ⟨a1,ha1⟩:∃ a1,sl1 0=a1:=⟨_,rfl⟩
  have OA:=(D.own 0 (Nat.lt_succ_self 0)).1
  have MA:=M1 0 (Nat.succ_pos 1)
  have fA:=fun r hr=>(D.fresh 0 (Nat.succ_pos 1) r hr)
  rw [show 2*0=0 from rfl,ha1] at OA
  rw [ha1] at MA fA
  have hA1:OwnS h1 59 2 (x.attrs.map Z5) a1:=OA
  have wa:=OA.isV
  have wa1:=wa.1
  have wa2:=wa.2
  have m1:∀ t o,h1 t=some o->¬ t=r13:=fun t o ht e=>by rw [e,hr13] at ht;cases ht
  have m8:=m1 _ _ g82
  have mM:=m1 _ _ gM2
  have mN:=m1 _ _ (D.sub _ _ EM.nodes)
  have m8':¬ r13=r8:=fun e=>m8 e.symm
  have mM':¬ r13=rM:=fun e=>mM e.symm
  have fE:∀ r,Y7 a1=some r->HZ r=none/\r∉[rM,r8]/\r≠rN /\ ∀ k,k<2*(cpD d n j).nodes.length->Y7 (sl' k)≠some r:=fun r hr=>by
   have f1:=(fA r hr).1
   refine ⟨EM.sub.none f1,fun q=>?_,fun q=>?_,fun k hk q=>?_⟩
   ·obtain ⟨o,ho⟩:=EM.keep r q;rw [f1] at ho;cases ho
   ·have:=EM.nodes;rw [<-q,f1] at this;cases this
   ·obtain ⟨o,ho⟩:=EM.slot hk q;rw [f1] at ho;cases ho
  by_cases hcn:c=n
  ·have hb0:(c==n)=true:=by rw [hcn];simp
   rw [hb0,ha1]
   simp -dsimp -implicitDefEqProofs (disch:=omega) only [↓Q0 24,↓Q2 24,VCA,Z1,↓Q3,Nat.reduceEqDiff,Nat.reduceBEq,Nat.reduceAdd,Nat.reduceSub,Nat.reduceMul,Nat.reduceLT,Nat.reduceLeDiff,↓reduceIte,reduceCtorEq,Z3,Q6,SOp.rd,SI.rd,SX.rd,rdL,rdO,rdP,Q5,Q4,Q1,Q8,Q7,Z0,implies_true,forall_const,forall_eq,ne_eq,exists_eq_right_right,exists_eq_right,exists_eq_left,exists_eq_left',Q9,Z7,J6,Z8,J9,e1,e2,e4,e8,e9,e10,e44,e45,e46,gM2,g82,rowA,bL,bL2,bV,bC,wa1,wa2,m8,mM,mN,m8',mM',Z9]
   obtain ⟨H,hH⟩:∃ H,H=upd h1 r13 (some ⟨.t 35,6,[[Y0 x.kind,.str x.name,a1,.str x.text,Y0 (-1),.emp]]⟩):=⟨_,rfl⟩
   show Hd (appE 35 6 96 b [[Y0 x.kind,.str x.name,a1,.str x.text,Y0 (-1),.emp]] (upd h1 r13 (some ⟨.t 35,6,[[Y0 x.kind,.str x.name,a1,.str x.text,Y0 (-1),.emp]]⟩))) _ _
   rw [<-hH]
   have S1:Sim.Sub h1 H:=by rw [hH];exact (Sub.refl _).upd hr13
   have SH:=D.sub.trans S1
   have E':=EM.mono SH
   have j0:j=0:=by
    have:=(cp_self V hn (show j<(J8 d n).length by rw [hA];exact hj')).1
    rw [hA,hc] at this
    exact this hcn
   have eX:cpX d A n c=⟨x.kind,x.name,x.attrs,x.text,-1,[]⟩:=by unfold cpX;rw [hx,if_pos hcn]
   have fin:UV (cpD d n j) ⟨x.kind,x.name,x.attrs,x.text,-1,[]⟩=cpD d n (j+1):=by
    rw [j0,cpD_zero,cp_begin V hn,hA,<-eX,hcn]
   have H8:=SH _ _ g81
   have HM':=SH _ _ gM1
   have OA':OwnS H 59 2 (x.attrs.map Z5) a1:=OA.keep fun r o _ ho=>S1 _ _ ho
   have OR:=E'.rows
   rw [cl j hj,<-hb] at OR
   have Lj:=cl j hj
   have rb:Y7 b=some rN:=by rw [hb];rfl
   have M':∀ k,k<2*(cpD d n j).nodes.length->Mut (sl' k):=fun k hk=>M k (by rw [Lj] at hk;exact hk)
   refine OR.1.app OR.2 (by rw [V4,List.length_singleton];omega) (by rw [V4,List.length_singleton];omega) fun r' h3 q1 q2 q3=>?_
   rw [V4,List.length_singleton,Lj]
   have nb:∀ t,t≠rN->Y7 b≠some t:=fun t ht e=>by rw [rb] at e;cases e;exact ht rfl
   have nrX:∀ r∈[rM,r8],r≠rN:=fun r hr e=>E'.new.2 (e ▸ hr)
   have k8:=q3 _ _ H8 (nb _ (nrX r8 (by simp)))
   have kM:=q3 _ _ HM' (nb _ (nrX rM (by simp)))
   have fr':r'=rN\/H r'=none:=by
    rcases q2 with q | q
    ·rw [rb] at q;cases q;exact .inl rfl
    ·exact .inr q
   have ne:∀ r,Y7 a1=some r->r≠r':=fun r hr e=>by
    rcases fr' with q | q
    ·exact (fE r hr).2.2.1 (e.trans q)
    ·obtain ⟨o,ho⟩:=OA'.root hr
     rw [e,q] at ho;cases ho
   have E3:=E'.add (rN':=r') (a':=a1) (x:=⟨x.kind,x.name,x.attrs,x.text,-1,[]⟩) (h2:=h3) rfl q1 (fun r o ho hne=>q3 r o ho (nb r hne))
    (OA'.keep fun r o hr ho=>q3 r o ho (nb r (fE r hr).2.2.1)) (fun r hr=>⟨(fE r hr).1,(fE r hr).2.1,ne r hr,(fE r hr).2.2.2⟩) fr'
   have M3:=live_add M' MA ⟨x.kind,x.name,x.attrs,x.text,-1,[]⟩
   rw [fin] at E3 M3
   rw [cl (j+1) hj'] at M3
   have E4:=E3.other (r:=r8) (by simp) n8 ⟨24,2,[[.osl r' 6 0 (d.nodes.length+j+1),.bool d.quirks]]⟩
   simp -dsimp -implicitDefEqProofs (disch:=omega) only [↓Q0 24,↓Q2 24,VCA,Z1,↓Q3,Nat.reduceEqDiff,Nat.reduceBEq,Nat.reduceAdd,Nat.reduceSub,Nat.reduceMul,Nat.reduceLT,Nat.reduceLeDiff,↓reduceIte,reduceCtorEq,Z3,Q6,SOp.rd,SI.rd,SX.rd,rdL,rdO,rdP,Q5,Q4,Q1,Q8,Q7,Z0,implies_true,forall_const,forall_eq,ne_eq,exists_eq_right_right,exists_eq_right,exists_eq_left,exists_eq_left',Q9,Z7,J6,Z8,J9,e1,e2,e4,e8,e9,e10,e44,e45,e46,k8,kM,bL,bL2,bV,bC]
   refine ⟨_,by omega,j+1,r',_,_,hj',rfl,by omega,E4,M3,rfl,by rw [if_neg (fun e=>x8M e.symm)],fun i hi=>?_⟩
   rw [findI_put]
   by_cases hij:i=j
   ·rw [hij,hc,if_pos rfl];rfl
   ·rw [if_neg (fun q=>hij ?_)]
    ·exact hf i (by omega)
    ·have nu:=U2 V n hn
     rw [hA] at nu
     have i1:=JQ nu (show i<A.length by omega)
     have i2:=JQ nu hj'
     rw [q,<-hc,i2] at i1
     omega
  ·have hb0:(c==n)=false:=beq_eq_false_iff_ne.2 hcn
   have jp:0<j:=by
    have:=(cp_self V hn (show j<(J8 d n).length by rw [hA];exact hj')).2
    rw [hA,hc] at this
    exact Nat.pos_of_ne_zero fun e=>hcn (this e)
   obtain ⟨i,hij,hip,hix⟩:=cp_par V hn (show j<(J8 d n).length by rw [hA];exact hj') jp
   rw [hA,hc,hx] at hip hix
   have nu:=U2 V n hn
   rw [hA] at nu
   have pc:x.parent≠c:=fun q=>by
    have i2:=JQ nu hj'
    rw [hc,<-q,hix] at i2
    omega
   have pf:findI (putI c ((d.nodes.length+j:Nat):Int) l) x.parent=some ((d.nodes.length:Int)+i):=by
    rw [findI_put,if_neg pc,<-hip];exact hf i hij
   have wl:(T0 (cpD d n j) sl').length=d.nodes.length+j:=by rw [V4,cl j hj]
   have Hi:d.nodes.length+i<(cpD d n j).nodes.length:=by rw [cl j hj];omega
   have gi:=rowsA_get (sl:=sl') Hi
   obtain ⟨y,hy⟩:∃ y,nth (cpD d n j).nodes (d.nodes.length+i)=y:=⟨_,rfl⟩
   obtain ⟨s2,hs2⟩:∃ s2,sl' (2*(d.nodes.length+i)+1)=s2:=⟨_,rfl⟩
   obtain ⟨s1,hs1⟩:∃ s1,sl' (2*(d.nodes.length+i))=s1:=⟨_,rfl⟩
   rw [hy,hs1,hs2] at gi
   have gN2:=D.sub _ _ EM.nodes
   have mNr:¬ r13=rN:=fun e=>mN e.symm
   have bI:∀ q:Int,okIdxA 6 b (.int .i64 q)=(0<=q/\q<((d.nodes.length+j:Nat):Int)):=fun q=>by rw [hb,okIdxA_osl];simp
   have bI2:∀ q:Int,aIdxA b (.int .i64 q)=.ptr rN q.toNat 0:=fun q=>by rw [hb,aIdxA_osl,Nat.zero_add]
   have tn:((d.nodes.length:Int)+i).toNat=d.nodes.length+i:=by omega
   rw [hb0,ha1]
   simp -dsimp -implicitDefEqProofs (disch:=omega) only [↓Q0 24,↓Q2 24,VCA,Z1,↓Q3,Nat.reduceEqDiff,Nat.reduceBEq,Nat.reduceAdd,Nat.reduceSub,Nat.reduceMul,Nat.reduceLT,Nat.reduceLeDiff,↓reduceIte,reduceCtorEq,Z3,Q6,SOp.rd,SI.rd,SX.rd,rdL,rdO,rdP,Q5,Q4,Q1,Q8,Q7,Z0,implies_true,forall_const,forall_eq,ne_eq,exists_eq_right_right,exists_eq_right,exists_eq_left,exists_eq_left',Q9,Z7,J6,Z8,J9,e1,e2,e4,e8,e9,e10,e44,e45,e46,gM2,g82,rowA,bL,bL2,bV,bC,wa1,wa2,m8,mM,mN,m8',mM',Z9,pf,bI,bI2,tn,gN2,mNr,gi,wl]
   refine ⟨by omega,by omega,?_⟩
   obtain ⟨H,hH⟩:∃ H,H=upd h1 r13 (some ⟨.t 35,6,[[Y0 x.kind,.str x.name,a1,.str x.text,Y0 ((d.nodes.length:Int)+i),.emp]]⟩):=⟨_,rfl⟩
   show Hd (appE 3 1 8 s2 [[Y0 ((d.nodes.length+j:Nat):Int)]] (upd h1 r13 (some ⟨.t 35,6,[[Y0 x.kind,.str x.name,a1,.str x.text,Y0 ((d.nodes.length:Int)+i),.emp]]⟩))) _ _
   rw [<-hH]
   have S1:Sim.Sub h1 H:=by rw [hH];exact (Sub.refl _).upd hr13
   have SH:=D.sub.trans S1
   have EH:=EM.mono SH
   have H13:H r13=some ⟨.t 35,6,[[Y0 x.kind,.str x.name,a1,.str x.text,Y0 ((d.nodes.length:Int)+i),.emp]]⟩:=by rw [hH,Z9]
   have H8:=SH _ _ g81
   have HM':=SH _ _ gM1
   have HN:=EH.nodes
   have OA':OwnS H 59 2 (x.attrs.map Z5) a1:=OA.keep fun r o _ ho=>S1 _ _ ho
   have O2:=(EH.own _ Hi).2
   rw [hy,hs2] at O2
   have M2:Mut s2:=by rw [<-hs2];exact M _ (by omega)
   have f2:=fun (r:Nat) (hr:Y7 s2=some r)=>EH.fresh (2*(d.nodes.length+i)+1) (by omega) r (by rw [hs2];exact hr)
   have ye:y=cpN d A n j x.parent:=by rw [<-hy,cpD_new n (by rw [hA];omega) hij,hA,hip]
   have yl:y.kids.length<=1073741824:=by
    rw [ye];unfold cpN
    simp only [List.length_map]
    exact Nat.le_trans (List.length_filter_le _ _) (sm.nd x.parent).kids
   refine O2.app M2 (by rw [List.length_map,List.length_singleton];omega) (by rw [List.length_map,List.length_singleton];omega) fun r2 h3 q1 q2 q3=>?_
   rw [List.length_map,List.length_singleton]
   have e2N:Y7 s2≠some rN:=fun q=>(f2 _ q).2.1 rfl
   have e28:Y7 s2≠some r8:=fun q=>(f2 _ q).2.2 (by simp)
   have e2M:Y7 s2≠some rM:=fun q=>(f2 _ q).2.2 (by simp)
   have e213:Y7 s2≠some r13:=fun q=>by
    obtain ⟨o,ho⟩:=EM.slot (k:=2*(d.nodes.length+i)+1) (by omega) (by rw [hs2];exact q)
    exact m1 _ _ (D.sub _ _ ho) rfl
   have k8:=q3 _ _ H8 e28
   have kM:=q3 _ _ HM' e2M
   have kN:=q3 _ _ HN e2N
   have k13:=q3 _ _ H13 e213
   have n8N:¬ r8=rN:=fun e=>EH.new.2 (by rw [<-e];simp)
   have nMN:¬ rM=rN:=fun e=>EH.new.2 (by rw [<-e];simp)
   refine ⟨fun p hp hc=>?_,?_⟩
   ·exfalso
    rcases List.mem_cons.1 hp with rfl | hp
    ·have q:true=false:=hc
     cases q
    ·obtain ⟨t,_,rfl⟩:=List.mem_map.1 hp
     have q:true=false:=hc
     cases q
   simp -dsimp -implicitDefEqProofs (disch:=omega) only [↓Q0 24,↓Q2 24,VCA,Z1,↓Q3,Nat.reduceEqDiff,Nat.reduceBEq,Nat.reduceAdd,Nat.reduceSub,Nat.reduceMul,Nat.reduceLT,Nat.reduceLeDiff,↓reduceIte,reduceCtorEq,Z3,Q6,SOp.rd,SI.rd,SX.rd,rdL,rdO,rdP,Q5,Q4,Q1,Q8,Q7,Z0,implies_true,forall_const,forall_eq,ne_eq,exists_eq_right_right,exists_eq_right,exists_eq_left,exists_eq_left',Q9,Z7,J6,Z8,J9,e1,e2,e4,e8,e9,e10,e44,e45,e46,k8,kM,kN,k13,rowA,bL,bL2,bV,bC,wa1,wa2,gi,wl,bI2,tn,n8N,mNr,nMN]
   refine ⟨by omega,?_⟩
   obtain ⟨y',hy'⟩:∃ y':HNode,y' = { y with kids:=y.kids++[((d.nodes.length+j:Nat):Int)] }:=⟨_,rfl⟩
   obtain ⟨sl2,hsl2⟩:∃ sl2,sl2=upd sl' (2*(d.nodes.length+i)+1) (.osl r2 1 0 (y.kids.length+1)):=⟨_,rfl⟩
   have w1:sl2 (2*(d.nodes.length+i))=s1:=by rw [hsl2,J7 _ _ (by omega),hs1]
   have w2:sl2 (2*(d.nodes.length+i)+1)=.osl r2 1 0 (y.kids.length+1):=by rw [hsl2,Z9]
   obtain ⟨H2,hH2⟩:∃ H2,H2=upd h3 rN (some ⟨.t 35,6,(T0 (cpD d n j) sl').set (d.nodes.length+i) (rowA y' s1 (.osl r2 1 0 (y.kids.length+1)))⟩):=⟨_,rfl⟩
   show Hd (appE 35 6 96 b [[Y0 x.kind,.str x.name,a1,.str x.text,Y0 ((d.nodes.length:Int)+i),.emp]] (upd h3 rN (some ⟨.t 35,6,(T0 (cpD d n j) sl').set (d.nodes.length+i) [Y0 y.kind,.str y.name,s1,.str y.text,Y0 y.parent,.osl r2 1 0 (y.kids.length+1)]⟩))) _ _
   rw [show (upd h3 rN (some ⟨.t 35,6,(T0 (cpD d n j) sl').set (d.nodes.length+i) [Y0 y.kind,.str y.name,s1,.str y.text,Y0 y.parent,.osl r2 1 0 (y.kids.length+1)]⟩):Z2)=H2 from by rw [hH2,hy'];rfl]
   have r2N:r2≠rN:=fun e=>by
    rcases q2 with q | q
    ·exact e2N (by rw [<-e];exact q)
    ·rw [e,HN] at q;cases q
   have g1o:=(EH.own _ Hi).1
   rw [hy,hs1] at g1o
   have fs1:∀ r,Y7 s1=some r->r≠rN/\Y7 s2≠some r /\ ∃ o,H r=some o:=fun r hr=>⟨(EH.fresh (2*(d.nodes.length+i)) (by omega) r (by rw [hs1];exact hr)).2.1,fun q=>EH.sep (2*(d.nodes.length+i)) (2*(d.nodes.length+i)+1) (by omega) (by omega) (by omega) r (by rw [hs1];exact hr) (by rw [hs2];exact q),g1o.root hr⟩
   have E2:=EH.put (h2:=H2) Hi (x':=y') (sl':=sl2) (fun t t1 t2=>by rw [hsl2,J7 _ _ t2]) (by rw [hH2,Z9,w1,w2])
    (fun r o ho t1 t2 t3=>by rw [hH2,J7 _ _ t1];exact q3 r o ho (by rw [<-hs2];exact t3))
    (by
      rw [w1,hy']
      exact g1o.keep fun r o hr ho=>by rw [hH2,J7 _ _ (fs1 r hr).1];exact q3 r o ho (fs1 r hr).2.1)
    (by
      rw [w2,hy']
      refine .inr (.inr ⟨r2,_,by simp,by rw [hH2,J7 _ _ r2N];exact q1,by simp,?_⟩)
      rw [List.take_of_length_le (by simp)];simp;rfl)
    (fun r hr=>by
      rw [w1,w2] at hr
      rw [hs1,hs2]
      rcases hr with hr | hr
      ·exact .inl hr
      ·cases hr
       rcases q2 with q | q
       ·exact .inr (.inl q)
       ·exact .inr (.inr q))
    (fun r hr q=>by
      rw [w1] at hr
      rw [w2] at q
      cases q
      rcases q2 with q | q
      ·exact (fs1 _ hr).2.1 q
      ·obtain ⟨o,ho⟩:=(fs1 _ hr).2.2;rw [q] at ho;cases ho)
   obtain ⟨DJ,hDJ⟩:∃ DJ:HDoc,DJ=⟨(cpD d n j).nodes.set (d.nodes.length+i) y',(cpD d n j).quirks⟩:=⟨_,rfl⟩
   rw [<-hDJ] at E2
   have Lj:DJ.nodes.length=d.nodes.length+j:=by rw [hDJ];simp only [List.length_set];exact cl j hj
   have fin:UV DJ ⟨x.kind,x.name,x.attrs,x.text,(d.nodes.length:Int)+i,[]⟩=cpD d n (j+1):=by
    rw [cp_step V hn (show j<(J8 d n).length by rw [hA];exact hj') jp hij (by rw [hA,hc,hx];exact hip),hA,hc,hDJ,hy,hy']
    unfold cpX setN
    rw [hx,if_neg hcn,hix,Int.toNat_natCast]
   have H28:H2 r8=some ⟨.t 24,2,[[b,.bool d.quirks]]⟩:=by rw [hH2,J7 _ _ n8N];exact k8
   have H2M:H2 rM=some ⟨.m 40 (eM (putI c ((d.nodes.length+j:Nat):Int) l)),1,[]⟩:=by rw [hH2,J7 _ _ nMN];exact kM
   have na:∀ r,Y7 a1=some r->Y7 s2≠some r:=fun r hr=>by rw [<-hs2];exact (fE r hr).2.2.2 _ (by omega)
   have OA2:OwnS H2 59 2 (x.attrs.map Z5) a1:=OA'.keep fun r o hr ho=>by rw [hH2,J7 _ _ (fE r hr).2.2.1];exact q3 r o ho (na r hr)
   have fE2:∀ r,Y7 a1=some r->HZ r=none/\r∉[rM,r8]/\r≠rN /\ ∀ k,k<2*DJ.nodes.length->Y7 (sl2 k)≠some r:=fun r hr=>by
    refine ⟨(fE r hr).1,(fE r hr).2.1,(fE r hr).2.2.1,fun k hk=>?_⟩
    rw [hsl2]
    by_cases k1:k=2*(d.nodes.length+i)+1
    ·rw [k1,Z9]
     intro q
     cases q
     rcases q2 with q | q
     ·exact na _ hr q
     ·obtain ⟨o,ho⟩:=OA'.root hr;rw [q] at ho;cases ho
    ·rw [J7 _ _ k1];exact (fE r hr).2.2.2 k (by rw [cl j hj];rw [Lj] at hk;exact hk)
   have M':∀ k,k<2*DJ.nodes.length->Mut (sl2 k):=fun k hk=>by
    rw [Lj] at hk
    rw [hsl2]
    by_cases k1:k=2*(d.nodes.length+i)+1
    ·rw [k1,Z9];exact fun es e=>by cases e
    ·rw [J7 _ _ k1];exact M k hk
   have OR:=E2.rows
   rw [Lj,<-hb] at OR
   have rb:Y7 b=some rN:=by rw [hb];rfl
   refine OR.1.app OR.2 (by rw [V4,List.length_singleton];omega) (by rw [V4,List.length_singleton];omega) fun r' h4 p1 p2 p3=>?_
   rw [V4,List.length_singleton,Lj]
   have nb:∀ t,t≠rN->Y7 b≠some t:=fun t ht e=>by rw [rb] at e;cases e;exact ht rfl
   have nrX:∀ r∈[rM,r8],r≠rN:=fun r hr e=>E2.new.2 (e ▸ hr)
   have k38:=p3 _ _ H28 (nb _ (nrX r8 (by simp)))
   have k3M:=p3 _ _ H2M (nb _ (nrX rM (by simp)))
   have fr':r'=rN\/H2 r'=none:=by
    rcases p2 with q | q
    ·rw [rb] at q;cases q;exact .inl rfl
    ·exact .inr q
   have ne:∀ r,Y7 a1=some r->r≠r':=fun r hr e=>by
    rcases fr' with q | q
    ·exact (fE2 r hr).2.2.1 (e.trans q)
    ·obtain ⟨o,ho⟩:=OA2.root hr
     rw [e,q] at ho;cases ho
   have E3:=E2.add (rN':=r') (a':=a1) (x:=⟨x.kind,x.name,x.attrs,x.text,(d.nodes.length:Int)+i,[]⟩) (h2:=h4) rfl p1 (fun r o ho hne=>p3 r o ho (nb r hne))
    (OA2.keep fun r o hr ho=>p3 r o ho (nb r (fE2 r hr).2.2.1)) (fun r hr=>⟨(fE2 r hr).1,(fE2 r hr).2.1,ne r hr,(fE2 r hr).2.2.2⟩) fr'
   have M3:=live_add M' MA ⟨x.kind,x.name,x.attrs,x.text,(d.nodes.length:Int)+i,[]⟩
   rw [fin] at E3 M3
   rw [cl (j+1) hj'] at M3
   have E4:=E3.other (r:=r8) (by simp) n8 ⟨24,2,[[.osl r' 6 0 (d.nodes.length+j+1),.bool d.quirks]]⟩
   simp -dsimp -implicitDefEqProofs (disch:=omega) only [↓Q0 24,↓Q2 24,VCA,Z1,↓Q3,Nat.reduceEqDiff,Nat.reduceBEq,Nat.reduceAdd,Nat.reduceSub,Nat.reduceMul,Nat.reduceLT,Nat.reduceLeDiff,↓reduceIte,reduceCtorEq,Z3,Q6,SOp.rd,SI.rd,SX.rd,rdL,rdO,rdP,Q5,Q4,Q1,Q8,Q7,Z0,implies_true,forall_const,forall_eq,ne_eq,exists_eq_right_right,exists_eq_right,exists_eq_left,exists_eq_left',Q9,Z7,J6,Z8,J9,e1,e2,e4,e8,e9,e10,e44,e45,e46,k38,k3M,bL,bL2,bV,bC]
   refine ⟨_,by omega,j+1,r',_,_,hj',rfl,by omega,E4,M3,rfl,by rw [if_neg (fun e=>x8M e.symm)],fun t ht=>?_⟩
   rw [findI_put]
   by_cases htj:t=j
   ·rw [htj,hc,if_pos rfl];rfl
   ·rw [if_neg (fun q=>htj ?_)]
    ·exact hf t (by omega)
    ·have nu:=U2 V n hn
     rw [hA] at nu
     have i1:=JQ nu (show t<A.length by omega)
     have i2:=JQ nu hj'
     rw [q,<-hc,i2] at i1
     omega
 ·obtain rfl:j=A.length:=by omega
  have g43:=E.sub _ _ gZ
  have c1:W7 d n=if 200<d.nodes.length+A.length then 2 else 0:=by
   unfold W7
   rw [if_neg (by rw [(YY d).2 V];simp),if_neg (fun q=>q hn),if_neg hn0,hA]
  repeat' (first | ((with_reducible refine brC (fun _=>?_) fun _=>?_) <;> try (exfalso;omega)) | (with_reducible refine And.intro ?_ ?_; · omega) | simp -dsimp -implicitDefEqProofs (disch:=omega) only [↓Q0 24,↓Q2 24,VCA,Z1,↓Q3,Nat.reduceEqDiff,Nat.reduceBEq,Nat.reduceAdd,Nat.reduceSub,Nat.reduceMul,Nat.reduceLT,Nat.reduceLeDiff,↓reduceIte,reduceCtorEq,Z3,Q6,SOp.rd,SI.rd,SX.rd,rdL,rdO,rdP,Q5,Q4,Q1,Q8,Q7,Z0,implies_true,forall_const,forall_eq,ne_eq,exists_eq_right_right,exists_eq_right,exists_eq_left,exists_eq_left',Q9,Z7,J6,Z8,J9,e1,e2,e4,e8,e9,e10,e44,e45,e46,g8,gM,g4,x4,xM,x8M,bL,bL2,bV,bC])
  ·have c2:W7 d n=2:=by rw [c1,if_pos (by omega)]
   refine ⟨_,Sub.refl _,(S0.trans E.sub).upd hr4,?_⟩
   rw [c2,if_neg (by decide),if_neg (by decide)]
   exact .tup' (.cons (vw_noDoc _) (.cons (.refl _) (.cons (.refl _) .nil)))
  ·have c2:W7 d n=0:=by rw [c1,if_neg (by omega)]
   refine ⟨_,Sub.refl _,(S0.trans E.sub).upd hr4,?_⟩
   rw [c2,if_pos rfl,if_pos rfl,hA]
   have v:=(E.beside (h00:=h0) S0 gZ hr4 (by simp [x4,xM]) ⟨24,2,[[b,.bool d.quirks]]⟩).new'.vw
   have ca:=cp_all V hn
   rw [hA] at ca
   rw [ca] at v
   have lb:(cpT d n A.length).nodes.length=d.nodes.length+A.length:=by rw [<-ca];exact cl _ (Nat.le_refl _)
   rw [lb,<-hb] at v
   exact .tup' (.cons (Vw.agg' (.cons v (.cons (.refl _) .nil))) (.cons (.refl _) (.cons (.refl _) .nil)))
def copyD (d:HDoc) (n:Int):HDoc:=if W7 d n=0 then cpT d n (J8 d n).length else noDoc
def copyN (d:HDoc) (n:Int):Int:=if W7 d n=0 then d.nodes.length else 0
theorem copy_ok (d:HDoc) (sm:DocSm d) (n:Int):PCalls (Pg G) 5 [.agg (J9 d),Y0 n] (.tup [.agg (J9 (copyD d n)),Y0 (copyN d n),Y0 (W7 d n)]):=PCalls.outV fun h=>by
 have hC:=check_ok (G:=G) d sm
 simp only [J9] at hC
 have S0:∀ r4,h r4=none -> ∀ x,Sim.Sub h (upd h r4 (some x)):=fun r4 hr4 x=>(Sub.refl h).upd hr4
 have bad:∀ (x:Int),x≠0->W7 d n=x -> ∀ {r4},h r4=none -> ∀ y,CpK d n h (.tup [.agg [.emp,.bool false],.int .i64 0,.int .i64 x]) (upd h r4 (some y)):=fun x hx hc r4 hr4 y=>by
  refine ⟨S0 r4 hr4 y,?_⟩
  rw [hc,if_neg hx,if_neg hx]
  exact .tup' (.cons (vw_noDoc _) (.cons (.refl _) (.cons (.refl _) .nil)))
 show DCalls _ _ _ h (CpK d n h)
 refine Z4 Tryz.func5 (by kernel_rfl) hc5 (by rw [Tryz.ntmps5];simp) (by rw [Tryz.ntmps5];decide) ?_
 simp -dsimp -implicitDefEqProofs (disch:=omega) only [↓Q0 24,↓Q2 24,VCA,Z1,↓Q3,Nat.reduceEqDiff,Nat.reduceBEq,Nat.reduceAdd,Nat.reduceSub,Nat.reduceMul,Nat.reduceLT,Nat.reduceLeDiff,↓reduceIte,reduceCtorEq,Z3,Q6,SOp.rd,SI.rd,SX.rd,rdL,rdO,rdP,Q5,Q4,Q1,Q8,Q7,Z0,implies_true,forall_const,forall_eq,ne_eq,exists_eq_right_right,exists_eq_right,exists_eq_left,exists_eq_left',Q9,Z7,J6,Z8,J9,c5,J9]
 intro r4 hr4
 by_cases hd:docE d=0
 ·have V:=docE_DV hd
  rw [hd] at hC
  have hl:=V.len
  by_cases hn:inD d n
  ·have n0:=hn.1
   have n1:=hn.2
   by_cases hn0:n=0
   ·have cE:W7 d n=7:=by unfold W7;rw [if_neg (by simpa using hd),if_neg (fun q=>q hn),if_pos hn0]
    repeat' (first | ((with_reducible refine brC (fun _=>?_) fun _=>?_) <;> try (exfalso;omega)) | (with_reducible apply pcallE.of; · exact hC) | (with_reducible refine And.intro ?_ ?_; · omega) | simp -dsimp -implicitDefEqProofs (disch:=omega) only [↓Q0 24,↓Q2 24,VCA,Z1,↓Q3,Nat.reduceEqDiff,Nat.reduceBEq,Nat.reduceAdd,Nat.reduceSub,Nat.reduceMul,Nat.reduceLT,Nat.reduceLeDiff,↓reduceIte,reduceCtorEq,Z3,Q6,SOp.rd,SI.rd,SX.rd,rdL,rdO,rdP,Q5,Q4,Q1,Q8,Q7,Z0,implies_true,forall_const,forall_eq,ne_eq,exists_eq_right_right,exists_eq_right,exists_eq_left,exists_eq_left',Q9,Z7,J6,Z8,J9,Z9])
    all_goals try (exfalso;omega)
    all_goals exact ⟨_,Sub.refl _,bad 7 (by decide) cE hr4 _⟩
   ·have cE:(n==0)=false:=beq_eq_false_iff_ne.2 hn0
    repeat' (first | ((with_reducible refine brC (fun _=>?_) fun _=>?_) <;> try (exfalso;omega)) | (with_reducible apply pcallE.of; · exact hC) | (with_reducible refine And.intro ?_ ?_; · omega) | simp -dsimp -implicitDefEqProofs (disch:=omega) only [↓Q0 24,↓Q2 24,VCA,Z1,↓Q3,Nat.reduceEqDiff,Nat.reduceBEq,Nat.reduceAdd,Nat.reduceSub,Nat.reduceMul,Nat.reduceLT,Nat.reduceLeDiff,↓reduceIte,reduceCtorEq,Z3,Q6,SOp.rd,SI.rd,SX.rd,rdL,rdO,rdP,Q5,Q4,Q1,Q8,Q7,Z0,implies_true,forall_const,forall_eq,ne_eq,exists_eq_right_right,exists_eq_right,exists_eq_left,exists_eq_left',Q9,Z7,J6,Z8,J9,Z9,cE])
    all_goals try (exfalso;omega)
    refine DCalls.of (own_ok' (G:=G) d sm V.pos _) ?_
    rintro _ h1 ⟨rN,sl1,rfl,D,M⟩
    obtain ⟨HZ,hHZ⟩:∃ HZ,HZ=upd h r4 (some ⟨.t 24,2,[[.emp,.bool false]]⟩):=⟨_,rfl⟩
    have gZ:HZ r4=some ⟨.t 24,2,[[.emp,.bool false]]⟩:=by rw [hHZ,Z9]
    rw [<-hHZ] at D
    have gN:=D.nodes
    have g41:=D.sub _ _ gZ
    simp -dsimp -implicitDefEqProofs (disch:=omega) only [↓Q0 24,↓Q2 24,VCA,Z1,↓Q3,Nat.reduceEqDiff,Nat.reduceBEq,Nat.reduceAdd,Nat.reduceSub,Nat.reduceMul,Nat.reduceLT,Nat.reduceLeDiff,↓reduceIte,reduceCtorEq,Z3,Q6,SOp.rd,SI.rd,SX.rd,rdL,rdO,rdP,Q5,Q4,Q1,Q8,Q7,Z0,implies_true,forall_const,forall_eq,ne_eq,exists_eq_right_right,exists_eq_right,exists_eq_left,exists_eq_left',Q9,Z7,J6,Z8,J9,Z9,gN,g41]
    intro r8 hr8
    have m4:¬ r4=r8:=fun e=>by rw [<-e,g41] at hr8;cases hr8
    have mN:¬ rN=r8:=fun e=>by rw [<-e,gN] at hr8;cases hr8
    have D8:=D.more hr8 ⟨24,2,[[.osl rN 6 0 d.nodes.length,.bool d.quirks]]⟩
    intro rM hrM
    have rM8:¬ rM=r8:=hrM.1
    have DM:=D8.more (r:=rM) (by rw [J7 _ _ rM8];exact hrM.2) ⟨.m 40 (eM []),1,[]⟩
    have z8:=D.sub.none hr8
    have zM:=D.sub.none hrM.2
    rw [hHZ] at DM z8 zM
    exact copy_end d V sm n hn hn0 hr4 (S0 r4 hr4 _) DM M (by rw [J7 _ _ (fun e=>rM8 e.symm)];exact Z9 _ _ _) (Z9 _ _ _) z8 zM _ rfl rfl rfl rfl rfl rfl
  ·have cE:W7 d n=1:=by unfold W7;rw [if_neg (by simpa using hd),if_pos hn]
   unfold inD at hn
   repeat' (first | ((with_reducible refine brC (fun _=>?_) fun _=>?_) <;> try (exfalso;omega)) | (with_reducible apply pcallE.of; · exact hC) | (with_reducible refine And.intro ?_ ?_; · omega) | simp -dsimp -implicitDefEqProofs (disch:=omega) only [↓Q0 24,↓Q2 24,VCA,Z1,↓Q3,Nat.reduceEqDiff,Nat.reduceBEq,Nat.reduceAdd,Nat.reduceSub,Nat.reduceMul,Nat.reduceLT,Nat.reduceLeDiff,↓reduceIte,reduceCtorEq,Z3,Q6,SOp.rd,SI.rd,SX.rd,rdL,rdO,rdP,Q5,Q4,Q1,Q8,Q7,Z0,implies_true,forall_const,forall_eq,ne_eq,exists_eq_right_right,exists_eq_right,exists_eq_left,exists_eq_left',Q9,Z7,J6,Z8,J9,Z9])
   all_goals try (exfalso;omega)
   all_goals exact ⟨_,Sub.refl _,bad 1 (by decide) cE hr4 _⟩
 ·have cE:W7 d n=docE d:=by unfold W7;rw [if_pos hd]
  repeat' (first | ((with_reducible refine brC (fun _=>?_) fun _=>?_) <;> try (exfalso;omega)) | (with_reducible apply pcallE.of; · exact hC) | (with_reducible refine And.intro ?_ ?_; · omega) | simp -dsimp -implicitDefEqProofs (disch:=omega) only [↓Q0 24,↓Q2 24,VCA,Z1,↓Q3,Nat.reduceEqDiff,Nat.reduceBEq,Nat.reduceAdd,Nat.reduceSub,Nat.reduceMul,Nat.reduceLT,Nat.reduceLeDiff,↓reduceIte,reduceCtorEq,Z3,Q6,SOp.rd,SI.rd,SX.rd,rdL,rdO,rdP,Q5,Q4,Q1,Q8,Q7,Z0,implies_true,forall_const,forall_eq,ne_eq,exists_eq_right_right,exists_eq_right,exists_eq_left,exists_eq_left',Q9,Z7,J6,Z8,J9,Z9])
  all_goals try (exfalso;omega)
  all_goals exact ⟨_,Sub.refl _,bad _ hd cE hr4 _⟩
end Go.Proofs.K
end
section
set_option linter.unusedSimpArgs false
set_option linter.unusedVariables false
namespace Go.Proofs.K
open Go Go.Sim Go.Proofs Go.Shelf Go.RowKit
variable {G:U5}
abbrev Tw:Nat:=51
theorem lies_w:liesAt Tryz.prog Tryz.prog.depth Tw (4 / Tryz.prog.cellsOf Tw) 0 (bren.t 72) 1=true:=by kernel_rfl
theorem cc_fresh (b:Nat) (w:World) (h0:w.cell? ⟨b,0,none⟩=some (.pointer none)) (hsh:w.shape? b=some (Tw,4)) (hfz:w.frozen? ⟨b,0,none⟩=false) :
 Calls Tryz.prog 33 #[.pointer (some ⟨b,0,none⟩)] w fun e w'=>e=.returned (.tuple #[])/\w'=w.setCell ⟨b,0,none⟩ (.pointer (some ⟨b,0,none⟩)):=by
 have L:=lays240
 obtain ⟨j,hj,hjs⟩:=Option.map_eq_some_iff.1 x72.sizeBuilder
 have mixed:=L.mixed
 have t72:=L.t72;have a72:=L.a72;have z72:=L.z72;have v72:=L.v72;have u72:=run_underlying L.t72
 have t70:=L.t70;have a70:=L.a70;have z70:=L.z70;have v70:=L.v70;have u70:=run_underlying L.t70
 have t9:=L.t9;have a9:=L.a9;have z9:=L.z9;have v9:=L.v9;have u9:=run_underlying L.t9
 have t4:=L.t4;have a4:=L.a4;have z4:=L.z4;have v4:=L.v4;have u4:=run_underlying L.t4
 have t164:=L.t164;have a164:=L.a164;have z164:=L.z164;have v164:=L.v164;have u164:=run_underlying L.t164
 show Calls Tryz.prog (bren.f 240) _ _ _
 go_enter L.f240,Body.n240_ntmps bren
 go_wp2
 rw [Lib.run_to_unsafe w ⟨b,0,none⟩ L.t70 L.t164 hj (by rw [hjs];decide) hsh (Nat.zero_lt_succ 3)]
 simp only [Result.andThen]
 rw [Oper.upon_value]
 go_wp2
 rw [run_callFunc_extern L.f276 (by kernel_rfl) (by kernel_rfl) (by kernel_rfl) (e:=Extern.AbiNoEscape.same) (by kernel_rfl)]
 rw [Lib.run_noEscape]
 simp only [Result.andThen]
 rw [Oper.upon_value]
 go_wp2
 rw [Lib.run_from_unsafe w ⟨b,0,none⟩ L.t164 L.t70 hj hsh lies_w]
 simp only [Result.andThen]
 rw [Oper.upon_value]
 go_wp2
 go_end0
 exact ⟨rfl,rfl⟩
theorem copyCheckE_ok (rb:Nat) (h:Z2) (p buf x y:AVal) (hp:BP rb p) (hr:h rb=some ⟨Tw,4,[[p,buf,x,y]]⟩) {K:AVal->Z2->Prop} (hk:K (.tup []) (upd h rb (some ⟨Tw,4,[[.vp rb 0,buf,x,y]]⟩))) :
 DCalls (Pg G) 33 [.vp rb 0] h K:=by
 refine ⟨⟨_,Tryz.func33,by kernel_rfl,by kernel_rfl⟩,fun g w vs H GR V=>?_⟩
 obtain ⟨v,rfl,hv⟩:=V.one_inv
 obtain ⟨hlt,⟨hb,hc⟩,rfl⟩:=hv.vp_inv
 have O:=H.obj rb _ hr
 rcases O.block with h0 | ⟨hl,hf,cur,hcur,hsz,hcell⟩
 ·omega
 obtain ⟨lo,hi,hq,hlh⟩:=id hcur
 have hcs:cur.size=4:=by have h1:g.bo rb+g.cap rb*4=cur.size:=hsz;omega
 obtain ⟨u,hu,ho,hvu⟩:=hcell 0 0 _ p rfl rfl
 have rest:∀ (j:Nat) (z:AVal),1<=j->[p,buf,x,y][j]? = some z -> ∃ u,cur[j]? = some u/\u.oneCell'=true/\VRel g w u z:=fun j z hj hz=>by
  obtain ⟨u,hu,ho,hv⟩:=hcell 0 j _ z rfl hz
  exact ⟨u,by simpa [hb] using hu,ho,hv⟩
 simp only [hb] at hu
 have hw0:w.cell? ⟨g.eta rb,0,none⟩=some u:=by
  rw [hcur.cell];exact hu
 rcases hp with rfl | rfl
 ·rw [prim_inv hvu] at hw0
  refine (cc_fresh (g.eta rb) w hw0 ?_ ?_).mono ?_
  ·simp only [World.shape?,hq];show some (Tw,cur.size)=some (Tw,4);rw [hcs]
  ·simp [World.frozen?,hq];omega
  ·rintro e w' ⟨rfl,rfl⟩
   rw [setCell_eq_setRow w _ _ cur _ _ _ hq]
   obtain ⟨S,H'⟩:=root_write H hr hcur (by omega) (cur.setIfInBounds 0 (.pointer (some ⟨g.eta rb,0,none⟩))) (by simp) (es':=[[.vp rb 0,buf,x,y]]) (by simp) (by simp;omega) (fun i j e z he hx=>by
    cases i with
    | succ i=>simp at he
    | zero=>
      simp at he;subst he
      cases j with
      | zero=>simp at hx;subst hx;exact ⟨_,by simp [hb,hcs],rfl,.vp rb 0 hlt hb hc⟩
      | succ j=>
        obtain ⟨u2,q1,q2,q3⟩:=rest (j+1) z (by omega) (by simpa using hx)
        exact ⟨u2,by simpa [hb] using q1,q2,q3⟩)
   exact ⟨_,_,_,g,rfl,hk,H',.tup #[] [] rfl (fun j u a hu=>by simp at hu),S⟩
 ·obtain ⟨_,_,hu'⟩:=hvu.vp_inv
  rw [hu'] at hw0
  refine (Any.Builder_copyCheck_used lays240 x72 (g.eta rb) w hw0).mono ?_
  rintro e w' ⟨rfl,rfl⟩
  have:upd h rb (some ⟨Tw,4,[[.vp rb 0,buf,x,y]]⟩)=h:=Sim.upd_id hr
  rw [this] at hk
  exact ⟨_,_,h,g,rfl,hk,H,.tup #[] [] rfl (fun j u a hu=>by simp at hu),GS.refl g _⟩
def BlE (x y:AVal) (h0:Z2) (rb:Nat) (s:List UInt8) (h:Z2):Prop:=h0 rb=none /\ ∃ p buf,BP rb p/\(buf≠.emp->s≠[])/\Acc (upd h0 rb (some ⟨Tw,4,[[p,buf,x,y]]⟩)) Tu 1 (Y8 s) buf h/\Sub (upd h0 rb (some ⟨Tw,4,[[p,buf,x,y]]⟩)) h
section
variable {x y:AVal}
theorem BlE.new (h:Z2) (rb:Nat) (h0:h rb=none):BlE x y h rb [] (upd h rb (some ⟨Tw,4,[[.prim (.pointer none),.emp,x,y]]⟩)):=
 ⟨h0,_,_,.inl rfl,fun h=>absurd rfl h,Acc.nil,Sub.refl _⟩
theorem BlE.sub {h0 h:Z2} {rb:Nat} {s:List UInt8} (B:BlE x y h0 rb s h):Sub h0 h:=by
 obtain ⟨h1,p,buf,_,_,_,S⟩:=B
 exact sub_off h1 S
theorem BlE.at {h0 h:Z2} {rb:Nat} {s:List UInt8} (B:BlE x y h0 rb s h):∃ p buf,h rb=some ⟨Tw,4,[[p,buf,x,y]]⟩:=by
 obtain ⟨h1,p,buf,_,_,_,S⟩:=B
 exact ⟨p,buf,QT S⟩
theorem BlE.more {h0 h:Z2} {rb:Nat} {s:List UInt8} (B:BlE x y h0 rb s h) {r:Nat} (hr:h r=none) (o:AObj):BlE x y (upd h0 r (some o)) rb s (upd h r (some o)):=by
 obtain ⟨h1,p,buf,hp,hb,A,S⟩:=B
 have hrb:r≠rb:=fun e=>by rw [e,QT S] at hr;cases hr
 have hc:∀ z:AObj,upd (upd h0 r (some o)) rb (some z)=upd (upd h0 rb (some z)) r (some o):=fun z=>by
  funext t;unfold Sim.upd;by_cases e1:t=rb <;> by_cases e2:t=r <;> simp_all
 refine ⟨by rw [J7 _ _ (Ne.symm hrb)];exact h1,p,buf,hp,hb,?_,?_⟩
 ·rw [hc]
  rcases A with q | ⟨t,q1,q2,q3⟩
  ·exact .inl q
  ·have hne:t≠r:=fun e=>by rw [e,hr] at q2;cases q2
   exact .inr ⟨t,by rw [J7 _ _ hne];exact q1,by rw [J7 _ _ hne];exact q2,q3⟩
 ·rw [hc]
  intro t z ht
  by_cases e:t=r
  ·subst e;rw [Z9] at ht ⊢; exact ht
  ·rw [J7 _ _ e] at ht ⊢; exact S t z ht
theorem BlE.less {h0 h:Z2} {rb:Nat} {s:List UInt8} {r:Nat} {o:AObj} (B:BlE x y (upd h0 r (some o)) rb s h) (hr:h0 r=none):BlE x y h0 rb s h:=by
 obtain ⟨h1,p,buf,hp,hb,A,S⟩:=B
 have hrb:rb≠r:=fun e=>by rw [e,Z9] at h1;cases h1
 rw [J7 _ _ hrb] at h1
 have lo:∀ z t,upd (upd h0 r (some o)) rb (some z) t=none->upd h0 rb (some z) t=none:=fun z t ht=>by
  unfold Sim.upd at ht ⊢
  split at ht
  ·cases ht
  ·split at ht
   ·cases ht
   ·rename_i q1 q2;rw [if_neg q1];exact ht
 refine ⟨h1,p,buf,hp,hb,?_,fun t z ht=>S t z ?_⟩
 ·rcases A with q | ⟨t,q1,q2,q3⟩
  ·exact .inl q
  ·exact .inr ⟨t,lo _ _ q1,q2,q3⟩
 ·unfold Sim.upd at ht ⊢
  split at ht
  ·rename_i q;rw [if_pos q];exact ht
  ·rename_i q
   rw [if_neg q,if_neg (fun e=>by subst e;rw [hr] at ht;cases ht)];exact ht
theorem BlE.has {h0 h:Z2} {rb:Nat} {s:List UInt8} {r:Nat} {o:AObj} (B:BlE x y (upd h0 r (some o)) rb s h):h r=some o:=B.sub r o (Z9 _ _ _)
theorem BlE.free {h0 h:Z2} {rb:Nat} {s:List UInt8} (B:BlE x y h0 rb s h) {r:Nat} (hr:h r=none):h0 r=none:=B.sub.none hr
theorem U0 {h0 h:Z2} {rb:Nat} {s:List UInt8} (t:List UInt8) (B:BlE x y h0 rb s h) (hs:s.length+t.length<=140737488355328) :
 DCalls (Pg G) 24 [.vp rb 0,.str t] h fun a h'=>a=.tup [Y0 t.length,.prim .nilIface]/\BlE x y h0 rb (s++t) h':=by
 obtain ⟨hn,p,buf,hp,hnb,A,S⟩:=B
 refine Z4 Tryz.func24 hn24 hc24 (by rw [Tryz.ntmps24];simp) (by rw [Tryz.ntmps24];decide) ?_
 simp -dsimp -implicitDefEqProofs (disch:=omega) only [VCA,Z1,↓Q3,Nat.reduceEqDiff,Nat.reduceBEq,Nat.reduceAdd,Nat.reduceSub,Nat.reduceMul,Nat.reduceLT,Nat.reduceLeDiff,↓reduceIte,reduceCtorEq,Z3,Q6,SOp.rd,SI.rd,SX.rd,rdL,rdO,rdP,Q5,Q4,Q1,Q8,Q7,Z0,implies_true,forall_const,forall_eq,ne_eq,exists_eq_right_right,exists_eq_right,exists_eq_left,exists_eq_left',Q9,c24]
 refine copyCheckE_ok rb h p buf x y hp (QT S) ?_
 simp -dsimp -implicitDefEqProofs (disch:=omega) only [VCA,Z1,↓Q3,Nat.reduceEqDiff,Nat.reduceBEq,Nat.reduceAdd,Nat.reduceSub,Nat.reduceMul,Nat.reduceLT,Nat.reduceLeDiff,↓reduceIte,reduceCtorEq,Z3,Q6,SOp.rd,SI.rd,SX.rd,rdL,rdO,rdP,Q5,Q4,Q1,Q8,Q7,Z0,implies_true,forall_const,forall_eq,ne_eq,exists_eq_right_right,exists_eq_right,exists_eq_left,exists_eq_left',Q9]
 by_cases he:buf=.emp/\t=[]
 ·obtain ⟨rfl,rfl⟩:=he
  refine .inl ⟨rfl,rfl,?_⟩
  simp -dsimp -implicitDefEqProofs (disch:=omega) only [VCA,Z1,↓Q3,Nat.reduceEqDiff,Nat.reduceBEq,Nat.reduceAdd,Nat.reduceSub,Nat.reduceMul,Nat.reduceLT,Nat.reduceLeDiff,↓reduceIte,reduceCtorEq,Z3,Q6,SOp.rd,SI.rd,SX.rd,rdL,rdO,rdP,Q5,Q4,Q1,Q8,Q7,Z0,implies_true,forall_const,forall_eq,ne_eq,exists_eq_right_right,exists_eq_right,exists_eq_left,exists_eq_left',Q9]
  exact ⟨_,Sub.refl _,hn,_,_,.inr rfl,fun q=>absurd rfl q,by simpa using TX A,sub_at S⟩
 have hne:s++t≠[]:=fun q=>by
  obtain ⟨rfl,rfl⟩:=List.append_eq_nil_iff.1 q
  exact he ⟨Classical.byContradiction fun q=>hnb q rfl,rfl⟩
 refine .inr ((TX A).app (sub_at S) (by simp [Y8];omega) (by simp [Y8];omega) fun a' h3 A' S'=>?_)
 obtain ⟨hv,hc⟩:isV a'=true/\cellsOf a'=[a']:=by
  rcases A' with ⟨_,rfl⟩ | ⟨r,_,_,rfl⟩ <;> exact ⟨rfl,rfl⟩
 simp -dsimp -implicitDefEqProofs (disch:=omega) only [VCA,Z1,↓Q3,Nat.reduceEqDiff,Nat.reduceBEq,Nat.reduceAdd,Nat.reduceSub,Nat.reduceMul,Nat.reduceLT,Nat.reduceLeDiff,↓reduceIte,reduceCtorEq,Z3,Q6,SOp.rd,SI.rd,SX.rd,rdL,rdO,rdP,Q5,Q4,Q1,Q8,Q7,Z0,implies_true,forall_const,forall_eq,ne_eq,exists_eq_right_right,exists_eq_right,exists_eq_left,exists_eq_left',Q9,QT S',hv,hc]
 exact ⟨_,Sub.refl _,hn,_,_,.inr rfl,fun _=>hne,by simpa [Y8] using TX A',sub_at S'⟩
theorem stringE_ok {h0 h:Z2} {rb:Nat} {s:List UInt8} (B:BlE x y h0 rb s h) (hs:s.length<140737488355328) :
 DCalls (Pg G) 14 [.vp rb 0] h fun a h'=>a=.str s/\Sub h0 h':=by
 obtain ⟨hn,p,buf,hp,hne,A,S⟩:=B
 refine Z4 Tryz.func14 hn14 hc14 (by rw [Tryz.ntmps14];simp) (by rw [Tryz.ntmps14];decide) ?_
 rcases A with ⟨he,rfl⟩ | ⟨r,h1,h2,rfl⟩
 ·have hs0:s=[]:=by simpa [Y8] using he
  subst hs0
  simp -dsimp -implicitDefEqProofs (disch:=omega) only [VCA,Z1,↓Q3,Nat.reduceEqDiff,Nat.reduceBEq,Nat.reduceAdd,Nat.reduceSub,Nat.reduceMul,Nat.reduceLT,Nat.reduceLeDiff,↓reduceIte,reduceCtorEq,Z3,Q6,SOp.rd,SI.rd,SX.rd,rdL,rdO,rdP,Q5,Q4,Q1,Q8,Q7,Z0,implies_true,forall_const,forall_eq,ne_eq,exists_eq_right_right,exists_eq_right,exists_eq_left,exists_eq_left',Q9,c14,QT S]
  exact ⟨_,Sub.refl _,sub_off hn S⟩
 ·have hs1:s≠[]:=hne (by intro h;cases h)
  have hs2:0<s.length:=List.length_pos_iff.2 hs1
  have h1':h0 r=none/\r≠rb:=by
   have hne:r≠rb:=by rintro rfl;simp at h1
   exact ⟨by simpa [Sim.upd,hne] using h1,hne⟩
  simp -dsimp -implicitDefEqProofs (disch:=omega) only [VCA,Z1,↓Q3,Nat.reduceEqDiff,Nat.reduceBEq,Nat.reduceAdd,Nat.reduceSub,Nat.reduceMul,Nat.reduceLT,Nat.reduceLeDiff,↓reduceIte,reduceCtorEq,Z3,Q6,SOp.rd,SI.rd,SX.rd,rdL,rdO,rdP,Q5,Q4,Q1,Q8,Q7,Z0,implies_true,forall_const,forall_eq,ne_eq,exists_eq_right_right,exists_eq_right,exists_eq_left,exists_eq_left',Q9,c14,QT S]
  have hl:(Y8 s).length=s.length:=by simp [Y8]
  refine ⟨by omega,s,_,h2,rfl,rfl,by simp [Y8],List.take_of_length_le (by simp [Y8]),by simp [Y8],hs1,by omega,?_⟩
  simp -dsimp -implicitDefEqProofs (disch:=omega) only [VCA,Z1,↓Q3,Nat.reduceEqDiff,Nat.reduceBEq,Nat.reduceAdd,Nat.reduceSub,Nat.reduceMul,Nat.reduceLT,Nat.reduceLeDiff,↓reduceIte,reduceCtorEq,Z3,Q6,SOp.rd,SI.rd,SX.rd,rdL,rdO,rdP,Q5,Q4,Q1,Q8,Q7,Z0,implies_true,forall_const,forall_eq,ne_eq,exists_eq_right_right,exists_eq_right,exists_eq_left,exists_eq_left',Q9,QT S]
  first
   | exact ⟨_,Sub.refl _,Sub.del (sub_off hn S) h1'.1⟩
   | (refine ⟨?_,_,Sub.refl _,Sub.del (sub_off hn S) h1'.1⟩;rw [<-QT S];simp [Sim.del,Ne.symm h1'.2])
end
end Go.Proofs.K
end
