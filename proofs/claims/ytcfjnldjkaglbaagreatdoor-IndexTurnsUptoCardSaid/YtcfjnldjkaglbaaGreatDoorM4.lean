/- Texts of this claim, one behind the other. -/
import Derived.Test.YtcfjnldjkaglbaaGreatDoorProg
import Derived.Test.YtcfjnldjkaglbaaGreatDoorM3
import Derived.KernelRfl
import Derived.Test.YtcfjnldjkaglbaaGreatDoorRows
import Derived.WalkKit
import Derived.ProofKit
import Derived.OpenShut
import Derived.JoinedCond
import Derived.Lib.LaidU8T
import Derived.PinnedBridge
import Derived.Shelf.Vars
import Derived.Below
import Derived.Test.YtcfjnldjkaglbaaGreatDoorCards
import Derived.Test.YtcfjnldjkaglbaaGreatDoorTie
import Derived.Deep.DeepHandedRow
import Derived.MakeChecks
import Derived.Lib.SlicesCompact
import Derived.Shelf.Strings.Trim
import Derived.Shelf.Small.Utf8
import Derived.Shelf.Small.Strs
import Derived.Shelf.Small.Wraps
import Derived.Shelf.Strings.Search1
import Derived.Shelf.Unicode.Decode
import Derived.Shelf.Strings.Runes
import Derived.Shelf.Strings.AsciiSet
import Derived.Shelf.Unicode.DecodeSlow
import Derived.Shelf.Unicode.DecodeAny
import Derived.Shelf.Unicode.DecodeLast
import Derived.Shelf.Slices.Turned
import Derived.Shelf.Slices.Reverse
import Derived.Shelf.Slices.Equal
import Derived.Ground.Names2Prog
import Derived.Shelf.Slices.Clone
import Derived.Shelf.Slices.SearchI
import Derived.Shelf.Slices.Delete
import Derived.Shelf.Slices.Cells
import Derived.Shelf.Slices.Empties
import Derived.Shelf.Slices.Empties2
import Derived.Ground.SlgnProg
import Derived.Shelf.SlicesE.Reverse
import Derived.Shelf.SlicesE.Delete
import Derived.Shelf.SlicesE.Clone
import Derived.Shelf.Strings.SlTrimAscii
import Derived.Lib.IndexAny
set_option maxHeartbeats 4000000
set_option maxRecDepth 100000
section
namespace Go.Proofs.K
open Go Go.Sim Go.Proofs
noncomputable abbrev Pg (G:YZ):PG:=⟨Tryz.prog,G⟩
theorem pg_gl (G:YZ):(Pg G).gl=G:=rfl
end Go.Proofs.K
end
section
set_option linter.unusedSimpArgs false
set_option linter.unusedVariables false
namespace Go.Proofs.YtcfjnldjkaglbaaGreatDoor
open Go Go.Sim Go.Proofs Go.ChangeShapes Go.WideShapes Go.ChangeAt Go.RowKit
theorem own:ownKnob Tryz.prog.godebug=none:=by kernel_rfl
theorem bulkAll_mem {H:Type} {d:DataW H} {l:List (DataW H)} (h:d∈l):Rows.uptoBulk d<=Rows.uptoBulkAll l:=by
 induction l with
 | nil=>cases h
 | cons x r ih=>
   simp only [Rows.uptoBulkAll]
   rcases List.mem_cons.1 h with e | e
   ·subst e;omega
   ·have:=ih e;omega
theorem bulk_pos {H:Type} (d:DataW H):1<=Rows.uptoBulk d:=by
 cases d with
 | lit l=>cases l <;> simp [Rows.uptoBulk]
 | _=>simp [Rows.uptoBulk]
theorem bulkAll_len {H:Type} (l:List (DataW H)):l.length<=Rows.uptoBulkAll l:=by
 induction l with
 | nil=>simp [Rows.uptoBulkAll]
 | cons x r ih=>have:=bulk_pos x;simp only [Rows.uptoBulkAll,List.length_cons];omega
theorem bulk (H:Type):Bulk (Rows.uptoBulk (H:=H)) where
 str l:=by simp [Rows.uptoBulk]
 len es sp:=by have:=bulkAll_len es;simp only [Rows.uptoBulk];omega
 elem es sp d h:=by have:=bulkAll_mem h;simp only [Rows.uptoBulk];omega
 part ps d h:=by have:=bulkAll_mem h;simp only [Rows.uptoBulk];omega
variable {H:Type} {enc:TypeId×Value->H} {w:World}
theorem mStr:Mono (fun k (l:List UInt8)=>l.length<=k):=fun _ _ _ h1 h2=>Nat.le_trans h2 h1
theorem mInt {k:IntKind}:Mono (fun (_:Nat) (n:Int)=>(Lit.int k n).wf=true):=fun _ _ _ _ h=>h
theorem rInt:Rdr enc Tryz.prog w Rows.uptoBulk 3 Z6 (fun _ n=>(Lit.int .i64 n).wf=true):=Rdr.int Tryz.underlying3
theorem rBool:Rdr enc Tryz.prog w Rows.uptoBulk 4 (fun b:Bool=>[.bool b]) (fun _ _=>True):=Rdr.bool Tryz.underlying4
theorem rStr:Rdr enc Tryz.prog w Rows.uptoBulk 9 (fun l:List UInt8=>[.str l]) (fun k l=>l.length<=k):=Rdr.str (bulk H) Tryz.underlying9
theorem rInts:Rdr enc Tryz.prog w Rows.uptoBulk 29 (fun l:List Int=>[sl Z6 l]) (fun k l=>l.length<=k /\ ∀ x∈l,(Lit.int .i64 x).wf=true):=
 Rdr.slice (bulk H) mInt (sz:=1) (enc:=Z6) Tryz.underlying29 (by kernel_rfl) (by decide) (fun _=>rfl) rInt
end Go.Proofs.YtcfjnldjkaglbaaGreatDoor
end
section
set_option linter.unusedSimpArgs false
set_option linter.unusedVariables false
namespace Go.Proofs.K
open Go Go.Sim Go.Proofs
theorem brNdec {A B:Prop} {p:Prop} [Decidable p] (h1:¬ p->A) (h2:p->B):Br (!decide p) A B .mk:=⟨fun h=>h1 (by simpa using h),fun h=>h2 (by simpa using h)⟩
theorem brNeq {A B:Prop} {α:Type} [BEq α] [LawfulBEq α] {a b:α} (h1:a≠b->A) (h2:a=b->B):Br (!(a==b)) A B .mk:=⟨fun h=>h1 (by simpa using h),fun h=>h2 (by simpa using h)⟩
class BrC (t:Bool) (p q:outParam Prop):Prop where
 pos:t=true->p
 neg:t=false->q
instance (priority:=100) brCi (t:Bool):BrC t (t=true) (t=false):=⟨id,id⟩
instance brCd (p:Prop) [Decidable p]:BrC (decide p) p (¬ p):=⟨fun h=>by simpa using h,fun h=>by simpa using h⟩
instance brCe {α:Type} [BEq α] [LawfulBEq α] (a b:α):BrC (a==b) (a=b) (a≠b):=⟨fun h=>by simpa using h,fun h=>by simpa using h⟩
instance brCn {α:Type} [BEq α] [LawfulBEq α] (a b:α):BrC (a != b) (a≠b) (a=b):=⟨fun h=>by simpa using h,fun h=>by simpa using h⟩
instance brCf (p:Prop) [Decidable p]:BrC (!decide p) (¬ p) p:=⟨fun h=>by simpa using h,fun h=>by simpa using h⟩
instance brCg {α:Type} [BEq α] [LawfulBEq α] (a b:α):BrC (!(a==b)) (a≠b) (a=b):=⟨fun h=>by simpa using h,fun h=>by simpa using h⟩
theorem brC {A B:Prop} {t:Bool} {p q:Prop} [c:BrC t p q] (h1:p->A) (h2:q->B):Br t A B .mk:=⟨fun h=>h1 (c.pos h),fun h=>h2 (c.neg h)⟩
theorem JT {ty sz:Nat} {ps:List SX} {e:Env} {h:Q2} {K:AVal->Q2->Prop} {w:Wit K}:Hd (litE ty sz ps e h) K w=(Z7 sz e ps /\ ∀ r,h r=none->K (.osl r sz 0 ps.length) (upd h r (some ⟨ty,sz,ps.map fun x=>cellsOf (ev e x)⟩))):=rfl
theorem Y7 {α:Type} [Inhabited α] {l:List α} {k:Nat} (h:k<l.length):nth l k∈l:=List.mem_of_getElem? (J5 h)
theorem QY {α:Type} [Inhabited α] {l:List α} {x:α} (h:x∈l):∃ k,k<l.length/\nth l k=x:=by
 obtain ⟨k,hk⟩:=List.mem_iff_getElem?.1 h
 have hl:=(List.getElem?_eq_some_iff.1 hk).1
 have:=J5 hl
 rw [hk] at this
 exact ⟨k,hl,(Option.some.inj this).symm⟩
theorem ext_nth {α:Type} [Inhabited α] {l m:List α} (hl:l.length=m.length) (h:∀ j,j<l.length->nth l j=nth m j):l=m:=by
 apply List.ext_getElem? 
 intro i
 by_cases hi:i<l.length
 ·rw [J5 hi,J5 (by omega),h i hi]
 ·rw [List.getElem?_eq_none (by omega),List.getElem?_eq_none (by omega)]
theorem X1 {α:Type} [Inhabited α] {l:List α} {j:Nat} (h:j<l.length):l.take (j+1)=l.take j++[nth l j]:=by
 rw [List.take_add_one,J5 h];rfl
def U8 {α:Type} (p:α->Bool) (l:List α):Int:=match l.findIdx? p with | some i=>i | none=>-1
theorem VV {α:Type} [Inhabited α] {p:α->Bool} {l:List α} {k:Nat} (hk:k<l.length) (h1:∀ j,j<k->p (nth l j)=false) (h2:p (nth l k)=true):U8 p l=k:=by
 have hn:∀ j (hj:j<l.length),l[j]=nth l j:=fun j hj=>by have:=J5 hj;rw [List.getElem?_eq_getElem hj] at this;exact Option.some.inj this
 have:l.findIdx? p=some k:=by
  rw [List.findIdx?_eq_some_iff_getElem]
  refine ⟨hk,by rw [hn k hk];exact h2,fun j hj=>?_⟩
  rw [hn j (by omega),h1 j hj];simp
 rw [U8,this]
theorem VU {α:Type} [Inhabited α] {p:α->Bool} {l:List α} (h1:∀ j,j<l.length->p (nth l j)=false):U8 p l = -1:=by
 have hn:∀ j (hj:j<l.length),l[j]=nth l j:=fun j hj=>by have:=J5 hj;rw [List.getElem?_eq_getElem hj] at this;exact Option.some.inj this
 have:l.findIdx? p=none:=by
  rw [List.findIdx?_eq_none_iff]
  intro x hx
  obtain ⟨j,hj,rfl⟩:=List.getElem_of_mem hx
  rw [hn j hj];exact h1 j hj
 rw [U8,this]
theorem idxM_any {α:Type} (p:α->Bool) (l:List α):decide (0<=U8 p l)=l.any p:=by
 unfold U8
 cases h:l.findIdx? p with
 | none=>
   rw [List.findIdx?_eq_none_iff] at h
   have:l.any p=false:=by rw [List.any_eq_false];intro x hx;simp [h x hx]
   rw [this];simp
 | some i=>
   have h2:(l.findIdx? p).isSome=true:=by rw [h];rfl
   rw [List.findIdx?_isSome] at h2
   rw [h2]
   simp
def lastP {α:Type} (p:α->Bool):List α->Nat
 | []=>0
 | x :: r=>match lastP p r with
   | 0=>if p x then 1 else 0
   | n+1=>n+2
def IsLastP {α:Type} [Inhabited α] (p:α->Bool) (l:List α) (k:Nat):Prop:=k<=l.length/\(k=0\/p (nth l (k-1))=true) /\ ∀ j,k<=j->j<l.length->p (nth l j)=false
theorem lastP_is {α:Type} [Inhabited α] (p:α->Bool) (l:List α):IsLastP p l (lastP p l):=by
 induction l with
 | nil=>exact ⟨by simp [lastP],.inl rfl,fun j _ h=>by simp at h⟩
 | cons x r ih=>
   obtain ⟨h1,h2,h3⟩:=ih
   cases hm:lastP p r with
   | zero=>
     rw [hm] at h3
     by_cases hx:p x=true
     ·simp only [lastP,hm,hx,if_true]
      refine ⟨by simp,.inr (by simpa [nth] using hx),fun j hj hl=>?_⟩
      obtain ⟨j,rfl⟩:∃ i,j=i+1:=⟨j-1,by omega⟩
      exact h3 j (by omega) (by simpa using hl)
     ·simp only [lastP,hm,hx]
      refine ⟨by simp,.inl (by simp),fun j hj hl=>?_⟩
      cases j with
      | zero=>simpa [nth] using hx
      | succ j=>exact h3 j (by omega) (by simpa using hl)
   | succ n=>
     rw [hm] at h1 h2 h3
     simp only [lastP,hm]
     refine ⟨by simp;omega,.inr ?_,fun j hj hl=>?_⟩
     ·rcases h2 with h2 | h2
      ·omega
      ·simpa [nth] using h2
     ·obtain ⟨j,rfl⟩:∃ i,j=i+1:=⟨j-1,by omega⟩
      exact h3 j (by omega) (by simpa using hl)
theorem IsLastP.eq {α:Type} [Inhabited α] {p:α->Bool} {l:List α} {k:Nat} (h:IsLastP p l k):lastP p l=k:=by
 obtain ⟨a1,a2,a3⟩:=lastP_is p l
 obtain ⟨b1,b2,b3⟩:=h
 rcases Nat.lt_trichotomy (lastP p l) k with h | h | h
 ·rcases b2 with b2 | b2
  ·omega
  ·rw [a3 _ (by omega) (by omega)] at b2;cases b2
 ·exact h
 ·rcases a2 with a2 | a2
  ·omega
  ·rw [b3 _ (by omega) (by omega)] at a2;cases a2
theorem u8_all {p:UInt8->Bool} (h:((List.range 256).all fun n=>p (UInt8.ofNat n))=true) (b:UInt8):p b=true:=by
 have:=List.all_eq_true.1 h b.toNat (List.mem_range.2 b.toNat_lt)
 simpa using this
theorem K9 {α:Type} [Inhabited α] (l:List α) (i j:Nat) (x:α) (hi:i<l.length):nth (l.set i x) j=if j=i then x else nth l j:=by
 unfold nth
 rw [List.getD_eq_getElem?_getD,List.getD_eq_getElem?_getD,List.getElem?_set]
 by_cases h:i=j
 ·subst h;simp [hi]
 ·rw [if_neg h,if_neg (fun e=>h e.symm)]
variable {G:YZ}
def intsA (k:IntKind) (l:List Int):List AVal:=l.map fun x=>.int k x
def firstL:List Int:=(List.range 256).map fun c=>(Lib.firstT c:Int)
def acceptL:List Int:=(List.range 32).map fun i=>if i % 2=0 then (Lib.accLo (i / 2):Int) else Lib.accHi (i / 2)
theorem firstL_at (c:Nat) (h:c<256):firstL[c]? = some (Lib.firstT c:Int):=by simp [firstL,h]
theorem acceptL_lo (i:Nat) (h:i<16):acceptL[2*i]? = some (Lib.accLo i:Int):=by
 have:2*i<32:=by omega
 simp [acceptL,this]
theorem acceptL_hi (i:Nat) (h:i<16):acceptL[2*i+1]? = some (Lib.accHi i:Int):=by
 have h1:2*i+1<32:=by omega
 have h2:(2*i+1) / 2=i:=by omega
 have h3:(2*i+1) % 2=1:=by omega
 simp [acceptL,h1,h2,h3]
theorem vrel_ints {w:World} {b:Nat} {k:IntKind} {l:List Int} (hl:l≠[]) (h:∀ (j:Nat) (x:Int),l[j]? = some x->w.cell? ⟨b,j,none⟩=some (.int k x)):VRel (g0 w) w (.pointer (some ⟨b,0,none⟩)) (.pin (intsA k l)):=by
 have e:∀ j,Addr.add ⟨b,0,none⟩ j=⟨b,j,none⟩:=fun j=>by unfold Addr.add;split <;> simp_all
 refine VRel.pin_mk rfl ?_ fun j a hj=>?_
 ·show b<w.heap.size
  obtain ⟨x,r,rfl⟩:=List.exists_cons_of_ne_nil hl
  have h:=h 0 x rfl
  unfold World.cell? at h
  split at h
  ·rename_i c _ _ hc
   exact (Array.getElem?_eq_some_iff.1 hc).1
  ·cases h
 ·rw [intsA,List.getElem?_map,Option.map_eq_some_iff] at hj
  obtain ⟨x,hx,rfl⟩:=hj
  exact ⟨.int k x,by rw [e];exact h j x hx,rfl,.int k x⟩
theorem dat_ints (k:IntKind) (l:List Int):Dat (.pin (intsA k l)):=.pin _ fun c hc=>by
 obtain ⟨x,_,rfl⟩:=List.mem_map.1 hc
 exact .int k x
theorem ofBelow {P:PG} {f:Nat} {ls:List AVal} {r:AVal} (hc:Callable P.p f)
 (h:∀ (g:Ghost) (w:World) (vs:Array Value),GRel P.gl g w->VRelL g w vs ls->Calls P.p f vs w fun e w'=>∃ v,e=.returned v/\RowKit.Below w.heap.size w w' /\ ∀ g' w',VRel g' w' v r):PCalls P f ls r:=
 fun h0=>⟨hc,fun g w vs H GR V=>(h g w vs GR V).mono fun e w' ⟨v,he,hw,hv⟩=>by
  obtain ⟨S,H'⟩:=H.ext (w':=w') (fun b hb=>hw.block b hb) hw.os hw.tape hw.output hw.size
  exact ⟨v,r,h0,g,he,⟨rfl,rfl⟩,H',hv g w',S⟩⟩
end Go.Proofs.K
end
section
set_option linter.unusedSimpArgs false
set_option linter.unusedVariables false
namespace Go.Proofs.YtcfjnldjkaglbaaGreatDoor
open Go Go.Sim Go.Proofs Go.Proofs.K Go.ChangeShapes Go.WideShapes Go.ChangeAt Go.RowKit Go.Shelf Go.Lib
noncomputable def GT (m:Int):YZ:=fun b=>if b=0 then .pin [Q3 m] else if b=1 then .pin (intsA .u8 firstL) else if b=2 then .pin (intsA .u8 acceptL) else .dead
def tren:Ren:=⟨fun n=>n,fun | 5=>5 | 119=>160 | 138=>162 | 139=>163 | n=>n,fun | 3=>1 | 4=>2 | n=>n⟩
theorem utypes:U8Types Tryz.prog tren:={ t5:=Tryz.underlying5,t119:=Tryz.underlying160,t138:=Tryz.underlying162,t139:=Tryz.underlying163 }
theorem uextra:U8Extra Tryz.prog tren:={ n3:=by kernel_rfl,n4:=by kernel_rfl,y3:=by kernel_rfl,y4:=by kernel_rfl,c5:=by kernel_rfl,c119:=by kernel_rfl,c138:=by kernel_rfl }
def laidL : List (String × DataW Unit) := [("unicode/utf8.acceptRanges", Rows.laid_unicode_utf8_acceptRanges), ("unicode/utf8.first", Rows.laid_unicode_utf8_first)]
theorem acc_eq:(Rows.laid_unicode_utf8_acceptRanges:DataW Unit)=acceptData:=by kernel_rfl
theorem tabs_met {W:World} (hL:laidMetH Tryz.prog laidL W):Utf8Tabs 1 2 W:=by
 rw [MakeChecks.laidMetH_plain _ _ _ (by kernel_rfl)] at hL
 have h4 := laidMet.reads hL (n := "unicode/utf8.acceptRanges") (d := Rows.laid_unicode_utf8_acceptRanges) (by simp [laidL])
 have h3 := laidMet.reads hL (n := "unicode/utf8.first") (d := Rows.laid_unicode_utf8_first) (by simp [laidL])
 rw [acc_eq] at h4
 have e3:Rows.laid_unicode_utf8_first=firstData:=Pinned.utf8First_eq
 rw [e3] at h3
 exact utf8Tabs_of_readsT utypes uextra h3 h4
theorem firstL_get {j:Nat} {x:Int} (h:firstL[j]? = some x):j<256/\x=(firstT j:Int):=by
 have hl:firstL.length=256:=by simp [firstL]
 have hj:=(List.getElem?_eq_some_iff.1 h).1
 rw [firstL_at j (by omega)] at h
 exact ⟨by omega,(Option.some.inj h).symm⟩
theorem acceptL_get {j:Nat} {x:Int} (h:acceptL[j]? = some x):j<32/\((∃ i,j=2*i/\x=(accLo i:Int)) \/ ∃ i,j=2*i+1/\x=(accHi i:Int)):=by
 have hl:acceptL.length=32:=by simp [acceptL]
 have hj:=(List.getElem?_eq_some_iff.1 h).1
 refine ⟨by omega,?_⟩
 obtain ⟨i,rfl | rfl⟩:∃ i,j=2*i\/j=2*i+1:=⟨j / 2,by omega⟩
 ·rw [acceptL_lo i (by omega)] at h
  exact .inl ⟨i,rfl,(Option.some.inj h).symm⟩
 ·rw [acceptL_hi i (by omega)] at h
  exact .inr ⟨i,rfl,(Option.some.inj h).symm⟩
theorem GT_rel {W:World} (hsh:W.ShapedOpen Tryz.prog) (hL:laidMetH Tryz.prog laidL W):∃ m,GRel (Pg (GT m)).gl (Sim.g0 W) W:=by
 obtain ⟨m,hm⟩:=Go.Proofs.cell_of_shapedOpen_int (g:=0) (t:=3) (zero:=#[.int .i64 0]) (k:=.i64) hsh (by decide +kernel) (by kernel_rfl) rfl (by kernel_rfl) (by kernel_rfl) Tryz.underlying3
 obtain ⟨T3,T4⟩:=tabs_met hL
 refine ⟨m,fun b=>?_⟩
 show Dat (GT m b)/\VRel _ _ _ (GT m b)
 unfold GT
 split
 ·rename_i h;subst h;exact ⟨.pin _ (fun c hc=>by simp at hc;subst hc;exact .int _ _),VRel.pinInt hm⟩
 ·split
  ·rename_i h;subst h
   refine ⟨dat_ints _ _,vrel_ints (by decide +kernel) fun j x hj=>?_⟩
   obtain ⟨h1,rfl⟩:=firstL_get hj
   exact T3 j h1
  ·split
   ·rename_i h;subst h
    refine ⟨dat_ints _ _,vrel_ints (by decide +kernel) fun j x hj=>?_⟩
    obtain ⟨h1,⟨i,rfl,rfl⟩ | ⟨i,rfl,rfl⟩⟩:=acceptL_get hj
    ·exact (T4 i (by omega)).1
    ·exact (T4 i (by omega)).2
   ·exact ⟨.dead,.dead _⟩
noncomputable def lay8 (l:List Int):Obj->Obj
 | .cells _ t frozen=>.cells (l.map fun x=>Value.int .u8 x).toArray t frozen
 | o=>o
noncomputable def laidWorld (os:Os):World:=
 { World.holding Tryz.prog os ⟨#[],#[],[]⟩ with heap:=((World.holding Tryz.prog os ⟨#[],#[],[]⟩).heap.modify 1 (lay8 firstL)).modify 2 (lay8 acceptL) }
end Go.Proofs.YtcfjnldjkaglbaaGreatDoor
end
section
set_option linter.unusedSimpArgs false
set_option linter.unusedVariables false
namespace Go.Proofs.K
open Go Go.Sim Go.Proofs
variable {G:YZ}
structure HAttr where
 name:List UInt8
 value:List UInt8
deriving DecidableEq,Inhabited
def Y0 (a:HAttr):List AVal:=[.str a.name,.str a.value]
instance:LenE Y0 2:=⟨fun _=>rfl⟩
theorem eAttr_beq (x y:HAttr):(x==y)=(x.name==y.name&&x.value==y.value):=by
 cases x;cases y;rw [Bool.eq_iff_iff];simp
def c74:SFun:=⟨.seq (.reg [o 2 (.mv (.c .emp))]) (.seq (.seq (.reg [o 3 (.mv (.t 0)),o 4 (.isnil 0 false (.t 3))]) (.cond (.t 4) (.seq (.reg [o 2 (.mv (.c .emp))]) .ret) .skip)) (.seq (.reg [o 5 (.bldF 72 2 []),o 6 (.mv (.t 0)),o 7 (.app 72 2 32 (.t 5) (.t 6)),o 2 (.mv (.t 7))]) .ret)),[.tmp 2]⟩
theorem hc74:Y3 Tryz.prog {} Tryz.f74=some c74:=by kernel_rfl
theorem cloneA_own {h:Q2} (l:List HAttr) (hl:l.length<=1073741824):DCalls (Pg G) 74 [sl Y0 l] h (AccK h 72 2 (l.map Y0)):=by
 refine Q0 Tryz.func74 (by kernel_rfl) hc74 (by rw [Tryz.ntmps74];simp) (by rw [Tryz.ntmps74];decide) ?_
 simp -dsimp -implicitDefEqProofs (disch:=omega) only [VCA,↓reduceIte,reduceCtorEq,c74]
 intro b hb
 refine Br.intro (fun ht=>?_) (fun hf=>?_)
 ·simp -dsimp -implicitDefEqProofs (disch:=omega) only [VCA,↓reduceIte]
  have:l=[]:=hb (by simpa using ht)
  subst this
  exact ⟨_,Sub.refl _,Acc.nil,Sub.refl _⟩
 ·simp -dsimp -implicitDefEqProofs (disch:=omega) only [VCA,Nat.reduceEqDiff,↓reduceIte,reduceCtorEq,Z7,exists_eq_left]
  refine ⟨by omega,by omega,fun r hr=>?_⟩
  exact ⟨_,Sub.refl _,by simpa using Acc.root (cells:=l.map Y0) hr (Q5 _ _ _),(Sub.refl _).upd hr⟩
def c68:SFun:=⟨.seq (.reg [o 4 (.mv (.c (.bool false)))]) (.seq (.seq (.reg [o 6 (.mv (.t 0)),o 7 (.len (.t 6)),o 8 (.mv (.t 1)),o 9 (.len (.t 8)),o 10 (.bin .neq (.t 7) (.t 9))]) (.cond (.t 10) (.seq (.reg [o 4 (.mv (.c (.bool false)))]) .ret) .skip)) (.seq (.seq (.reg [o 5 (.mv (.c (.int .i64 0)))]) (.block 0 (.loop (.seq (.seq (.reg [o 11 (.mv (.t 5)),o 12 (.mv (.t 0)),o 13 (.len (.t 12)),o 14 (.bin .lss (.t 11) (.t 13))]) (.cond (.t 14) .skip (.exit 0))) (.seq (.block 1 (.seq (.dreg [(o 17 (.mv (.t 0)),none),(o 18 (.mv (.t 5)),none),(o 19 (.idxA 2 (.t 17) (.t 18)),none),(o 20 (.ld 2 true (.t 19)),none),(o 21 (.mv (.t 1)),none),(o 22 (.mv (.t 5)),none),(o 23 (.idxA 2 (.t 21) (.t 22)),none),(o 24 (.ld 2 true (.t 23)),none),(o 25 (.eqs true [1,1] (.t 20) (.t 24)),none)]) (.cond (.t 25) (.seq (.reg [o 4 (.mv (.c (.bool false)))]) .ret) .skip))) (.reg [o 15 (.mv (.t 5)),o 16 (.bin .add (.t 15) (.c (.int .i64 1))),o 5 (.mv (.t 16))])))))) (.seq (.reg [o 4 (.mv (.c (.bool true)))]) .ret))),[.tmp 4]⟩
theorem hc68:Y3 Tryz.prog {} Tryz.f68=some c68:=by kernel_rfl
theorem sameA_ok (a b:List HAttr) (ha:a.length<=1073741824) (hb:b.length<=1073741824):PCalls (Pg G) 68 [sl Y0 a,sl Y0 b] (.bool (a==b)):=by
 intro h
 refine Q0 Tryz.func68 (by kernel_rfl) hc68 (by rw [Tryz.ntmps68];simp) (by rw [Tryz.ntmps68];decide) ?_
 simp -dsimp -implicitDefEqProofs (disch:=omega) only [VCA,Nat.reduceEqDiff,↓reduceIte,reduceCtorEq,c68]
 refine Br.ne (fun h1=>?_) (fun h1=>?_)
 ·simp -dsimp -implicitDefEqProofs (disch:=omega) only [VCA,↓reduceIte,exists_eq_right_right]
  have:¬ a=b:=fun e=>h1 (by rw [e])
  first | exact Sub.refl _ | exact ⟨Sub.refl _,by simp [this]⟩
 ·simp -dsimp -implicitDefEqProofs (disch:=omega) only [VCA]
  have h1':a.length=b.length:=by omega
  refine LoopVC.intro (fun m e h'=>∃ k:Nat,k<=a.length/\m=a.length-k/\e 0=sl Y0 a/\e 1=sl Y0 b/\e 5=Q3 k/\h'=h /\ ∀ j,j<k->nth a j=nth b j) a.length ⟨0,by omega,by omega,rfl,rfl,rfl,rfl,fun j hj=>absurd hj (Nat.not_lt_zero j)⟩ ?_
  rintro m e h' ⟨k,hk,rfl,he0,he1,he5,rfl,hj⟩
  simp -dsimp -implicitDefEqProofs (disch:=omega) only [VCA,Nat.reduceEqDiff,↓reduceIte,reduceCtorEq,he0,he5]
  refine Br.dec (fun hlt=>?_) (fun hge=>?_)
  ·simp -dsimp -implicitDefEqProofs (disch:=omega) only [VCA,Nat.reduceEqDiff,Nat.reduceAdd,↓reduceIte,reduceCtorEq,Y8,Z0,X4,Y4,J1,Y0,he0,he1,he5]
   refine ⟨by omega,by omega,?_⟩
   refine Br.intro (fun h2=>?_) (fun h2=>?_)
   ·simp -dsimp -implicitDefEqProofs (disch:=omega) only [VCA,↓reduceIte,exists_eq_right_right]
    have:¬ a=b:=fun e=>by subst e;simp at h2
    first | exact Sub.refl _ | exact ⟨Sub.refl _,by simp [this]⟩
   ·simp -dsimp -implicitDefEqProofs (disch:=omega) only [VCA,Nat.reduceEqDiff,↓reduceIte,reduceCtorEq,he0,he1,he5]
    refine ⟨_,?_,k+1,by omega,rfl,by omega,fun j hj'=>?_⟩
    ·omega
    ·by_cases h3:j=k
     ·subst h3
      have:(nth a j==nth b j)=true:=by rw [eAttr_beq];simpa using h2
      simpa using this
     ·exact hj j (by omega)
  ·simp -dsimp -implicitDefEqProofs (disch:=omega) only [VCA,↓reduceIte,exists_eq_right_right]
   have:a=b:=ext_nth h1' (fun j hj'=>hj j (by omega))
   first | exact Sub.refl _ | exact ⟨Sub.refl _,by simp [this]⟩
def c61:SFun:=⟨.seq (.reg [o 4 (.mv (.c (.bool false)))]) (.seq (.seq (.reg [o 6 (.mv (.t 0)),o 7 (.len (.t 6)),o 8 (.mv (.t 1)),o 9 (.len (.t 8)),o 10 (.bin .neq (.t 7) (.t 9))]) (.cond (.t 10) (.seq (.reg [o 4 (.mv (.c (.bool false)))]) .ret) .skip)) (.seq (.seq (.reg [o 5 (.mv (.c (.int .i64 0)))]) (.block 0 (.loop (.seq (.seq (.reg [o 11 (.mv (.t 5)),o 12 (.mv (.t 0)),o 13 (.len (.t 12)),o 14 (.bin .lss (.t 11) (.t 13))]) (.cond (.t 14) .skip (.exit 0))) (.seq (.block 1 (.seq (.dreg [(o 17 (.mv (.t 0)),none),(o 18 (.mv (.t 5)),none),(o 19 (.idxA 1 (.t 17) (.t 18)),none),(o 20 (.ld 1 false (.t 19)),none),(o 21 (.mv (.t 1)),none),(o 22 (.mv (.t 5)),none),(o 23 (.idxA 1 (.t 21) (.t 22)),none),(o 24 (.ld 1 false (.t 23)),none),(o 25 (.bin .neq (.t 20) (.t 24)),none)]) (.cond (.t 25) (.seq (.reg [o 4 (.mv (.c (.bool false)))]) .ret) .skip))) (.reg [o 15 (.mv (.t 5)),o 16 (.bin .add (.t 15) (.c (.int .i64 1))),o 5 (.mv (.t 16))])))))) (.seq (.reg [o 4 (.mv (.c (.bool true)))]) .ret))),[.tmp 4]⟩
theorem hc61:Y3 Tryz.prog {} Tryz.f61=some c61:=by kernel_rfl
theorem sameN_ok (a b:List Int) (ha:a.length<=1073741824) (hb:b.length<=1073741824):PCalls (Pg G) 61 [sl Z6 a,sl Z6 b] (.bool (a==b)):=by
 intro h
 refine Q0 Tryz.func61 (by kernel_rfl) hc61 (by rw [Tryz.ntmps61];simp) (by rw [Tryz.ntmps61];decide) ?_
 simp -dsimp -implicitDefEqProofs (disch:=omega) only [VCA,Nat.reduceEqDiff,↓reduceIte,reduceCtorEq,c61]
 refine Br.ne (fun h1=>?_) (fun h1=>?_)
 ·simp -dsimp -implicitDefEqProofs (disch:=omega) only [VCA,↓reduceIte,exists_eq_right_right]
  have:¬ a=b:=fun e=>h1 (by rw [e])
  first | exact Sub.refl _ | exact ⟨Sub.refl _,by simp [this]⟩
 ·simp -dsimp -implicitDefEqProofs (disch:=omega) only [VCA]
  have h1':a.length=b.length:=by omega
  refine LoopVC.intro (fun m e h'=>∃ k:Nat,k<=a.length/\m=a.length-k/\e 0=sl Z6 a/\e 1=sl Z6 b/\e 5=Q3 k/\h'=h /\ ∀ j,j<k->nth a j=nth b j) a.length ⟨0,by omega,by omega,rfl,rfl,rfl,rfl,fun j hj=>absurd hj (Nat.not_lt_zero j)⟩ ?_
  rintro m e h' ⟨k,hk,rfl,he0,he1,he5,rfl,hj⟩
  simp -dsimp -implicitDefEqProofs (disch:=omega) only [VCA,Nat.reduceEqDiff,↓reduceIte,reduceCtorEq,he0,he5]
  refine Br.dec (fun hlt=>?_) (fun hge=>?_)
  ·simp -dsimp -implicitDefEqProofs (disch:=omega) only [VCA,Nat.reduceEqDiff,↓reduceIte,reduceCtorEq,Y8,Z0,J1,Z6,he0,he1,he5]
   refine ⟨by omega,by omega,Br.ne (fun h2=>?_) (fun h2=>?_)⟩
   ·simp -dsimp -implicitDefEqProofs (disch:=omega) only [VCA,↓reduceIte,exists_eq_right_right]
    have:¬ a=b:=fun e=>h2 (by rw [e])
    first | exact Sub.refl _ | exact ⟨Sub.refl _,by simp [this]⟩
   ·simp -dsimp -implicitDefEqProofs (disch:=omega) only [VCA,Nat.reduceEqDiff,↓reduceIte,reduceCtorEq,he0,he1,he5]
    refine ⟨_,?_,k+1,by omega,rfl,by omega,fun j hj'=>?_⟩
    ·omega
    ·by_cases h3:j=k
     ·subst h3;exact h2
     ·exact hj j (by omega)
  ·simp -dsimp -implicitDefEqProofs (disch:=omega) only [VCA,↓reduceIte,exists_eq_right_right]
   have:a=b:=ext_nth h1' (fun j hj'=>hj j (by omega))
   first | exact Sub.refl _ | exact ⟨Sub.refl _,by simp [this]⟩
structure HNode where
 kind:Int
 name:List UInt8
 attrs:List HAttr
 text:List UInt8
 parent:Int
 kids:List Int
deriving DecidableEq,Inhabited
def Q7 (x:HNode):List AVal:=[Q3 x.kind,.str x.name,sl Y0 x.attrs,.str x.text,Q3 x.parent,sl Z6 x.kids]
instance:LenE Q7 6:=⟨fun _=>rfl⟩
structure HDoc where
 nodes:List HNode
 quirks:Bool
deriving DecidableEq,Inhabited
def Q8 (d:HDoc):List AVal:=[sl Q7 d.nodes,.bool d.quirks]
instance:LenE Q8 2:=⟨fun _=>rfl⟩
def nd (d:HDoc) (n:Int):HNode:=nth d.nodes n.toNat
structure NodeSm (x:HNode):Prop where
 name:x.name.length<=1073741824
 attrs:x.attrs.length<=1073741824
 each:∀ a∈x.attrs,a.name.length<=1073741824/\a.value.length<=1073741824
 text:x.text.length<=1073741824
 kids:x.kids.length<=1073741824
structure DocSm (d:HDoc):Prop where
 len:d.nodes.length<=1073741824
 each:∀ x∈d.nodes,NodeSm x
theorem nodeSm_default:NodeSm default:=⟨by decide,by decide,(fun a ha=>by cases ha),by decide,by decide⟩
theorem nth_def {α:Type} [Inhabited α] {l:List α} {k:Nat} (h:¬ k<l.length):nth l k=default:=by
 unfold nth;rw [List.getD_eq_getElem?_getD,List.getElem?_eq_none (by omega)];rfl
theorem DocSm.nth {d:HDoc} (h:DocSm d) (k:Nat):NodeSm (nth d.nodes k):=by
 by_cases hk:k<d.nodes.length
 ·exact h.each _ (Y7 hk)
 ·rw [nth_def hk];exact nodeSm_default
theorem DocSm.nd {d:HDoc} (h:DocSm d) (n:Int):NodeSm (nd d n):=h.nth _
def fe:Nat->(Nat->Int)->Int
 | 0,_=>0
 | n+1,f=>if fe n f≠0 then fe n f else f n
theorem ZU {n:Nat} {f:Nat->Int} (h:∀ j,j<n->f j=0):fe n f=0:=by
 induction n with
 | zero=>rfl
 | succ n ih=>unfold fe;rw [if_neg (by rw [ih fun j hj=>h j (by omega)];simp)];exact h n (by omega)
theorem KY {n k:Nat} {f:Nat->Int} (hk:k<n) (h1:∀ j,j<k->f j=0) (h2:f k≠0):fe n f=f k:=by
 induction n with
 | zero=>omega
 | succ n ih=>
   unfold fe
   by_cases hkn:k=n
   ·subst hkn;rw [if_neg (by rw [ZU h1];simp)]
   ·have:=ih (by omega);rw [this,if_pos h2]
theorem fe_zero {n:Nat} {f:Nat->Int} (h:fe n f=0):∀ j,j<n->f j=0:=by
 induction n with
 | zero=>intro j hj;omega
 | succ n ih=>
   unfold fe at h
   split at h
   ·rename_i h1;exact absurd h h1
   ·rename_i h1
    have h1:fe n f=0:=by simpa using h1
    intro j hj
    by_cases hjn:j=n
    ·subst hjn;exact h
    ·exact ih h1 j (by omega)
theorem fe_iff {n:Nat} {f:Nat->Int}:fe n f=0 ↔ ∀ j,j<n->f j=0:=⟨fe_zero,ZU⟩
def signB (b:UInt8):Bool:=(decide (97<=b.toNat)&&decide (b.toNat<=122))||((decide (48<=b.toNat)&&decide (b.toNat<=57))||(b==45||(b==95||b==58)))
def firstB (element:Bool) (b:UInt8):Bool:=(decide (97<=b.toNat)&&decide (b.toNat<=122))||(!element&&(b==45||b==95))
def K4 (element:Bool) (s:List UInt8):Bool:=decide (1<=s.length)&&(decide (s.length<=40)&&(firstB element (s.getD 0 0)&&s.all signB))
def J9 (l:List HAttr) (name:List UInt8):Int:=U8 (fun a=>a.name==name) l
def WZ (l:List HAttr) (i:Nat):Int:=
 if K4 false (nth l i).name=false then 3 else if 400<(nth l i).value.length then 2 else if 0<=J9 (l.take i) (nth l i).name then 3 else 0
def JW (l:List HAttr):Int:=if 12<l.length then 2 else fe l.length (WZ l)
def XZ (x:HNode):Bool:=
 (decide (x.kind=2)||decide (x.kind=5)||decide (x.name=[]))&&(decide (x.kind=2)||decide (x.attrs=[]))&&(decide (x.kind=3)||decide (x.kind=4)||decide (x.text=[]))&&(decide (x.kind=1)||decide (x.kind=2)||decide (x.kids=[]))
def V8 (x:HNode):Int:=
 if x.kind<1\/5<x.kind\/XZ x=false then 7 else if x.kind=2/\K4 true x.name=false then 3
 else if JW x.attrs≠0 then JW x.attrs else if 400<x.text.length\/400<x.name.length then 2 else 0
def inD (d:HDoc) (n:Int):Prop:=0<=n/\n<d.nodes.length
instance (d:HDoc) (n:Int):Decidable (inD d n):=by unfold inD;infer_instance
def UZ (d:HDoc) (i:Nat):Int:=if ¬ ((nth d.nodes i).kind=1↔i=0) then 3 else V8 (nth d.nodes i)
def kidE (d:HDoc) (i k:Nat):Int:=
 let kid:=nth (nth d.nodes i).kids k
 if ¬ inD d kid\/(nd d kid).parent≠i\/kid∈(nth d.nodes i).kids.take k then 3 else if i=0/\(nd d kid).kind=3 then 7 else 0
def UT (d:HDoc) (i:Nat):Int:=fe (nth d.nodes i).kids.length (kidE d i)
def parE (d:HDoc) (i:Nat):Int:=
 let p:=(nth d.nodes i).parent
 if p ≠ -1/\(¬ inD d p\/(i:Int)∉(nd d p).kids) then 3 else 0
def upF:Nat->HDoc->Int->Nat
 | 0,_,_=>0
 | f+1,d,n=>if 0<=(nd d n).parent then upF f d (nd d n).parent+1 else 0
def up (d:HDoc) (n:Int):Nat:=upF (d.nodes.length+1) d n
def UU (d:HDoc) (i:Nat):Int:=if d.nodes.length<up d i then 8 else if 40<up d i then 2 else 0
def YU (d:HDoc):Int:=
 if 200<d.nodes.length then 2 else if d.nodes.length=0 then 3
 else if fe d.nodes.length (UZ d)≠0 then fe d.nodes.length (UZ d)
 else if fe d.nodes.length (UT d)≠0 then fe d.nodes.length (UT d)
 else if fe d.nodes.length (parE d)≠0 then fe d.nodes.length (parE d)
 else if (nd d 0).parent ≠ -1 then 3
 else fe d.nodes.length (UU d)
end Go.Proofs.K
end
section
set_option linter.unusedSimpArgs false
set_option linter.unusedVariables false
namespace Go.Proofs.YtcfjnldjkaglbaaGreatDoor
open Go Go.Sim Go.Proofs Go.Proofs.K Go.ChangeShapes Go.WideShapes Go.ChangeAt Go.RowKit
variable {H:Type} {enc:TypeId×Value->H} {w:World}
def goodA (k:Nat) (x:HAttr):Prop:=x.name.length<=k/\x.value.length<=k
theorem mA:Mono goodA:=fun _ _ _ h1 h2=>⟨Nat.le_trans h2.1 h1,Nat.le_trans h2.2 h1⟩
theorem rAttr:Rdr enc Tryz.prog w Rows.uptoBulk 72 Y0 goodA:=by
 have hB:=bulk H
 have r:=Rdr.struct (eh:=enc) (w:=w) hB Tryz.underlying72 (by kernel_rfl) (.cons (sz:=1) rfl (by kernel_rfl) mStr rStr (.cons (sz:=1) rfl (by kernel_rfl) mStr rStr (.nil _)))
 exact r.map (fun p=>⟨p.1,p.2.1⟩) (fun _=>rfl) (fun _ _ h=>⟨h.1,h.2.1⟩)
def goodN (k:Nat) (x:HNode):Prop:=x.name.length<=k/\(x.attrs.length<=k /\ ∀ a∈x.attrs,goodA k a)/\x.text.length<=k/\x.kids.length<=k
theorem mN:Mono goodN:=fun _ _ _ h1 h2=>⟨Nat.le_trans h2.1 h1,⟨Nat.le_trans h2.2.1.1 h1,fun a ha=>mA _ _ _ h1 (h2.2.1.2 a ha)⟩,Nat.le_trans h2.2.2.1 h1,Nat.le_trans h2.2.2.2 h1⟩
theorem rNode:Rdr enc Tryz.prog w Rows.uptoBulk 31 Q7 goodN:=by
 have hB:=bulk H
 have ra:=Rdr.slice (eh:=enc) (w:=w) hB mA (sz:=2) (enc:=Y0) Tryz.underlying28 (by kernel_rfl) (by decide) (fun _=>rfl) (rAttr (H:=H))
 have r:=Rdr.struct (eh:=enc) (w:=w) hB Tryz.underlying31 (by kernel_rfl) (.cons (sz:=1) rfl (by kernel_rfl) mInt rInt (.cons (sz:=1) rfl (by kernel_rfl) mStr rStr
  (.cons (sz:=1) rfl (by kernel_rfl) (fun _ _ _ h1 h2=>⟨Nat.le_trans h2.1 h1,fun a ha=>mA _ _ _ h1 (h2.2 a ha)⟩) ra (.cons (sz:=1) rfl (by kernel_rfl) mStr rStr (.cons (sz:=1) rfl (by kernel_rfl) mInt rInt
  (.cons (sz:=1) rfl (by kernel_rfl) (fun _ _ _ h1 h2=>⟨Nat.le_trans h2.1 h1,h2.2⟩) rInts (.nil _)))))))
 exact r.map (fun p=>⟨p.1,p.2.1,p.2.2.1,p.2.2.2.1,p.2.2.2.2.1,p.2.2.2.2.2.1⟩) (fun _=>rfl) (fun _ _ h=>⟨h.2.1,h.2.2.1,h.2.2.2.1,h.2.2.2.2.2.1.1⟩)
def goodD (k:Nat) (x:HDoc):Prop:=x.nodes.length<=k /\ ∀ n∈x.nodes,goodN k n
theorem rDoc:Rdr enc Tryz.prog w Rows.uptoBulk 24 Q8 goodD:=by
 have hB:=bulk H
 have ra:=Rdr.slice (eh:=enc) (w:=w) hB mN (sz:=6) (enc:=Q7) Tryz.underlying22 (by kernel_rfl) (by decide) (fun _=>rfl) (rNode (H:=H))
 have r:=Rdr.struct (eh:=enc) (w:=w) hB Tryz.underlying24 (by kernel_rfl) (.cons (sz:=1) rfl (by kernel_rfl) (fun _ _ _ h1 h2=>⟨Nat.le_trans h2.1 h1,fun a ha=>mN _ _ _ h1 (h2.2 a ha)⟩) ra (.cons (sz:=1) rfl (by kernel_rfl) (fun _ _ _ _ _=>trivial) rBool (.nil _)))
 exact r.map (fun p=>⟨p.1,p.2.1⟩) (fun _=>rfl) (fun _ _ h=>h.1)
theorem docSm_of {k:Nat} {d:HDoc} (hk:k<=1073741824) (g:goodD k d):DocSm d:=
 ⟨Nat.le_trans g.1 hk,fun x hx=>by
   obtain ⟨g1,⟨g2,g3⟩,g4,g5⟩:=g.2 x hx
   exact ⟨Nat.le_trans g1 hk,Nat.le_trans g2 hk,fun a ha=>⟨Nat.le_trans (g3 a ha).1 hk,Nat.le_trans (g3 a ha).2 hk⟩,Nat.le_trans g4 hk,Nat.le_trans g5 hk⟩⟩
end Go.Proofs.YtcfjnldjkaglbaaGreatDoor
end
section
set_option linter.unusedSimpArgs false
set_option linter.unusedVariables false
namespace Go.Proofs.K
open Go Go.Sim Go.Proofs
variable {G:YZ}
def c47:SFun:=⟨.seq (.reg [o 2 (.mv (.c .emp))]) (.seq (.seq (.reg [o 3 (.mv (.t 0)),o 4 (.isnil 0 false (.t 3))]) (.cond (.t 4) (.seq (.reg [o 2 (.mv (.c .emp))]) .ret) .skip)) (.seq (.reg [o 5 (.bldF 3 1 []),o 6 (.mv (.t 0)),o 7 (.app 3 1 8 (.t 5) (.t 6)),o 2 (.mv (.t 7))]) .ret)),[.tmp 2]⟩
theorem hc47:Y3 Tryz.prog {} Tryz.f47=some c47:=by kernel_rfl
theorem cloneZ_own {h:Q2} (l:List Int) (hl:l.length<=1073741824):DCalls (Pg G) 47 [sl Z6 l] h (AccK h 3 1 (l.map Z6)):=by
 refine Q0 Tryz.func47 (by kernel_rfl) hc47 (by rw [Tryz.ntmps47];simp) (by rw [Tryz.ntmps47];decide) ?_
 simp -dsimp -implicitDefEqProofs (disch:=omega) only [VCA,↓reduceIte,reduceCtorEq,c47]
 intro b hb
 refine Br.intro (fun ht=>?_) (fun hf=>?_)
 ·simp -dsimp -implicitDefEqProofs (disch:=omega) only [VCA,↓reduceIte]
  have:l=[]:=hb (by simpa using ht)
  subst this
  exact ⟨_,Sub.refl _,Acc.nil,Sub.refl _⟩
 ·simp -dsimp -implicitDefEqProofs (disch:=omega) only [VCA,Nat.reduceEqDiff,↓reduceIte,reduceCtorEq,Z7,exists_eq_left]
  refine ⟨by omega,by omega,fun r hr=>?_⟩
  exact ⟨_,Sub.refl _,by simpa using Acc.root (cells:=l.map Z6) hr (Q5 _ _ _),(Sub.refl _).upd hr⟩
theorem cloneZ_ok (l:List Int) (hl:l.length<=1073741824):PCalls (Pg G) 47 [sl Z6 l] (sl Z6 l):=PCalls.acc fun h=>cloneZ_own l hl
theorem nd_nat (d:HDoc) (i:Nat):nd d (i:Int)=nth d.nodes i:=by simp [nd]
theorem inD_nat {d:HDoc} {i:Nat}:inD d (i:Int)↔i<d.nodes.length:=by unfold inD;omega
theorem inD.nat {d:HDoc} {n:Int} (h:inD d n):n.toNat<d.nodes.length/\(n.toNat:Int)=n:=by unfold inD at h;omega
theorem nodup_of_take {α:Type} [Inhabited α] {l:List α} (h:∀ k,k<l.length->nth l k∉l.take k):l.Nodup:=by
 rw [List.Nodup,List.pairwise_iff_getElem]
 intro i j hi hj hij heq
 have hn:∀ j (hj:j<l.length),l[j]=nth l j:=fun j hj=>by have:=J5 hj;rw [List.getElem?_eq_getElem hj] at this;exact Option.some.inj this
 refine h j hj ?_
 rw [<-hn j hj,<-heq,List.mem_take_iff_getElem]
 exact ⟨i,by omega,rfl⟩
theorem take_of_nodup {α:Type} [Inhabited α] {l:List α} (h:l.Nodup) {k:Nat} (hk:k<l.length):nth l k∉l.take k:=by
 intro hm
 have hn:∀ j (hj:j<l.length),l[j]=nth l j:=fun j hj=>by have:=J5 hj;rw [List.getElem?_eq_getElem hj] at this;exact Option.some.inj this
 rw [List.mem_take_iff_getElem] at hm
 obtain ⟨i,hi,he⟩:=hm
 rw [List.Nodup,List.pairwise_iff_getElem] at h
 rw [<-hn k hk] at he
 exact h i k (by omega) hk (by omega) he
theorem upF_mono {d:HDoc}:∀ {f:Nat} {n:Int} {g:Nat},upF f d n<f->f<=g->upF g d n=upF f d n
 | 0,n,g,h,_=>by omega
 | f+1,n,0,_,h=>by omega
 | f+1,n,g+1,h,hg=>by
   unfold upF at h ⊢
   split
   ·rename_i hp
    rw [if_pos hp] at h
    rw [upF_mono (f:=f) (by omega) (by omega)]
   ·rfl
structure DV (d:HDoc):Prop where
 pos:0<d.nodes.length
 len:d.nodes.length<=200
 kind:∀ n,inD d n->((nd d n).kind=1↔n=0)
 node:∀ n,inD d n->V8 (nd d n)=0
 kid:∀ n,inD d n -> ∀ k∈(nd d n).kids,inD d k/\(nd d k).parent=n
 nodup:∀ n,inD d n->(nd d n).kids.Nodup
 top:∀ k∈(nd d 0).kids,(nd d k).kind≠3
 par:∀ n,inD d n->(nd d n).parent = -1\/(inD d (nd d n).parent/\n∈(nd d (nd d n).parent).kids)
 root:(nd d 0).parent = -1
 fin:∀ n,inD d n->up d n<=d.nodes.length
 deep:∀ n,inD d n->up d n<=40
theorem WY (d:HDoc):YU d=0↔DV d:=by
 have all:∀ {p:Int->Prop},(∀ n,inD d n->p n) ↔ ∀ i:Nat,i<d.nodes.length->p i:=fun {p}=>
  ⟨fun h i hi=>h i (inD_nat.2 hi),fun h n hn=>by have:=h n.toNat hn.nat.1;rwa [hn.nat.2] at this⟩
 have h1:fe d.nodes.length (UZ d)=0 ↔ ∀ n,inD d n->((nd d n).kind=1↔n=0)/\V8 (nd d n)=0:=by
  rw [fe_iff,all]
  refine forall_congr' fun i=>imp_congr_right fun hi=>?_
  unfold UZ
  rw [nd_nat]
  by_cases hc:(nth d.nodes i).kind=1↔i=0
  ·rw [if_neg (by simpa using hc)]
   exact ⟨fun h=>⟨hc.trans (by omega),h⟩,fun h=>h.2⟩
  ·rw [if_pos hc]
   exact ⟨fun h=>by omega,fun h=>absurd (h.1.trans (by omega)) hc⟩
 have h2:fe d.nodes.length (UT d)=0↔(∀ n,inD d n->(∀ k∈(nd d n).kids,inD d k/\(nd d k).parent=n)/\(nd d n).kids.Nodup)/\(0<d.nodes.length -> ∀ k∈(nd d 0).kids,(nd d k).kind≠3):=by
  rw [fe_iff,all]
  constructor
  ·intro h
   refine ⟨fun i hi=>?_,fun h0 k hk=>?_⟩
   ·have hi':=fe_zero (h i hi)
    rw [nd_nat]
    refine ⟨fun k hk=>?_,nodup_of_take fun k hk=>?_⟩
    ·obtain ⟨j,hj,rfl⟩:=QY hk
     have:=hi' j hj
     unfold kidE at this
     simp only at this
     split at this
     ·omega
     ·rename_i hn
      simp only [not_or,Classical.not_not] at hn
      exact ⟨hn.1,hn.2.1⟩
    ·have:=hi' k hk
     unfold kidE at this
     simp only at this
     split at this
     ·omega
     ·rename_i hn
      simp only [not_or] at hn
      exact hn.2.2
   ·have hi':=fe_zero (h 0 h0)
    have e0:nd d 0=nth d.nodes 0:=nd_nat d 0
    rw [e0] at hk
    obtain ⟨j,hj,rfl⟩:=QY hk
    have:=hi' j hj
    unfold kidE at this
    simp only at this
    split at this
    ·omega
    ·split at this
     ·omega
     ·rename_i hn
      intro hh
      exact hn (by simpa using hh)
  ·intro ⟨h,ht⟩ i hi
   refine ZU fun k hk=>?_
   have hi':=h i hi
   rw [nd_nat] at hi'
   have hm:=Y7 hk
   unfold kidE
   simp only
   rw [if_neg,if_neg]
   ·rintro ⟨rfl,hh⟩
    exact ht (by omega) _ (by rw [show nd d 0=nth d.nodes 0 from nd_nat d 0];exact hm) hh
   ·simp only [not_or,Classical.not_not]
    exact ⟨(hi'.1 _ hm).1,(hi'.1 _ hm).2,take_of_nodup hi'.2 hk⟩
 have h3:fe d.nodes.length (parE d)=0 ↔ ∀ n,inD d n->(nd d n).parent = -1\/(inD d (nd d n).parent/\n∈(nd d (nd d n).parent).kids):=by
  rw [fe_iff,all]
  refine forall_congr' fun i=>imp_congr_right fun hi=>?_
  unfold parE
  simp only
  rw [nd_nat]
  by_cases hp:(nth d.nodes i).parent = -1
  ·rw [if_neg (by simp [hp])];simp [hp]
  ·by_cases hq:inD d (nth d.nodes i).parent/\(i:Int)∈(nd d (nth d.nodes i).parent).kids
   ·rw [if_neg (by rintro ⟨_,hh⟩;exact hh.elim (fun h=>h hq.1) (fun h=>h hq.2))]
    exact ⟨fun _=>.inr hq,fun _=>rfl⟩
   ·rw [if_pos ⟨hp,by rw [<-Classical.not_and_iff_not_or_not];exact hq⟩]
    exact ⟨fun h=>by omega,fun h=>absurd (h.resolve_left hp) hq⟩
 have h4:fe d.nodes.length (UU d)=0 ↔ ∀ n,inD d n->up d n<=d.nodes.length/\up d n<=40:=by
  rw [fe_iff,all]
  refine forall_congr' fun i=>imp_congr_right fun hi=>?_
  unfold UU
  split
  ·omega
  ·split <;> omega
 constructor
 ·intro h
  unfold YU at h
  split at h
  ·omega
  ·split at h
   ·omega
   ·split at h
    ·contradiction
    ·split at h
     ·contradiction
     ·split at h
      ·contradiction
      ·split at h
       ·omega
       ·rename_i g1 g2 g3 g4 g5 g6
        simp only [ne_eq,Classical.not_not] at g3 g4 g5 g6
        have k1:=h1.1 g3
        have k2:=h2.1 g4
        have k3:=h3.1 g5
        have k4:=h4.1 h
        exact ⟨by omega,by omega,fun n hn=>(k1 n hn).1,fun n hn=>(k1 n hn).2,fun n hn=>(k2.1 n hn).1,fun n hn=>(k2.1 n hn).2,k2.2 (by omega),k3,g6,fun n hn=>(k4 n hn).1,fun n hn=>(k4 n hn).2⟩
 ·intro V
  have hl:=V.len
  have hp:=V.pos
  unfold YU
  rw [if_neg (by omega),if_neg (by omega),if_neg,if_neg,if_neg,if_neg (by simp [V.root])]
  ·exact h4.2 fun n hn=>⟨V.fin n hn,V.deep n hn⟩
  ·simp only [ne_eq,Classical.not_not];exact h3.2 V.par
  ·simp only [ne_eq,Classical.not_not];exact h2.2 ⟨fun n hn=>⟨V.kid n hn,V.nodup n hn⟩,fun _=>V.top⟩
  ·simp only [ne_eq,Classical.not_not];exact h1.2 fun n hn=>⟨V.kind n hn,V.node n hn⟩
section
variable {d:HDoc}
theorem DV.zero (V:DV d):inD d 0:=by have:=V.pos;unfold inD;omega
theorem DV.par_in (V:DV d) {n:Int} (hn:inD d n) (hp:0<=(nd d n).parent):inD d (nd d n).parent/\n∈(nd d (nd d n).parent).kids:=by
 rcases V.par n hn with h | h
 ·omega
 ·exact h
theorem DV.par_neg (V:DV d) {n:Int} (hn:inD d n) (hp:¬ 0<=(nd d n).parent):(nd d n).parent = -1:=by
 rcases V.par n hn with h | h
 ·exact h
 ·exact absurd h.1.1 hp
theorem DV.up_par (V:DV d) {n:Int} (hn:inD d n) (hp:0<=(nd d n).parent):up d n=up d (nd d n).parent+1:=by
 have h1:up d n=upF d.nodes.length d (nd d n).parent+1:=by
  unfold up;conv=>lhs;unfold upF
  rw [if_pos hp]
 have h2:=V.fin n hn
 have h3:up d (nd d n).parent=upF d.nodes.length d (nd d n).parent:=upF_mono (f:=d.nodes.length) (by omega) (by omega)
 rw [h1,h3]
theorem DV.up_top (V:DV d) {n:Int} (hp:¬ 0<=(nd d n).parent):up d n=0:=by unfold up upF;rw [if_neg hp]
theorem DV.up_kid (V:DV d) {n k:Int} (hn:inD d n) (hk:k∈(nd d n).kids):up d k=up d n+1:=by
 obtain ⟨h1,h2⟩:=V.kid n hn k hk
 have:=V.up_par h1 (by rw [h2];exact hn.1)
 rwa [h2] at this
theorem DV.up_lt (V:DV d) {n k:Int} (hn:inD d n) (hk:k∈(nd d n).kids):up d n<40:=by
 have:=V.up_kid hn hk
 have:=V.deep k (V.kid n hn k hk).1
 omega
theorem DV.down (V:DV d) {p:Int->Prop} (h:∀ n,inD d n->(∀ k∈(nd d n).kids,p k)->p n):∀ n,inD d n->p n:=by
 have:∀ m n,inD d n->40<=m+up d n->p n:=by
  intro m
  induction m with
  | zero=>intro n hn hm;exact h n hn fun k hk=>by have:=V.up_lt hn hk;omega
  | succ m ih=>intro n hn hm;exact h n hn fun k hk=>ih k (V.kid n hn k hk).1 (by have:=V.up_kid hn hk;omega)
 exact fun n hn=>this 40 n hn (by omega)
theorem DV.rise (V:DV d) {p:Int->Prop} (h:∀ n,inD d n->(0<=(nd d n).parent->p (nd d n).parent)->p n):∀ n,inD d n->p n:=by
 have:∀ m n,inD d n->up d n<=m->p n:=by
  intro m
  induction m with
  | zero=>intro n hn hm;exact h n hn fun hp=>by have:=V.up_par hn hp;omega
  | succ m ih=>intro n hn hm;exact h n hn fun hp=>ih _ (V.par_in hn hp).1 (by have:=V.up_par hn hp;omega)
 exact fun n hn=>this _ n hn (Nat.le_refl _)
def belF:Nat->HDoc->Int->List Int
 | 0,_,n=>[n]
 | f+1,d,n=>n :: (nd d n).kids.flatMap (belF f d)
def Z5 (d:HDoc) (n:Int):List Int:=belF 40 d n
theorem XY {α β:Type} {l:List α} {f g:α->List β} (h:∀ x∈l,f x=g x):l.flatMap f=l.flatMap g:=by
 induction l with
 | nil=>rfl
 | cons x r ih=>rw [List.flatMap_cons,List.flatMap_cons,h x List.mem_cons_self,ih fun y hy=>h y (List.mem_cons_of_mem _ hy)]
theorem belF_eq (V:DV d):∀ (f g:Nat) (n:Int),inD d n->40<=f+up d n->40<=g+up d n->belF f d n=belF g d n
 | 0,0,_,_,_,_=>rfl
 | 0,g+1,n,hn,hf,_=>by
   have:(nd d n).kids=[]:=List.eq_nil_iff_forall_not_mem.2 fun k hk=>by have:=V.up_lt hn hk;omega
   simp [belF,this]
 | f+1,0,n,hn,_,hg=>by
   have:(nd d n).kids=[]:=List.eq_nil_iff_forall_not_mem.2 fun k hk=>by have:=V.up_lt hn hk;omega
   simp [belF,this]
 | f+1,g+1,n,hn,hf,hg=>by
   unfold belF
   rw [XY fun k hk=>belF_eq V f g k (V.kid n hn k hk).1 (by have:=V.up_kid hn hk;omega) (by have:=V.up_kid hn hk;omega)]
theorem W7 (V:DV d) {n:Int} (hn:inD d n):Z5 d n=n :: (nd d n).kids.flatMap (Z5 d):=by
 have:Z5 d n=n :: (nd d n).kids.flatMap (belF 39 d):=rfl
 rw [this,XY fun k hk=>belF_eq V 39 40 k (V.kid n hn k hk).1 (by have:=V.up_kid hn hk;omega) (by omega)]
 rfl
theorem X5 (V:DV d):∀ n,inD d n -> ∀ m∈Z5 d n,inD d m:=V.down fun n hn ih m hm=>by
 rw [W7 V hn] at hm
 rcases List.mem_cons.1 hm with rfl | hm
 ·exact hn
 ·obtain ⟨k,hk,hm⟩:=List.mem_flatMap.1 hm
  exact ih k hk m hm
theorem XJ (V:DV d) {n:Int} (hn:inD d n):n∈Z5 d n:=by rw [W7 V hn];exact List.mem_cons_self
def chF:Nat->HDoc->Int->List Int
 | 0,_,n=>[n]
 | f+1,d,n=>if 0<=(nd d n).parent then n :: chF f d (nd d n).parent else [n]
def X7 (d:HDoc) (n:Int):List Int:=chF 40 d n
theorem chF_eq (V:DV d):∀ (f g:Nat) (n:Int),inD d n->up d n<=f->up d n<=g->chF f d n=chF g d n
 | 0,0,_,_,_,_=>rfl
 | 0,g+1,n,hn,hf,_=>by
   have:¬ 0<=(nd d n).parent:=fun hp=>by have:=V.up_par hn hp;omega
   simp [chF,this]
 | f+1,0,n,hn,_,hg=>by
   have:¬ 0<=(nd d n).parent:=fun hp=>by have:=V.up_par hn hp;omega
   simp [chF,this]
 | f+1,g+1,n,hn,hf,hg=>by
   unfold chF
   split
   ·rename_i hp
    rw [chF_eq V f g _ (V.par_in hn hp).1 (by have:=V.up_par hn hp;omega) (by have:=V.up_par hn hp;omega)]
   ·rfl
theorem W8 (V:DV d) {n:Int} (hn:inD d n) (hp:0<=(nd d n).parent):X7 d n=n :: X7 d (nd d n).parent:=by
 have:X7 d n=n :: chF 39 d (nd d n).parent:=by
  have e:∀ f,chF (f+1) d n=n :: chF f d (nd d n).parent:=fun f=>by rw [chF,if_pos hp]
  exact e 39
 rw [this,chF_eq V 39 40 _ (V.par_in hn hp).1 (by have:=V.up_par hn hp;have:=V.deep n hn;omega) (V.deep _ (V.par_in hn hp).1)]
 rfl
theorem T9 (V:DV d) {n:Int} (hp:¬ 0<=(nd d n).parent):X7 d n=[n]:=by
 have e:∀ f,chF (f+1) d n=[n]:=fun f=>by rw [chF,if_neg hp]
 exact e 39
theorem U1 (d:HDoc) (n:Int):n∈X7 d n:=by show n∈chF 40 d n;unfold chF;split <;> simp
theorem chain_in (V:DV d):∀ n,inD d n -> ∀ m∈X7 d n,inD d m:=V.rise fun n hn ih m hm=>by
 by_cases hp:0<=(nd d n).parent
 ·rw [W8 V hn hp] at hm
  rcases List.mem_cons.1 hm with rfl | hm
  ·exact hn
  ·exact ih hp m hm
 ·rw [T9 V hp] at hm;simp at hm;subst hm;exact hn
theorem chain_len (V:DV d):∀ n,inD d n->(X7 d n).length=up d n+1:=V.rise fun n hn ih=>by
 by_cases hp:0<=(nd d n).parent
 ·rw [W8 V hn hp,List.length_cons,ih hp,V.up_par hn hp]
 ·rw [T9 V hp,V.up_top hp];rfl
theorem chain_le (V:DV d):∀ n,inD d n -> ∀ m∈X7 d n,up d m<=up d n/\(up d m=up d n->m=n):=V.rise fun n hn ih m hm=>by
 by_cases hp:0<=(nd d n).parent
 ·rw [W8 V hn hp] at hm
  rcases List.mem_cons.1 hm with rfl | hm
  ·exact ⟨Nat.le_refl _,fun _=>rfl⟩
  ·have:=ih hp m hm
   have:=V.up_par hn hp
   exact ⟨by omega,fun h=>by omega⟩
 ·rw [T9 V hp] at hm;simp at hm;subst hm;exact ⟨Nat.le_refl _,fun _=>rfl⟩
theorem chain_one (V:DV d):∀ n,inD d n -> ∀ a∈X7 d n,∀ b∈X7 d n,up d a=up d b->a=b:=V.rise fun n hn ih a ha b hb hab=>by
 by_cases hp:0<=(nd d n).parent
 ·have hu:=V.up_par hn hp
  rw [W8 V hn hp] at ha hb
  have hle:=fun m hm=>(chain_le V _ (V.par_in hn hp).1 m hm).1
  rcases List.mem_cons.1 ha with rfl | ha <;> rcases List.mem_cons.1 hb with rfl | hb
  ·rfl
  ·have:=hle b hb;omega
  ·have:=hle a ha;omega
  ·exact ih hp a ha b hb hab
 ·rw [T9 V hp] at ha hb;simp at ha hb;rw [ha,hb]
theorem chain_trans (V:DV d):∀ n,inD d n -> ∀ m∈X7 d n,∀ t∈X7 d m,t∈X7 d n:=V.rise fun n hn ih m hm t ht=>by
 by_cases hp:0<=(nd d n).parent
 ·rw [W8 V hn hp] at hm ⊢
  rcases List.mem_cons.1 hm with rfl | hm
  ·rw [<-W8 V hn hp];exact ht
  ·exact List.mem_cons_of_mem _ (ih hp m hm t ht)
 ·rw [T9 V hp] at hm;simp at hm;subst hm;exact ht
theorem QX (V:DV d) {m n:Int} (hm:inD d m) (hn:inD d n):m∈Z5 d n↔n∈X7 d m:=by
 constructor
 ·revert m hm
  refine V.down (p:=fun n=>∀ {m},inD d m->m∈Z5 d n->n∈X7 d m) (fun n hn ih m hm h=>?_) n hn
  rw [W7 V hn] at h
  rcases List.mem_cons.1 h with rfl | h
  ·exact U1 _ _
  ·obtain ⟨k,hk,h⟩:=List.mem_flatMap.1 h
   have h1:=ih k hk hm h
   have h2:=V.kid n hn k hk
   refine chain_trans V m hm k h1 n ?_
   rw [W8 V h2.1 (by rw [h2.2];exact hn.1),h2.2]
   exact List.mem_cons_of_mem _ (U1 _ _)
 ·revert n hn
  refine V.rise (p:=fun m=>∀ {n},inD d n->n∈X7 d m->m∈Z5 d n) (fun m hm ih n hn h=>?_) m hm
  by_cases hp:0<=(nd d m).parent
  ·rw [W8 V hm hp] at h
   rcases List.mem_cons.1 h with rfl | h
   ·exact XJ V hm
   ·have h1:=ih hp hn h
    obtain ⟨h2,h3⟩:=V.par_in hm hp
    generalize (nd d m).parent=q at *
    clear ih hp
    revert h1
    refine V.down (p:=fun n=>q∈Z5 d n->m∈Z5 d n) (fun n hn ih h1=>?_) n hn
    rw [W7 V hn] at h1 ⊢
    rcases List.mem_cons.1 h1 with rfl | h1
    ·exact List.mem_cons_of_mem _ (List.mem_flatMap.2 ⟨m,h3,XJ V hm⟩)
    ·obtain ⟨k,hk,h1⟩:=List.mem_flatMap.1 h1
     exact List.mem_cons_of_mem _ (List.mem_flatMap.2 ⟨k,hk,ih k hk h1⟩)
  ·rw [T9 V hp] at h;simp at h;subst h;exact XJ V hm
theorem QW (V:DV d):∀ n,inD d n->(Z5 d n).Nodup:=V.down fun n hn ih=>by
 rw [W7 V hn,List.nodup_cons]
 constructor
 ·intro hm
  obtain ⟨k,hk,hm⟩:=List.mem_flatMap.1 hm
  have h1:=(QX V hn (V.kid n hn k hk).1).1 hm
  have:=(chain_le V n hn k h1).1
  have:=V.up_kid hn hk
  omega
 ·rw [List.nodup_iff_pairwise_ne,List.pairwise_flatMap]
  refine ⟨fun k hk=>List.nodup_iff_pairwise_ne.1 (ih k hk),?_⟩
  have:=V.nodup n hn
  rw [List.nodup_iff_pairwise_ne] at this
  refine this.imp_of_mem fun {a b} ha hb hab x hx y hy hxy=>?_
  subst hxy
  have ia:=(V.kid n hn a ha).1
  have ib:=(V.kid n hn b hb).1
  have ix:=X5 V a ia x hx
  exact hab (chain_one V x ix a ((QX V ix ia).1 hx) b ((QX V ix ib).1 hy) (by rw [V.up_kid hn ha,V.up_kid hn hb]))
theorem nodup_filter {α:Type} [DecidableEq α] (a:α):∀ (l:List α),l.Nodup->l.length<=(l.filter (· ≠ a)).length+1
 | [],_=>by simp
 | x :: r,h=>by
   rw [List.nodup_cons] at h
   by_cases hx:x=a
   ·subst hx
    have:r.filter (· ≠ x)=r:=List.filter_eq_self.2 fun y hy=>by simp;rintro rfl;exact h.1 hy
    rw [List.filter_cons_of_neg (by simp),this,List.length_cons]
    omega
   ·have:=nodup_filter a r h.2
    rw [List.filter_cons_of_pos (by simpa using hx),List.length_cons,List.length_cons]
    omega
theorem YK:∀ (N:Nat) (l:List Int),l.Nodup->(∀ x∈l,0<=x/\x<N)->l.length<=N
 | 0,l,_,h=>by
   cases l with
   | nil=>simp
   | cons x r=>have:=h x List.mem_cons_self;omega
 | N+1,l,hn,h=>by
   have h1:=nodup_filter (N:Int) l hn
   have h2:=YK N (l.filter (· ≠ (N:Int))) (hn.sublist List.filter_sublist) fun x hx=>by
    rw [List.mem_filter] at hx
    have:=h x hx.1
    have h3:x≠(N:Int):=by simpa using hx.2
    omega
   omega
theorem XV (V:DV d) {n:Int} (hn:inD d n):(Z5 d n).length<=d.nodes.length:=YK _ _ (QW V n hn) (X5 V n hn)
end
end Go.Proofs.K
end
section
namespace Go.Proofs
open Go.Shelf
def Tryz.lays160_ren:Go.Shelf.Ren:=⟨fun | 160=>122 | 232=>125 | 231=>124 | 227=>126 | 234=>128 | 233=>127 | 236=>130 | 235=>129 | 228=>131 | 271=>133 | 151=>66 | 197=>132 | 120=>135 | 152=>87 | 260=>134 | 137=>103 | 119=>104 | 224=>105 | 225=>106 | 217=>121 | 266=>123 | n=>n,fun | 9=>9 | 4=>4 | 3=>3 | 5=>5 | 117=>154 | 116=>153 | 0=>0 | 124=>157 | 21=>21 | 105=>158 | 46=>124 | 119=>160 | 139=>163 | 138=>162 | n=>n,fun | 3=>1 | 4=>2 | n=>n⟩
theorem Tryz.lays160:Go.Proofs.Lays.n160 Tryz.prog Tryz.lays160_ren:={
 mixed:=by kernel_rfl
 f119:=Tryz.func104.trans (congrArg some (by kernel_rfl))
 f120:=Tryz.func135.trans (congrArg some (by kernel_rfl))
 f137:=Tryz.func103.trans (congrArg some (by kernel_rfl))
 f151:=Tryz.func66.trans (congrArg some (by kernel_rfl))
 f152:=Tryz.func87.trans (congrArg some (by kernel_rfl))
 f160:=Tryz.func122.trans (congrArg some (by kernel_rfl))
 f197:=Tryz.func132.trans (congrArg some (by kernel_rfl))
 f217:=Tryz.func121.trans (congrArg some (by kernel_rfl))
 f224:=Tryz.func105.trans (congrArg some (by kernel_rfl))
 f225:=Tryz.func106.trans (congrArg some (by kernel_rfl))
 f227:=Tryz.func126.trans (congrArg some (by kernel_rfl))
 f228:=Tryz.func131.trans (congrArg some (by kernel_rfl))
 f231:=Tryz.func124.trans (congrArg some (by kernel_rfl))
 f232:=Tryz.func125.trans (congrArg some (by kernel_rfl))
 f233:=Tryz.func127.trans (congrArg some (by kernel_rfl))
 f234:=Tryz.func128.trans (congrArg some (by kernel_rfl))
 f235:=Tryz.func129.trans (congrArg some (by kernel_rfl))
 f236:=Tryz.func130.trans (congrArg some (by kernel_rfl))
 f260:=Tryz.func134.trans (congrArg some (by kernel_rfl))
 f266:=Tryz.func123.trans (congrArg some (by kernel_rfl))
 f271:=Tryz.func133.trans (congrArg some (by kernel_rfl))
 t0:=Tryz.underlying0
 a0:=Tryz.isAgg0
 z0:=Tryz.sizeOf0
 v0:=Tryz.zeroValue0
 t3:=Tryz.underlying3
 a3:=Tryz.isAgg3
 z3:=Tryz.sizeOf3
 v3:=Tryz.zeroValue3
 t4:=Tryz.underlying4
 a4:=Tryz.isAgg4
 z4:=Tryz.sizeOf4
 v4:=Tryz.zeroValue4
 t5:=Tryz.underlying5
 a5:=Tryz.isAgg5
 z5:=Tryz.sizeOf5
 v5:=Tryz.zeroValue5
 t9:=Tryz.underlying9
 a9:=Tryz.isAgg9
 z9:=Tryz.sizeOf9
 v9:=Tryz.zeroValue9
 t21:=Tryz.underlying21
 a21:=Tryz.isAgg21
 z21:=Tryz.sizeOf21
 v21:=Tryz.zeroValue21
 t46:=Tryz.underlying124
 a46:=Tryz.isAgg124
 z46:=Tryz.sizeOf124
 v46:=Tryz.zeroValue124
 t105:=Tryz.underlying158
 a105:=Tryz.isAgg158
 z105:=Tryz.sizeOf158
 v105:=Tryz.zeroValue158
 t116:=Tryz.underlying153
 a116:=Tryz.isAgg153
 z116:=Tryz.sizeOf153
 t117:=Tryz.underlying154
 a117:=Tryz.isAgg154
 z117:=Tryz.sizeOf154
 v117:=Tryz.zeroValue154
 t119:=Tryz.underlying160
 a119:=Tryz.isAgg160
 z119:=Tryz.sizeOf160
 t124:=Tryz.underlying157
 a124:=Tryz.isAgg157
 z124:=Tryz.sizeOf157
 v124:=Tryz.zeroValue157
 t138:=Tryz.underlying162
 a138:=Tryz.isAgg162
 z138:=Tryz.sizeOf162
 v138:=Tryz.zeroValue162
 t139:=Tryz.underlying163
 a139:=Tryz.isAgg163
 z139:=Tryz.sizeOf163
 v139:=Tryz.zeroValue163
 g3:=by kernel_rfl
 g4:=by kernel_rfl }
def Tryz.lays137_ren:Go.Shelf.Ren:=⟨fun | 137=>103 | 217=>121 | 266=>123 | n=>n,fun | 9=>9 | 5=>5 | 3=>3 | n=>n,fun | n=>n⟩
theorem Tryz.lays137:Go.Proofs.Lays.n137 Tryz.prog Tryz.lays137_ren:={
 mixed:=by kernel_rfl
 f137:=Tryz.func103.trans (congrArg some (by kernel_rfl))
 f217:=Tryz.func121.trans (congrArg some (by kernel_rfl))
 f266:=Tryz.func123.trans (congrArg some (by kernel_rfl))
 t3:=Tryz.underlying3
 a3:=Tryz.isAgg3
 z3:=Tryz.sizeOf3
 v3:=Tryz.zeroValue3
 t5:=Tryz.underlying5
 a5:=Tryz.isAgg5
 z5:=Tryz.sizeOf5
 v5:=Tryz.zeroValue5
 t9:=Tryz.underlying9
 a9:=Tryz.isAgg9
 z9:=Tryz.sizeOf9
 v9:=Tryz.zeroValue9 }
open Go.RowKit in
theorem Tryz.strings_IndexByte (s:ByteArray) (c:Int) (w:World) :
 Calls Tryz.prog 103 #[.string s,.int .u8 c] w fun e w'=>e=.returned (.int .i64 (Lib.indexByte s.data.toList c.toNat.toUInt8))/\w'=w:=Any.strings_IndexByte Tryz.lays137 s c w
end Go.Proofs
end
section
set_option linter.unusedSimpArgs false
set_option linter.unusedVariables false
namespace Go.Proofs.K
open Go Go.Sim Go.Proofs
variable {G:YZ}
theorem indexByte_ok (s:List UInt8) (c:UInt8):PCalls (Pg G) 103 [.str s,.int .u8 c.toNat] (Q3 (Lib.indexByte s c)):=by
 refine PCalls.ofRun ⟨_,Tryz.func103,by kernel_rfl,by kernel_rfl⟩ fun g w vs GR V=>?_
 obtain ⟨u,v,rfl,hu,hv⟩:=V.two_inv
 rw [hu.str_inv',hv.int_inv]
 have:=Tryz.strings_IndexByte ⟨⟨s⟩⟩ (c.toNat:Int) w
 refine this.mono fun e w' ⟨he,hw⟩=>⟨_,he,hw,?_⟩
 have e:((c.toNat:Int)).toNat.toUInt8=c:=by simp
 rw [e]
 exact .int _ _
def signsL:List UInt8:=[97,98,99,100,101,102,103,104,105,106,107,108,109,110,111,112,113,114,115,116,117,118,119,120,121,122,48,49,50,51,52,53,54,55,56,57,45,95,58]
theorem trim_ok (s cs:List UInt8) (hs:s.length<=1073741824) (hc:cs.length<=1000) (ha:cs.all (fun b=>decide (b.toNat<128))=true):PCalls (Pg G) 122 [.str s,.str cs] (.str (Lib.trimS s cs)):=by
 refine ofBelow ⟨_,Tryz.func122,by kernel_rfl,by kernel_rfl⟩ fun g w vs GR V=>?_
 obtain ⟨u,v,rfl,hu,hv⟩:=V.two_inv
 rw [hu.str_inv',hv.str_inv']
 exact (Any.strings_Trim_laid Tryz.lays160 (by kernel_rfl) ⟨⟨s⟩⟩ ⟨⟨cs⟩⟩ w (by show s.length<=_;omega) (by show cs.length<_;omega) (ascii_of_all ha)).mono fun e w' ⟨he,hw⟩=>⟨_,he,hw,fun g w=>VRel.str_mk g w _⟩
theorem dropWhile_all {α:Type} (p:α->Bool) (l:List α):l.dropWhile p=[]↔l.all p=true:=by
 induction l with
 | nil=>simp
 | cons x r ih=>
   rw [List.dropWhile_cons]
   split
   ·rename_i h;rw [ih];simp [h]
   ·rename_i h;simp [h]
theorem trim_all (s cs:List UInt8):Lib.trimS s cs=[]↔s.all (cs.contains ·)=true:=by
 unfold Lib.trimS Lib.trimLeftS Lib.trimRightS
 rw [dropWhile_all,List.all_reverse]
 have hr:s.all (cs.contains ·)=s.reverse.all (cs.contains ·):=by rw [List.all_reverse]
 rw [hr,<-dropWhile_all]
 generalize s.reverse=l
 refine Iff.trans ?_ (dropWhile_all (cs.contains ·) l)
 constructor
 ·intro h
  cases hd:l.dropWhile (cs.contains ·) with
  | nil=>rfl
  | cons x r=>
    have h2:=List.head_dropWhile_not (cs.contains ·) (l:=l) (by rw [hd];simp)
    simp only [hd,List.head_cons] at h2
    rw [hd,List.dropWhile_cons] at h
    split at h
    ·rename_i h3;rw [h2] at h3;cases h3
    ·cases h
 ·intro h;rw [h];rfl
def namedM (s first:List UInt8):Bool:=decide (s≠[])&&(decide (s.length<=40)&&(first.contains (s.getD 0 0)&&s.all (signsL.contains ·)))
def k108_1:List UInt8:=[97,98,99,100,101,102,103,104,105,106,107,108,109,110,111,112,113,114,115,116,117,118,119,120,121,122,48,49,50,51,52,53,54,55,56,57,45,95,58]
def c108:SFun:=⟨.seq (.reg [o 4 (.mv (.c (.bool false)))]) (.seq (.reg [o 5 (.mv (.t 0)),o 6 (.bin .neq (.t 5) (.c (.str []))),o 7 (.mv (.t 6)),⟨some 8,.mv (.t 0),some (7,true)⟩,⟨some 9,.lenS (.t 8),some (7,true)⟩,⟨some 10,.bin .leq (.t 9) (.c (.int .i64 40)),some (7,true)⟩,o 11 (.pick (.t 7) (.t 10) (.c (.bool false))),o 12 (.mv (.t 11)),⟨some 13,.mv (.t 1),some (12,true)⟩,⟨some 14,.mv (.t 0),some (12,true)⟩,⟨some 15,.idxS (.t 14) (.c (.int .i64 0)),some (12,true)⟩,⟨some 16,.call (.c (.fn 103 [] [])) [.t 13,.t 15],some (12,true)⟩,⟨some 17,.bin .geq (.t 16) (.c (.int .i64 0)),some (12,true)⟩,o 18 (.pick (.t 12) (.t 17) (.c (.bool false))),o 19 (.mv (.t 18)),⟨some 20,.mv (.t 0),some (19,true)⟩,⟨some 21,.call (.c (.fn 122 [] [])) [.t 20,.c (.str k108_1)],some (19,true)⟩,⟨some 22,.bin .eql (.t 21) (.c (.str [])),some (19,true)⟩,o 23 (.pick (.t 19) (.t 22) (.c (.bool false))),o 4 (.mv (.t 23))]) .ret),[.tmp 4]⟩
theorem hc108:Y3 Tryz.prog {} Tryz.f108=some c108:=by kernel_rfl
theorem named_ok (s first:List UInt8) (hs:s.length<=1073741824):PCalls (Pg G) 108 [.str s,.str first] (.bool (namedM s first)):=fun h=>by
 have hI:=indexByte_ok (G:=G) first (s.getD 0 0)
 have hC:=Lib.contains_iff_indexByte first (s.getD 0 0)
 have hT:=trim_ok (G:=G) s signsL hs (by decide) (by decide)
 have hA:=trim_all s signsL
 have hp:∀ {a:Bool},(∀ r h',r=AVal.bool a/\h'=h->Sim.Sub h' h/\r=AVal.bool a):=fun r h' ⟨h1,h2⟩=>by subst h2;exact ⟨Sub.refl _,h1⟩
 unfold namedM
 refine Q0 Tryz.func108 (by kernel_rfl) hc108 (by rw [Tryz.ntmps108];simp) (by rw [Tryz.ntmps108];decide) ?_
 by_cases h1:s=[]
 ·subst h1
  have f1:(([]:List UInt8) != [])=false:=rfl
  simp -dsimp -implicitDefEqProofs (disch:=omega) only [↓Q1 7,↓Q1 12,↓Q1 19,VCA,Nat.reduceEqDiff,Nat.reduceLeDiff,↓reduceIte,reduceCtorEq,ne_eq,exists_eq_right_right,c108,f1]
  exact ⟨Sub.refl _,by simp⟩
 ·have f1:(s != [])=true:=by simpa using h1
  have hl:=List.length_pos_iff.2 h1
  by_cases h2:s.length<=40
  ·have f2:decide ((s.length:Int)<=40)=true:=by rw [decide_eq_true_iff];omega
   simp -dsimp -implicitDefEqProofs (disch:=omega) only [↓Q1 7,↓Q1 12,VCA,Nat.reduceEqDiff,↓reduceIte,reduceCtorEq,ne_eq,c108,f1,f2]
   refine ⟨by omega,?_⟩
   refine PCalls.of hI ?_
   cases h3:first.contains (s.getD 0 0)
   ·have f3:decide ((0:Int)<=Lib.indexByte first (s.getD 0 0))=false:=by rw [<-hC];exact h3
    simp -dsimp -implicitDefEqProofs (disch:=omega) only [↓Q1 19,VCA,Nat.reduceEqDiff,↓reduceIte,exists_eq_right_right,f3]
    exact ⟨Sub.refl _,by simp⟩
   ·have f3:decide ((0:Int)<=Lib.indexByte first (s.getD 0 0))=true:=by rw [<-hC];exact h3
    simp -dsimp -implicitDefEqProofs (disch:=omega) only [↓Q1 19,VCA,Nat.reduceEqDiff,↓reduceIte,reduceCtorEq,f3]
    refine PCalls.of hT ?_
    simp -dsimp -implicitDefEqProofs (disch:=omega) only [VCA,Nat.reduceEqDiff,↓reduceIte,exists_eq_right_right]
    refine ⟨Sub.refl _,?_⟩
    rw [decide_eq_true h1,decide_eq_true h2]
    simp only [Bool.true_and]
    rw [Bool.eq_iff_iff,beq_iff_eq,hA]
  ·have f2:decide ((s.length:Int)<=40)=false:=by rw [decide_eq_false_iff_not];omega
   simp -dsimp -implicitDefEqProofs (disch:=omega) only [↓Q1 7,↓Q1 12,↓Q1 19,VCA,Nat.reduceEqDiff,↓reduceIte,reduceCtorEq,ne_eq,exists_eq_right_right,c108,f1,f2]
   exact ⟨Sub.refl _,by simp [h2]⟩
theorem sign_all (b:UInt8):signsL.contains b=signB b:=by
 have:=u8_all (p:=fun b=>signsL.contains b==signB b) (by decide +kernel) b
 simpa using this
theorem first_all (el:Bool) (b:UInt8):(if el=true then signsL.take 26 else signsL.take 26++[45,95]).contains b=firstB el b:=by
 cases el
 ·have:=u8_all (p:=fun b=>(signsL.take 26++[45,95]).contains b==firstB false b) (by decide +kernel) b
  simpa using this
 ·have:=u8_all (p:=fun b=>(signsL.take 26).contains b==firstB true b) (by decide +kernel) b
  simpa using this
theorem namedM_eq (s:List UInt8) (el:Bool):namedM s (if el=true then signsL.take 26 else signsL.take 26++[45,95])=K4 el s:=by
 unfold namedM K4
 rw [first_all]
 have e1:s.all (signsL.contains ·)=s.all signB:=by congr 1;funext b;exact sign_all b
 rw [e1]
 have e2:decide (s≠[])=decide (1<=s.length):=by
  rw [Bool.eq_iff_iff,decide_eq_true_iff,decide_eq_true_iff,<-List.length_pos_iff];exact Iff.rfl
 rw [e2]
def k91_1:List UInt8:=[97,98,99,100,101,102,103,104,105,106,107,108,109,110,111,112,113,114,115,116,117,118,119,120,121,122,48,49,50,51,52,53,54,55,56,57,45,95,58]
def c91:SFun:=⟨.seq (.reg [o 2 (.mv (.c (.bool false)))]) (.seq (.reg [o 3 (.mv (.t 0)),o 4 (.slS (.c (.str k91_1)) none (some (.c (.int .i64 26)))),o 5 (.call (.c (.fn 108 [] [])) [.t 3,.t 4]),o 2 (.mv (.t 5))]) .ret),[.tmp 2]⟩
theorem hc91:Y3 Tryz.prog {} Tryz.f91=some c91:=by kernel_rfl
theorem name_ok (s:List UInt8) (hs:s.length<=1073741824):PCalls (Pg G) 91 [.str s] (.bool (K4 true s)):=fun h=>by
 refine Q0 Tryz.func91 (by kernel_rfl) hc91 (by rw [Tryz.ntmps91];simp) (by rw [Tryz.ntmps91];decide) ?_
 simp -dsimp -implicitDefEqProofs (disch:=omega) only [VCA,Nat.reduceEqDiff,↓reduceIte,reduceCtorEq,c91]
 refine ⟨by decide,PCalls.of (named_ok s _ hs) ?_⟩
 simp -dsimp -implicitDefEqProofs (disch:=omega) only [VCA,↓reduceIte,exists_eq_right_right]
 exact ⟨Sub.refl _,by rw [<-namedM_eq];rfl⟩
def k109_1:List UInt8:=[97,98,99,100,101,102,103,104,105,106,107,108,109,110,111,112,113,114,115,116,117,118,119,120,121,122,48,49,50,51,52,53,54,55,56,57,45,95,58]
def c109:SFun:=⟨.seq (.reg [o 2 (.mv (.c (.bool false)))]) (.seq (.reg [o 3 (.mv (.t 0)),o 4 (.slS (.c (.str k109_1)) none (some (.c (.int .i64 26)))),o 5 (.bin .add (.t 4) (.c (.str [45,95]))),o 6 (.call (.c (.fn 108 [] [])) [.t 3,.t 5]),o 2 (.mv (.t 6))]) .ret),[.tmp 2]⟩
theorem hc109:Y3 Tryz.prog {} Tryz.f109=some c109:=by kernel_rfl
theorem attrName_ok (s:List UInt8) (hs:s.length<=1073741824):PCalls (Pg G) 109 [.str s] (.bool (K4 false s)):=fun h=>by
 refine Q0 Tryz.func109 (by kernel_rfl) hc109 (by rw [Tryz.ntmps109];simp) (by rw [Tryz.ntmps109];decide) ?_
 simp -dsimp -implicitDefEqProofs (disch:=omega) only [VCA,Nat.reduceEqDiff,Nat.reduceAdd,Nat.reduceLeDiff,↓reduceIte,reduceCtorEq,c109]
 refine ⟨by decide,by decide,PCalls.of (named_ok s _ hs) ?_⟩
 simp -dsimp -implicitDefEqProofs (disch:=omega) only [VCA,↓reduceIte,exists_eq_right_right]
 exact ⟨Sub.refl _,by rw [<-namedM_eq];rfl⟩
def c117:SFun:=⟨.seq (.reg [o 4 (.mv (.c (.int .i64 0)))]) (.seq (.seq (.reg [o 6 (.mv (.t 0)),o 7 (.len (.t 6)),o 8 (.mv (.c (.int .i64 0)))]) (.block 0 (.loop (.seq (.reg [o 9 (.bin .lss (.t 8) (.t 7))]) (.seq (.cond (.t 9) .skip (.exit 0)) (.seq (.block 1 (.seq (.reg [o 10 (.mv (.t 8)),o 5 (.mv (.t 10))]) (.seq (.reg [o 11 (.mv (.t 1)),o 12 (.mv (.t 0)),o 13 (.mv (.t 5)),o 14 (.idxA 2 (.t 12) (.t 13)),o 15 (.ld 2 true (.t 14)),o 16 (.call (.t 11) [.t 15])]) (.cond (.t 16) (.seq (.reg [o 17 (.mv (.t 5)),o 4 (.mv (.t 17))]) .ret) .skip)))) (.reg [o 18 (.bin .add (.t 8) (.c (.int .i64 1))),o 8 (.mv (.t 18))]))))))) (.seq (.reg [o 4 (.mv (.c (.int .i64 (-1))))]) .ret)),[.tmp 4]⟩
theorem hc117:Y3 Tryz.prog {} Tryz.f117=some c117:=by kernel_rfl
theorem indexFA_ok {h:Q2} (l:List HAttr) (f:Nat) (a b:List AVal) (p:HAttr->Bool) (hl:l.length<=1073741824)
 (hp:∀ x,DCalls (Pg G) f (a++([.agg (Y0 x)]++b)) h fun r h'=>r=.bool (p x)/\h'=h):DCalls (Pg G) 117 [sl Y0 l,.fn f a b] h fun r h'=>r=Q3 (U8 p l)/\h'=h:=by
 refine Q0 Tryz.func117 (by kernel_rfl) hc117 (by rw [Tryz.ntmps117];simp) (by rw [Tryz.ntmps117];decide) ?_
 simp -dsimp -implicitDefEqProofs (disch:=omega) only [VCA,↓reduceIte,reduceCtorEq,c117]
 refine LoopVC.intro (fun m e h'=>∃ k:Nat,k<=l.length/\m=l.length-k/\e 0=sl Y0 l/\e 1=.fn f a b/\e 7=Q3 l.length/\e 8=Q3 k/\h'=h /\ ∀ j,j<k->p (nth l j)=false) l.length ⟨0,by omega,by omega,rfl,rfl,rfl,rfl,rfl,by omega⟩ ?_
 rintro m e h' ⟨k,hk,rfl,he0,he1,he7,he8,rfl,hj⟩
 simp -dsimp -implicitDefEqProofs (disch:=omega) only [VCA,↓reduceIte,he7,he8]
 refine Br.dec (fun hlt=>?_) (fun hge=>?_)
 ·simp -dsimp -implicitDefEqProofs (disch:=omega) only [VCA,Nat.reduceEqDiff,Nat.reduceAdd,↓reduceIte,reduceCtorEq,Y0,he0,he1,he8,Y0]
  refine ⟨by omega,DCalls.of (hp (nth l k)) ?_⟩
  rintro r h' ⟨rfl,rfl⟩
  simp -dsimp -implicitDefEqProofs (disch:=omega) only [VCA,↓reduceIte]
  refine Br.intro (fun ht=>?_) (fun hf=>?_)
  ·simp -dsimp -implicitDefEqProofs (disch:=omega) only [VCA,Nat.reduceEqDiff,↓reduceIte,exists_eq_right_right]
   rw [VV (by omega) hj ht];exact ⟨Sub.refl _,rfl⟩
  ·simp -dsimp -implicitDefEqProofs (disch:=omega) only [VCA,Nat.reduceEqDiff,↓reduceIte,reduceCtorEq,he0,he1,he7,he8]
   refine ⟨_,?_,k+1,by omega,rfl,by omega,fun j hj'=>?_⟩
   ·omega
   ·by_cases h1:j=k
    ·subst h1;exact hf
    ·exact hj j (by omega)
 ·simp -dsimp -implicitDefEqProofs (disch:=omega) only [VCA,↓reduceIte,exists_eq_right_right]
  rw [VU (fun j hj'=>hj j (by omega))];exact ⟨Sub.refl _,rfl⟩
def c118:SFun:=⟨.seq (.reg [o 2 (.boxF 72 2 (.t 0)),o 3 (.mv (.c (.bool false)))]) (.seq (.reg [o 4 (.fldA 0 (.t 2)),o 5 (.ld 1 false (.t 4)),o 6 (.ld 1 false (.t 1)),o 7 (.bin .eql (.t 5) (.t 6)),o 3 (.mv (.t 7))]) .ret),[.tmp 3]⟩
theorem hc118:Y3 Tryz.prog {} Tryz.f118=some c118:=by kernel_rfl
theorem find1_ok (name:List UInt8) (a:HAttr):PCalls (Pg G) 118 [.agg (Y0 a),.pin [.str name]] (.bool (a.name==name)):=fun h=>by
 refine Q0 Tryz.func118 (by kernel_rfl) hc118 (by rw [Tryz.ntmps118];simp) (by rw [Tryz.ntmps118];decide) ?_
 simp -dsimp -implicitDefEqProofs (disch:=omega) only [VCA,Nat.reduceEqDiff,Nat.reduceAdd,Nat.reduceLeDiff,↓reduceIte,exists_eq_right,Y0,c118,Y0]
 exact Sub.refl _
def c99:SFun:=⟨.seq (.reg [o 3 (.boxF 9 1 (.t 1)),o 4 (.mv (.c (.int .i64 0)))]) (.seq (.reg [o 5 (.mv (.t 0)),o 6 (.mkf 118 [] [.t 3]),o 7 (.call (.c (.fn 117 [] [])) [.t 5,.t 6]),o 4 (.mv (.t 7))]) .ret),[.tmp 4]⟩
theorem hc99:Y3 Tryz.prog {} Tryz.f99=some c99:=by kernel_rfl
theorem find_ok (l:List HAttr) (name:List UInt8) (hl:l.length<=1073741824):PCalls (Pg G) 99 [sl Y0 l,.str name] (Q3 (J9 l name)):=fun h=>by
 refine Q0 Tryz.func99 (by kernel_rfl) hc99 (by rw [Tryz.ntmps99];simp) (by rw [Tryz.ntmps99];decide) ?_
 simp -dsimp -implicitDefEqProofs (disch:=omega) only [VCA,Nat.reduceEqDiff,↓reduceIte,reduceCtorEq,c99]
 refine DCalls.of (indexFA_ok l 118 [] [.pin [.str name]] (fun a=>a.name==name) hl fun x=>find1_ok name x h) ?_
 rintro r h' ⟨rfl,rfl⟩
 simp -dsimp -implicitDefEqProofs (disch:=omega) only [VCA,↓reduceIte,exists_eq_right_right]
 exact ⟨Sub.refl _,rfl⟩
def c92:SFun:=⟨.seq (.reg [o 2 (.mv (.c (.int .i64 0)))]) (.seq (.seq (.reg [o 5 (.mv (.t 0)),o 6 (.len (.t 5)),o 7 (.bin .gtr (.t 6) (.c (.int .i64 12)))]) (.cond (.t 7) (.seq (.reg [o 2 (.mv (.c (.int .i64 2)))]) .ret) .skip)) (.seq (.seq (.reg [o 8 (.mv (.t 0)),o 9 (.len (.t 8)),o 10 (.mv (.c (.int .i64 0)))]) (.block 0 (.loop (.seq (.reg [o 11 (.bin .lss (.t 10) (.t 9))]) (.seq (.cond (.t 11) .skip (.exit 0)) (.seq (.block 1 (.seq (.reg [o 12 (.mv (.t 10)),o 13 (.idxA 2 (.t 8) (.t 10)),o 14 (.ld 2 true (.t 13)),o 4 (.new 72 2 [.str [],.str []]),o 3 (.mv (.t 12)),⟨none,.st 2 (.t 4) (.t 14),none⟩]) (.block 2 (.seq (.reg [o 16 (.fldA 0 (.t 4)),o 17 (.ld 1 false (.t 16)),o 18 (.pcall 109 [.t 17]),o 19 (.un .not (.t 18)),o 15 (.mv (.t 19))]) (.cond (.t 15) (.seq (.reg [o 2 (.mv (.c (.int .i64 3)))]) .ret) (.seq (.reg [o 21 (.fldA 1 (.t 4)),o 22 (.ld 1 false (.t 21)),o 23 (.lenS (.t 22)),o 24 (.bin .gtr (.t 23) (.c (.int .i64 400))),o 20 (.mv (.t 24))]) (.cond (.t 20) (.seq (.reg [o 2 (.mv (.c (.int .i64 2)))]) .ret) (.seq (.dreg [(o 26 (.mv (.t 0)),none),(o 27 (.mv (.t 3)),none),(o 28 (.slA 2 (.t 26) none (some (.t 27))),none),(o 29 (.fldA 0 (.t 4)),none),(o 30 (.ld 1 false (.t 29)),none),(o 31 (.pcall 99 [.t 28,.t 30]),none),(o 32 (.bin .geq (.t 31) (.c (.int .i64 0))),none),(o 25 (.mv (.t 32)),none)]) (.cond (.t 25) (.seq (.reg [o 2 (.mv (.c (.int .i64 3)))]) .ret) .skip))))))))) (.reg [o 33 (.bin .add (.t 10) (.c (.int .i64 1))),o 10 (.mv (.t 33))]))))))) (.seq (.reg [o 2 (.mv (.c (.int .i64 0)))]) .ret))),[.tmp 2]⟩
theorem hc92:Y3 Tryz.prog {pure:=[109,99]} Tryz.f92=some c92:=by kernel_rfl
theorem attrs_ok (l:List HAttr) (hl:l.length<=1073741824) (hs:∀ a∈l,a.name.length<=1073741824):PCalls (Pg G) 92 [sl Y0 l] (Q3 (JW l)):=fun h=>by
 refine Q0 Tryz.func92 (by kernel_rfl) hc92 (by rw [Tryz.ntmps92];simp) (by rw [Tryz.ntmps92];decide) ?_
 simp -dsimp -implicitDefEqProofs (disch:=omega) only [VCA,↓reduceIte,reduceCtorEq,c92]
 unfold JW
 refine Br.dec (fun h1=>?_) (fun h1=>?_)
 ·simp -dsimp -implicitDefEqProofs (disch:=omega) only [VCA,↓reduceIte,exists_eq_right_right]
  exact ⟨Sub.refl _,by rw [if_pos (by omega)]⟩
 ·rw [if_neg (by omega)]
  simp -dsimp -implicitDefEqProofs (disch:=omega) only [VCA,↓reduceIte,reduceCtorEq]
  refine LoopVC.intro (fun m e h'=>∃ k:Nat,k<=l.length/\m=l.length-k/\e 0=sl Y0 l/\e 8=sl Y0 l/\e 9=Q3 l.length/\e 10=Q3 k/\Sim.Sub h h' /\ ∀ j,j<k->WZ l j=0) l.length ⟨0,by omega,by omega,rfl,rfl,rfl,rfl,Sub.refl _,by omega⟩ ?_
  rintro m e h' ⟨k,hk,rfl,he0,he8,he9,he10,S,hj⟩
  simp -dsimp -implicitDefEqProofs (disch:=omega) only [VCA,↓reduceIte,he9,he10]
  refine Br.dec (fun hlt=>?_) (fun hge=>?_)
  ·have hk':k<l.length:=by omega
   have hn:=hs _ (Y7 hk')
   have e2:(l.take (Int.toNat (k:Int)))=l.take k:=by simp
   have go0:WZ l k=0 -> ∀ h2,Sim.Sub h h2 -> ∃ m',m'<l.length-k /\ ∃ k1,k1<=l.length/\m'=l.length-k1/\(k:Int)+1=k1/\Sim.Sub h h2 /\ ∀ j,j<k1->WZ l j=0:=fun h0 h2 S2=>
    ⟨l.length-(k+1),by omega,k+1,by omega,rfl,by omega,S2,fun j hj'=>by
      by_cases hjk:j=k
      ·subst hjk;exact h0
      ·exact hj j (by omega)⟩
   have fin:∀ x:Int,x≠0->WZ l k=x->fe l.length (WZ l)=x:=fun x hx he=>by rw [KY hk' hj (by rw [he];exact hx),he]
   simp -dsimp -implicitDefEqProofs (disch:=omega) only [VCA,Nat.reduceEqDiff,Nat.reduceAdd,Nat.reduceLT,Nat.reduceLeDiff,↓reduceIte,Z8,exists_eq_left',Y0,he8,he10]
   refine ⟨by omega,fun r hr=>?_⟩
   have S1:=S.upd (x:=some ⟨.t 72,2,[[.str (nth l k).name,.str (nth l k).value]]⟩) (S.none hr)
   refine pcallE.of (attrName_ok _ hn) ?_;simp -dsimp -implicitDefEqProofs (disch:=omega) only [VCA,↓reduceIte]
   refine Br.intro (fun h2=>?_) (fun h2=>?_)
   ·simp -dsimp -implicitDefEqProofs (disch:=omega) only [VCA,↓reduceIte,exists_eq_right_right]
    exact ⟨S1,(fin 3 (by decide) (by unfold WZ;rw [if_pos (by simpa using h2)])).symm⟩
   ·have h2:K4 false (nth l k).name=true:=by simpa using h2
    simp -dsimp -implicitDefEqProofs (disch:=omega) only [VCA,Nat.reduceEqDiff,Nat.reduceAdd,Nat.reduceLT,↓reduceIte,exists_eq_left']
    refine Br.dec (fun h3=>?_) (fun h3=>?_)
    ·simp -dsimp -implicitDefEqProofs (disch:=omega) only [VCA,↓reduceIte,exists_eq_right_right]
     exact ⟨S1,(fin 2 (by decide) (by unfold WZ;rw [if_neg (by simp [h2]),if_pos (by omega)])).symm⟩
    ·simp -dsimp -implicitDefEqProofs (disch:=omega) only [VCA,Nat.reduceEqDiff,Nat.reduceAdd,Nat.reduceLT,Nat.reduceLeDiff,↓reduceIte,reduceCtorEq,Y8,Z0,exists_eq_left',J1,he0]
     refine ⟨by omega,?_⟩
     refine pcallE.of (find_ok (l.take k) (nth l k).name (by simp;omega)) ?_;simp -dsimp -implicitDefEqProofs (disch:=omega) only [VCA,↓reduceIte,Y8,Z0,J1]
     refine Br.dec (fun h4=>?_) (fun h4=>?_)
     ·simp -dsimp -implicitDefEqProofs (disch:=omega) only [VCA,↓reduceIte,exists_eq_right_right]
      exact ⟨S1,(fin 3 (by decide) (by unfold WZ;rw [if_neg (by simp [h2]),if_neg (by omega),if_pos h4])).symm⟩
     ·simp -dsimp -implicitDefEqProofs (disch:=omega) only [VCA,Nat.reduceEqDiff,↓reduceIte,reduceCtorEq,he0,he8,he9,he10]
      refine go0 ?_ _ S1
      unfold WZ
      rw [if_neg (by simp [h2]),if_neg (by omega),if_neg h4]
  ·simp -dsimp -implicitDefEqProofs (disch:=omega) only [VCA,↓reduceIte,exists_eq_right_right]
   obtain rfl:k=l.length:=by omega
   exact ⟨S,(ZU hj).symm⟩
def c107:SFun:=⟨.seq (.reg [o 2 (.mv (.c (.bool false)))]) (.seq (.reg [o 3 (.mv (.t 0)),o 4 (.bin .eql (.t 3) (.c (.int .i64 1))),o 5 (.mv (.t 4)),⟨some 6,.mv (.t 0),some (5,false)⟩,⟨some 7,.bin .eql (.t 6) (.c (.int .i64 2)),some (5,false)⟩,o 8 (.pick (.t 5) (.c (.bool true)) (.t 7)),o 2 (.mv (.t 8))]) .ret),[.tmp 2]⟩
theorem hc107:Y3 Tryz.prog {} Tryz.f107=some c107:=by kernel_rfl
theorem parent_ok (k:Int):PCalls (Pg G) 107 [Q3 k] (.bool (decide (k=1)||decide (k=2))):=fun h=>by
 refine Q0 Tryz.func107 (by kernel_rfl) hc107 (by rw [Tryz.ntmps107];simp) (by rw [Tryz.ntmps107];decide) ?_
 by_cases h1:k=1
 ·subst h1
  simp -dsimp -implicitDefEqProofs (disch:=omega) only [↓Q1 5,VCA,↓reduceIte,reduceCtorEq,c107]
  repeat' (first | ((with_reducible refine brC (fun _=>?_) fun _=>?_) <;> try (exfalso;omega)) | (with_reducible refine And.intro ?_ ?_; · omega) | simp -dsimp -implicitDefEqProofs (disch:=omega) only [VCA,Nat.reduceEqDiff,↓reduceIte,exists_eq_right_right])
  all_goals exact ⟨Sub.refl _,by simp_all⟩
 ·simp -dsimp -implicitDefEqProofs (disch:=omega) only [↓Q1 5,VCA,↓reduceIte,reduceCtorEq,c107]
  repeat' (first | ((with_reducible refine brC (fun _=>?_) fun _=>?_) <;> try (exfalso;omega)) | (with_reducible refine And.intro ?_ ?_; · omega) | simp -dsimp -implicitDefEqProofs (disch:=omega) only [VCA,Nat.reduceEqDiff,↓reduceIte,reduceCtorEq,exists_eq_right_right])
  all_goals first | (exfalso;omega) | exact ⟨Sub.refl _,by rw [Bool.eq_iff_iff];simp [h1]⟩
theorem len0 {α:Type} (l:List α):((l.length:Int)=0)=(l=[]):=by rw [<-List.length_eq_zero_iff];exact propext (by omega)
theorem len0b {α:Type} (l:List α) [DecidableEq α]:((l.length:Int)==0)=decide (l=[]):=by
 rw [Bool.eq_iff_iff,beq_iff_eq,decide_eq_true_iff,len0]
def c90:SFun:=⟨.seq (.reg [o 1 (.boxF 31 6 (.t 0)),o 2 (.mv (.c (.bool false)))]) (.seq (.dreg [(o 5 (.fldA 0 (.t 1)),none),(o 6 (.ld 1 false (.t 5)),none),(o 7 (.bin .eql (.t 6) (.c (.int .i64 2))),none),(o 8 (.fldA 0 (.t 1)),none),(o 9 (.ld 1 false (.t 8)),none),(o 10 (.bin .eql (.t 9) (.c (.int .i64 3))),none),(o 11 (.mv (.t 10)),none),(⟨some 12,.fldA 0 (.t 1),some (11,false)⟩,none),(⟨some 13,.ld 1 false (.t 12),some (11,false)⟩,none),(⟨some 14,.bin .eql (.t 13) (.c (.int .i64 4)),some (11,false)⟩,none),(o 15 (.pick (.t 11) (.c (.bool true)) (.t 14)),none),(o 3 (.mv (.t 7)),none),(o 4 (.mv (.t 15)),none)]) (.seq (.reg [o 16 (.mv (.t 3)),o 17 (.mv (.t 16)),⟨some 18,.fldA 0 (.t 1),some (17,false)⟩,⟨some 19,.ld 1 false (.t 18),some (17,false)⟩,⟨some 20,.bin .eql (.t 19) (.c (.int .i64 5)),some (17,false)⟩,o 21 (.pick (.t 17) (.c (.bool true)) (.t 20)),o 22 (.mv (.t 21)),⟨some 23,.fldA 1 (.t 1),some (22,false)⟩,⟨some 24,.ld 1 false (.t 23),some (22,false)⟩,⟨some 25,.bin .eql (.t 24) (.c (.str [])),some (22,false)⟩,o 26 (.pick (.t 22) (.c (.bool true)) (.t 25)),o 27 (.mv (.t 26)),⟨some 28,.mv (.t 3),some (27,true)⟩,⟨some 29,.mv (.t 28),some (27,true)⟩,⟨some 30,.fldA 2 (.t 1),some (29,false)⟩,⟨some 31,.ld 1 false (.t 30),some (29,false)⟩,⟨some 32,.len (.t 31),some (29,false)⟩,⟨some 33,.bin .eql (.t 32) (.c (.int .i64 0)),some (29,false)⟩,⟨some 34,.pick (.t 29) (.c (.bool true)) (.t 33),some (27,true)⟩,o 35 (.pick (.t 27) (.t 34) (.c (.bool false))),o 36 (.mv (.t 35)),⟨some 37,.mv (.t 4),some (36,true)⟩,⟨some 38,.mv (.t 37),some (36,true)⟩,⟨some 39,.fldA 3 (.t 1),some (38,false)⟩,⟨some 40,.ld 1 false (.t 39),some (38,false)⟩,⟨some 41,.bin .eql (.t 40) (.c (.str [])),some (38,false)⟩,⟨some 42,.pick (.t 38) (.c (.bool true)) (.t 41),some (36,true)⟩,o 43 (.pick (.t 36) (.t 42) (.c (.bool false))),o 44 (.mv (.t 43)),⟨some 45,.fldA 0 (.t 1),some (44,true)⟩,⟨some 46,.ld 1 false (.t 45),some (44,true)⟩,⟨some 47,.pcall 107 [.t 46],some (44,true)⟩,⟨some 48,.mv (.t 47),some (44,true)⟩,⟨some 49,.fldA 5 (.t 1),some (48,false)⟩,⟨some 50,.ld 1 false (.t 49),some (48,false)⟩,⟨some 51,.len (.t 50),some (48,false)⟩,⟨some 52,.bin .eql (.t 51) (.c (.int .i64 0)),some (48,false)⟩,⟨some 53,.pick (.t 48) (.c (.bool true)) (.t 52),some (44,true)⟩,o 54 (.pick (.t 44) (.t 53) (.c (.bool false))),o 2 (.mv (.t 54))]) .ret)),[.tmp 2]⟩
theorem hc90:Y3 Tryz.prog {pure:=[107]} Tryz.f90=some c90:=by kernel_rfl
theorem bare_ok (x:HNode):PCalls (Pg G) 90 [.agg (Q7 x)] (.bool (XZ x)):=fun h=>by
 refine Q0 Tryz.func90 (by kernel_rfl) hc90 (by rw [Tryz.ntmps90];simp) (by rw [Tryz.ntmps90];decide) ?_
 simp -dsimp -implicitDefEqProofs (disch:=omega) only [↓T5 11,VCA,Nat.reduceEqDiff,Nat.reduceAdd,Nat.reduceLeDiff,↓reduceIte,Y8,Z0,J1,Q7,c90,Q7]
 repeat' (first | ((with_reducible refine brC (fun _=>?_) fun _=>?_) <;> try (exfalso;omega)) | (with_reducible apply pcallE.of; · exact parent_ok x.kind) | (with_reducible refine And.intro ?_ ?_; · omega) | simp -dsimp -implicitDefEqProofs (disch:=omega) only [↓Q1 17,↓Q1 22,↓Q1 27,↓Q1 29,↓Q1 36,↓Q1 38,↓Q1 44,↓Q1 48,VCA,Nat.reduceEqDiff,Nat.reduceAdd,Nat.reduceLeDiff,↓reduceIte,Y8,Z0,exists_eq_right_right,J1])
 all_goals (refine ⟨Sub.refl _,?_⟩;simp_all [XZ,len0b])
theorem lt400 (n:Nat):((400:Int)<(n:Int))=(400<n):=propext (by omega)
def c70:SFun:=⟨.seq (.reg [o 1 (.boxF 31 6 (.t 0)),o 2 (.mv (.c (.int .i64 0)))]) (.seq (.block 0 (.seq (.reg [o 5 (.fldA 0 (.t 1)),o 6 (.ld 1 false (.t 5)),o 7 (.bin .lss (.t 6) (.c (.int .i64 1))),o 8 (.mv (.t 7)),⟨some 9,.fldA 0 (.t 1),some (8,false)⟩,⟨some 10,.ld 1 false (.t 9),some (8,false)⟩,⟨some 11,.bin .gtr (.t 10) (.c (.int .i64 5)),some (8,false)⟩,o 12 (.pick (.t 8) (.c (.bool true)) (.t 11)),o 13 (.mv (.t 12)),⟨some 14,.ld 6 true (.t 1),some (13,false)⟩,⟨some 15,.pcall 90 [.t 14],some (13,false)⟩,⟨some 16,.un .not (.t 15),some (13,false)⟩,o 17 (.pick (.t 13) (.c (.bool true)) (.t 16)),o 4 (.mv (.t 17))]) (.cond (.t 4) (.seq (.reg [o 2 (.mv (.c (.int .i64 7)))]) .ret) (.seq (.reg [o 19 (.fldA 0 (.t 1)),o 20 (.ld 1 false (.t 19)),o 21 (.bin .eql (.t 20) (.c (.int .i64 2))),o 22 (.mv (.t 21)),⟨some 23,.fldA 1 (.t 1),some (22,true)⟩,⟨some 24,.ld 1 false (.t 23),some (22,true)⟩,⟨some 25,.pcall 91 [.t 24],some (22,true)⟩,⟨some 26,.un .not (.t 25),some (22,true)⟩,o 27 (.pick (.t 22) (.t 26) (.c (.bool false))),o 18 (.mv (.t 27))]) (.cond (.t 18) (.seq (.reg [o 2 (.mv (.c (.int .i64 3)))]) .ret) .skip))))) (.seq (.seq (.reg [o 28 (.fldA 2 (.t 1)),o 29 (.ld 1 false (.t 28)),o 30 (.pcall 92 [.t 29]),o 3 (.mv (.t 30))]) (.seq (.reg [o 31 (.mv (.t 3)),o 32 (.bin .neq (.t 31) (.c (.int .i64 0)))]) (.cond (.t 32) (.seq (.reg [o 33 (.mv (.t 3)),o 2 (.mv (.t 33))]) .ret) .skip))) (.seq (.seq (.reg [o 34 (.fldA 3 (.t 1)),o 35 (.ld 1 false (.t 34)),o 36 (.lenS (.t 35)),o 37 (.bin .gtr (.t 36) (.c (.int .i64 400))),o 38 (.mv (.t 37)),⟨some 39,.fldA 1 (.t 1),some (38,false)⟩,⟨some 40,.ld 1 false (.t 39),some (38,false)⟩,⟨some 41,.lenS (.t 40),some (38,false)⟩,⟨some 42,.bin .gtr (.t 41) (.c (.int .i64 400)),some (38,false)⟩,o 43 (.pick (.t 38) (.c (.bool true)) (.t 42))]) (.cond (.t 43) (.seq (.reg [o 2 (.mv (.c (.int .i64 2)))]) .ret) .skip)) (.seq (.reg [o 2 (.mv (.c (.int .i64 0)))]) .ret)))),[.tmp 2]⟩
theorem hc70:Y3 Tryz.prog {pure:=[90,91,92]} Tryz.f70=some c70:=by kernel_rfl
theorem one_ok' (x:HNode) (hx:NodeSm x):PCalls (Pg G) 70 [.agg (Q7 x)] (Q3 (V8 x)):=fun h=>by
 refine Q0 Tryz.func70 (by kernel_rfl) hc70 (by rw [Tryz.ntmps70];simp) (by rw [Tryz.ntmps70];decide) ?_
 simp -dsimp -implicitDefEqProofs (disch:=omega) only [↓Q1 8,VCA,Nat.reduceEqDiff,Nat.reduceAdd,Nat.reduceLeDiff,↓reduceIte,Q7,c70,Q7]
 have hb:PCalls (Pg G) 90 [.agg [Q3 x.kind,.str x.name,sl Y0 x.attrs,.str x.text,Q3 x.parent,sl Z6 x.kids]] (.bool (XZ x)):=bare_ok x
 repeat' (first | ((with_reducible refine brC (fun _=>?_) fun _=>?_) <;> try (exfalso;omega)) | (with_reducible apply pcallE.of; · exact hb) | (with_reducible apply pcallE.of; · exact name_ok x.name hx.name) | (with_reducible apply pcallE.of; · exact attrs_ok x.attrs hx.attrs (fun a ha=>(hx.each a ha).1)) | (with_reducible refine And.intro ?_ ?_; · omega) | simp -dsimp -implicitDefEqProofs (disch:=omega) only [↓Q1 13,↓Q1 22,↓Q1 38,VCA,Nat.reduceEqDiff,Nat.reduceAdd,Nat.reduceLeDiff,↓reduceIte,exists_eq_right_right])
 all_goals (clear hb hx;refine ⟨Sub.refl _,?_⟩;simp_all [V8,lt400];try (first | omega | (intro hh;omega) | (rw [if_neg (by omega),if_neg (by omega)])))
def eBool (b:Bool):List AVal:=[.bool b]
instance:LenE eBool 1:=⟨fun _=>rfl⟩
theorem upF_top {d:HDoc} {n:Int} (h:¬ 0<=(nd d n).parent) (f:Nat):upF f d n=0:=by cases f <;> simp [upF,h]
def c72:SFun:=⟨.seq (.reg [o 2 (.boxF 24 2 (.t 0)),o 4 (.mv (.c (.int .i64 0)))]) (.seq (.block 0 (.loop (.seq (.seq (.reg [o 5 (.fldA 0 (.t 2)),o 6 (.ld 1 false (.t 5)),o 7 (.mv (.t 1)),o 8 (.idxA 6 (.t 6) (.t 7)),o 9 (.fldA 4 (.t 8)),o 10 (.ld 1 false (.t 9)),o 11 (.bin .geq (.t 10) (.c (.int .i64 0))),o 12 (.mv (.t 11)),⟨some 13,.mv (.t 4),some (12,true)⟩,⟨some 14,.fldA 0 (.t 2),some (12,true)⟩,⟨some 15,.ld 1 false (.t 14),some (12,true)⟩,⟨some 16,.len (.t 15),some (12,true)⟩,⟨some 17,.bin .leq (.t 13) (.t 16),some (12,true)⟩,o 18 (.pick (.t 12) (.t 17) (.c (.bool false)))]) (.cond (.t 18) .skip (.exit 0))) (.seq (.block 1 (.reg [o 25 (.mv (.t 4)),o 26 (.bin .add (.t 25) (.c (.int .i64 1))),o 4 (.mv (.t 26))])) (.reg [o 19 (.fldA 0 (.t 2)),o 20 (.ld 1 false (.t 19)),o 21 (.mv (.t 1)),o 22 (.idxA 6 (.t 20) (.t 21)),o 23 (.fldA 4 (.t 22)),o 24 (.ld 1 false (.t 23)),o 1 (.mv (.t 24))]))))) (.seq (.reg [o 27 (.mv (.t 4)),o 4 (.mv (.t 27))]) .ret)),[.tmp 4]⟩
theorem hc72:Y3 Tryz.prog {} Tryz.f72=some c72:=by kernel_rfl
theorem up_ok (d:HDoc) (sm:DocSm d) (hP:∀ n,inD d n->0<=(nd d n).parent->inD d (nd d n).parent) (n:Int) (hn:inD d n):PCalls (Pg G) 72 [.agg (Q8 d),Q3 n] (Q3 (up d n)):=fun h=>by
 have hl:=sm.len
 refine Q0 Tryz.func72 (by kernel_rfl) hc72 (by rw [Tryz.ntmps72];simp) (by rw [Tryz.ntmps72];decide) ?_
 simp -dsimp -implicitDefEqProofs (disch:=omega) only [VCA,Nat.reduceAdd,Q8,c72,Q8]
 refine LoopVC.intro (fun m e h'=>∃ (c:Int) (k:Nat),k<=d.nodes.length+1/\m=d.nodes.length+1-k/\inD d c/\e 1=Q3 c/\e 2=.pin (Q8 d)/\e 4=Q3 k/\h'=h/\k+upF (d.nodes.length+1-k) d c=up d n) (d.nodes.length+1) ⟨n,0,by omega,rfl,hn,rfl,rfl,rfl,rfl,by simp [up]⟩ ?_
 rintro m e h' ⟨c,k,hk,rfl,hc,he1,he2,he4,rfl,hu⟩
 have hc0:=hc.1
 have hc1:=hc.2
 simp -dsimp -implicitDefEqProofs (disch:=omega) only [↓Q1 12,VCA,Nat.reduceEqDiff,Nat.reduceAdd,Nat.reduceLeDiff,↓reduceIte,Q7,Q8,he1,he2,Q8]
 refine ⟨by omega,?_⟩
 have e0:nth d.nodes c.toNat=nd d c:=rfl
 rw [e0]
 refine Br.dec (fun h1=>?_) (fun h1=>?_)
 ·simp -dsimp -implicitDefEqProofs (disch:=omega) only [VCA,Nat.reduceEqDiff,Nat.reduceAdd,Nat.reduceLeDiff,↓reduceIte,Q8,he2,he4,Q8]
  refine Br.dec (fun h2=>?_) (fun h2=>?_)
  ·simp -dsimp -implicitDefEqProofs (disch:=omega) only [VCA,Nat.reduceEqDiff,Nat.reduceAdd,Nat.reduceLeDiff,↓reduceIte,Q7,Q8,he1,he2,he4,Q8]
   refine ⟨by omega,_,?_,(nd d c).parent,k+1,by omega,rfl,hP c hc h1,rfl,by omega,?_⟩
   ·omega
   ·obtain ⟨f,hf⟩:∃ f,d.nodes.length+1-k=f+1:=⟨d.nodes.length-k,by omega⟩
    rw [hf,upF,if_pos h1] at hu
    have e2:d.nodes.length+1-(k+1)=f:=by omega
    rw [e2];omega
  ·simp -dsimp -implicitDefEqProofs (disch:=omega) only [VCA,Nat.reduceEqDiff,↓reduceIte,exists_eq_right_right,he4]
   have hk':k=d.nodes.length+1:=by omega
   subst hk'
   rw [Nat.sub_self,upF] at hu
   exact ⟨Sub.refl _,by omega⟩
 ·simp -dsimp -implicitDefEqProofs (disch:=omega) only [VCA,Nat.reduceEqDiff,↓reduceIte,exists_eq_right_right,he4]
  rw [upF_top h1] at hu
  exact ⟨Sub.refl _,by omega⟩
def SeenI (d:HDoc) (i k:Nat) (sn:List Bool):Prop:=sn.length=d.nodes.length /\ ∀ j,j<d.nodes.length->(nth sn j=true↔(∃ i',i'<i/\(j:Int)∈(nth d.nodes i').kids)\/(j:Int)∈(nth d.nodes i).kids.take k)
def Y9 (d:HDoc):Int:=
 if fe d.nodes.length (UT d)≠0 then fe d.nodes.length (UT d)
 else if fe d.nodes.length (parE d)≠0 then fe d.nodes.length (parE d)
 else if (nd d 0).parent ≠ -1 then 3 else 0
theorem seen_zero (d:HDoc):SeenI d 0 0 (List.replicate d.nodes.length false):=by
 refine ⟨by simp,fun j hj=>?_⟩
 have:nth (List.replicate d.nodes.length false) j=false:=by simp [nth,List.getD_eq_getElem?_getD,hj]
 rw [this]
 simp
theorem seen_next {d:HDoc} {i:Nat} {sn:List Bool} (h:SeenI d i (nth d.nodes i).kids.length sn):SeenI d (i+1) 0 sn:=by
 refine ⟨h.1,fun j hj=>?_⟩
 rw [h.2 j hj,List.take_length]
 constructor
 ·rintro (⟨i',h1,h2⟩ | h1)
  ·exact .inl ⟨i',by omega,h2⟩
  ·exact .inl ⟨i,by omega,h1⟩
 ·rintro (⟨i',h1,h2⟩ | h1)
  ·by_cases hi:i'=i
   ·subst hi;exact .inr h2
   ·exact .inl ⟨i',by omega,h2⟩
  ·simp at h1
theorem seen_kid {d:HDoc} {i k:Nat} {sn:List Bool} (h:SeenI d i k sn) (hk:k<(nth d.nodes i).kids.length) (hd:inD d (nth (nth d.nodes i).kids k)):SeenI d i (k+1) (sn.set (nth (nth d.nodes i).kids k).toNat true):=by
 have hn:=hd.nat
 refine ⟨by rw [List.length_set];exact h.1,fun j hj=>?_⟩
 rw [K9 _ _ _ _ (by rw [h.1];exact hn.1),X1 hk,List.mem_append,List.mem_singleton]
 split
 ·rename_i hj'
  subst hj'
  rw [hn.2]
  simp
 ·rename_i hj'
  rw [h.2 j hj]
  constructor
  ·rintro (h1 | h1)
   ·exact .inl h1
   ·exact .inr (.inl h1)
  ·rintro (h1 | h1 | h1)
   ·exact .inl h1
   ·exact .inr h1
   ·exact absurd (by omega) hj'
theorem seen_is {d:HDoc} {i k:Nat} {sn:List Bool} (h:SeenI d i k sn) (hi:i<d.nodes.length) (h0:∀ j,j<i->UT d j=0) {c:Int} (hc:inD d c) (hp:(nd d c).parent=i):nth sn c.toNat=true↔c∈(nth d.nodes i).kids.take k:=by
 rw [h.2 _ hc.nat.1,hc.nat.2]
 constructor
 ·rintro (⟨i',h1,h2⟩ | h1)
  ·obtain ⟨q,hq,rfl⟩:=QY h2
   have:=fe_zero (h0 i' h1) q hq
   unfold kidE at this
   simp only at this
   split at this
   ·omega
   ·rename_i hn
    simp only [not_or,Classical.not_not] at hn
    omega
  ·exact h1
 ·exact .inr
theorem seen_end {d:HDoc} {sn:List Bool} (h:SeenI d d.nodes.length 0 sn) (h0:∀ j,j<d.nodes.length->UT d j=0) {i:Nat} (hi:i<d.nodes.length):nth sn i=true↔(inD d (nth d.nodes i).parent/\(i:Int)∈(nd d (nth d.nodes i).parent).kids):=by
 rw [h.2 _ hi]
 constructor
 ·rintro (⟨i',h1,h2⟩ | h1)
  ·obtain ⟨q,hq,he⟩:=QY h2
   have:=fe_zero (h0 i' h1) q hq
   unfold kidE at this
   simp only [he] at this
   split at this
   ·omega
   ·rename_i hn
    simp only [not_or,Classical.not_not] at hn
    rw [nd_nat] at hn
    rw [hn.2.1,nd_nat]
    exact ⟨inD_nat.2 h1,h2⟩
  ·simp at h1
 ·intro ⟨h1,h2⟩
  exact .inl ⟨_,h1.nat.1,h2⟩
theorem eBool_set (sn:List Bool) (k:Nat) (b:Bool):(sn.map eBool).set k [.bool b]=(sn.set k b).map eBool:=by
 rw [List.map_set];rfl
def c71:SFun:=⟨.seq (.reg [o 1 (.boxF 24 2 (.t 0)),o 2 (.mv (.c (.int .i64 0)))]) (.seq (.reg [o 10 (.fldA 0 (.t 1)),o 11 (.ld 1 false (.t 10)),o 12 (.len (.t 11)),o 13 (.mks 4 1 1 [.bool false] (.t 12) (.t 12)),o 3 (.mv (.t 13))]) (.seq (.seq (.reg [o 14 (.fldA 0 (.t 1)),o 15 (.ld 1 false (.t 14)),o 16 (.len (.t 15)),o 17 (.mv (.c (.int .i64 0)))]) (.block 0 (.loop (.seq (.reg [o 18 (.bin .lss (.t 17) (.t 16))]) (.seq (.cond (.t 18) .skip (.exit 0)) (.seq (.block 1 (.seq (.reg [o 19 (.mv (.t 17)),o 20 (.idxA 6 (.t 15) (.t 17)),o 21 (.ld 6 true (.t 20)),o 5 (.new 31 6 [.int .i64 0,.str [],.emp,.str [],.int .i64 0,.emp]),o 4 (.mv (.t 19)),⟨none,.st 6 (.t 5) (.t 21),none⟩]) (.seq (.reg [o 22 (.fldA 5 (.t 5)),o 23 (.ld 1 false (.t 22)),o 24 (.len (.t 23)),o 25 (.mv (.c (.int .i64 0)))]) (.block 2 (.loop (.seq (.reg [o 26 (.bin .lss (.t 25) (.t 24))]) (.seq (.cond (.t 26) .skip (.exit 2)) (.seq (.block 3 (.seq (.reg [o 27 (.idxA 1 (.t 23) (.t 25)),o 28 (.ld 1 false (.t 27)),o 7 (.mv (.t 28))]) (.seq (.block 4 (.seq (.reg [o 30 (.mv (.t 7)),o 31 (.bin .lss (.t 30) (.c (.int .i64 0))),o 32 (.mv (.t 31)),⟨some 33,.mv (.t 7),some (32,false)⟩,⟨some 34,.mv (.t 3),some (32,false)⟩,⟨some 35,.len (.t 34),some (32,false)⟩,⟨some 36,.bin .geq (.t 33) (.t 35),some (32,false)⟩,o 37 (.pick (.t 32) (.c (.bool true)) (.t 36)),o 38 (.mv (.t 37)),⟨some 39,.fldA 0 (.t 1),some (38,false)⟩,⟨some 40,.ld 1 false (.t 39),some (38,false)⟩,⟨some 41,.mv (.t 7),some (38,false)⟩,⟨some 42,.idxA 6 (.t 40) (.t 41),some (38,false)⟩,⟨some 43,.fldA 4 (.t 42),some (38,false)⟩,⟨some 44,.ld 1 false (.t 43),some (38,false)⟩,⟨some 45,.mv (.t 4),some (38,false)⟩,⟨some 46,.bin .neq (.t 44) (.t 45),some (38,false)⟩,o 47 (.pick (.t 38) (.c (.bool true)) (.t 46)),o 48 (.mv (.t 47)),⟨some 49,.mv (.t 3),some (48,false)⟩,⟨some 50,.mv (.t 7),some (48,false)⟩,⟨some 51,.idxA 1 (.t 49) (.t 50),some (48,false)⟩,⟨some 52,.ld 1 false (.t 51),some (48,false)⟩,o 53 (.pick (.t 48) (.c (.bool true)) (.t 52)),o 29 (.mv (.t 53))]) (.cond (.t 29) (.seq (.reg [o 2 (.mv (.c (.int .i64 3)))]) .ret) (.seq (.reg [o 55 (.mv (.t 4)),o 56 (.bin .eql (.t 55) (.c (.int .i64 0))),o 57 (.mv (.t 56)),⟨some 58,.fldA 0 (.t 1),some (57,true)⟩,⟨some 59,.ld 1 false (.t 58),some (57,true)⟩,⟨some 60,.mv (.t 7),some (57,true)⟩,⟨some 61,.idxA 6 (.t 59) (.t 60),some (57,true)⟩,⟨some 62,.fldA 0 (.t 61),some (57,true)⟩,⟨some 63,.ld 1 false (.t 62),some (57,true)⟩,⟨some 64,.bin .eql (.t 63) (.c (.int .i64 3)),some (57,true)⟩,o 65 (.pick (.t 57) (.t 64) (.c (.bool false))),o 54 (.mv (.t 65))]) (.cond (.t 54) (.seq (.reg [o 2 (.mv (.c (.int .i64 7)))]) .ret) .skip))))) (.reg [o 66 (.mv (.t 3)),o 67 (.mv (.t 7)),o 68 (.idxA 1 (.t 66) (.t 67)),⟨none,.st 1 (.t 68) (.c (.bool true)),none⟩])))) (.reg [o 69 (.bin .add (.t 25) (.c (.int .i64 1))),o 25 (.mv (.t 69))]))))))))) (.reg [o 70 (.bin .add (.t 17) (.c (.int .i64 1))),o 17 (.mv (.t 70))]))))))) (.seq (.seq (.reg [o 71 (.fldA 0 (.t 1)),o 72 (.ld 1 false (.t 71)),o 73 (.len (.t 72)),o 74 (.mv (.c (.int .i64 0)))]) (.block 5 (.loop (.seq (.reg [o 75 (.bin .lss (.t 74) (.t 73))]) (.seq (.cond (.t 75) .skip (.exit 5)) (.seq (.block 6 (.seq (.reg [o 76 (.mv (.t 74)),o 77 (.idxA 6 (.t 72) (.t 74)),o 78 (.ld 6 true (.t 77)),o 9 (.new 31 6 [.int .i64 0,.str [],.emp,.str [],.int .i64 0,.emp]),o 8 (.mv (.t 76)),⟨none,.st 6 (.t 9) (.t 78),none⟩]) (.seq (.reg [o 79 (.fldA 4 (.t 9)),o 80 (.ld 1 false (.t 79)),o 81 (.bin .neq (.t 80) (.c (.int .i64 (-1)))),o 82 (.mv (.t 81)),⟨some 83,.mv (.t 3),some (82,true)⟩,⟨some 84,.mv (.t 8),some (82,true)⟩,⟨some 85,.idxA 1 (.t 83) (.t 84),some (82,true)⟩,⟨some 86,.ld 1 false (.t 85),some (82,true)⟩,⟨some 87,.un .not (.t 86),some (82,true)⟩,o 88 (.pick (.t 82) (.t 87) (.c (.bool false)))]) (.cond (.t 88) (.seq (.reg [o 2 (.mv (.c (.int .i64 3)))]) .ret) .skip)))) (.reg [o 89 (.bin .add (.t 74) (.c (.int .i64 1))),o 74 (.mv (.t 89))]))))))) (.seq (.seq (.reg [o 90 (.fldA 0 (.t 1)),o 91 (.ld 1 false (.t 90)),o 92 (.idxA 6 (.t 91) (.c (.int .i64 0))),o 93 (.fldA 4 (.t 92)),o 94 (.ld 1 false (.t 93)),o 95 (.bin .neq (.t 94) (.c (.int .i64 (-1))))]) (.cond (.t 95) (.seq (.reg [o 2 (.mv (.c (.int .i64 3)))]) .ret) .skip)) (.seq (.reg [o 2 (.mv (.c (.int .i64 0)))]) .ret))))),[.tmp 2]⟩
theorem hc71:Y3 Tryz.prog {} Tryz.f71=some c71:=by kernel_rfl
theorem kids_ok (d:HDoc) (sm:DocSm d) (hp:0<d.nodes.length):PCalls (Pg G) 71 [.agg (Q8 d)] (Q3 (Y9 d)):=fun h=>by
 have hl:=sm.len
 refine Q0 Tryz.func71 (by kernel_rfl) hc71 (by rw [Tryz.ntmps71];simp) (by rw [Tryz.ntmps71];decide) ?_
 simp -dsimp -implicitDefEqProofs (disch:=omega) only [VCA,Nat.reduceEqDiff,Nat.reduceAdd,Nat.reduceLeDiff,↓reduceIte,Q8,c71,Q8]
 refine ⟨by omega,by omega,by omega,by omega,fun r hr=>?_⟩
 have S0:Sim.Sub h (upd h r (some ⟨.t 4,1,List.replicate d.nodes.length [.bool false]⟩)):=(Sub.refl h).upd hr
 refine LoopVC.intro (fun m e h'=>∃ (i:Nat) (sn:List Bool),i<=d.nodes.length/\m=d.nodes.length-i/\e 1=.pin (Q8 d)/\e 3=.osl r 1 0 d.nodes.length/\e 15=sl Q7 d.nodes/\e 16=Q3 d.nodes.length/\e 17=Q3 i/\Sim.Sub h h' /\
  h' r=some ⟨.t 4,1,sn.map eBool⟩/\SeenI d i 0 sn /\ ∀ j,j<i->UT d j=0) d.nodes.length ⟨0,List.replicate d.nodes.length false,by omega,by omega,rfl,rfl,rfl,rfl,rfl,S0,by simp [eBool],seen_zero d,by omega⟩ ?_
 rintro m e h' ⟨i,sn,hi,rfl,he1,he3,he15,he16,he17,S,hr',hS,hj⟩
 simp -dsimp -implicitDefEqProofs (disch:=omega) only [VCA,↓reduceIte,Q8,he16,he17]
 refine Br.dec (fun hlt=>?_) (fun hge=>?_)
 ·have hi':i<d.nodes.length:=by omega
  have smi:=sm.nth i
  simp -dsimp -implicitDefEqProofs (disch:=omega) only [VCA,Nat.reduceEqDiff,Nat.reduceAdd,Nat.reduceLT,↓reduceIte,Z8,exists_eq_left',Q7,he15,he17]
  refine ⟨by omega,fun rx hrx=>?_⟩
  have hne:r≠rx:=fun e=>by subst e;rw [hr'] at hrx;cases hrx
  have S1:=S.upd (x:=some ⟨.t 31,6,[Q7 (nth d.nodes i)]⟩) (S.none hrx)
  have hr1:upd h' rx (some ⟨.t 31,6,[Q7 (nth d.nodes i)]⟩) r=some ⟨.t 4,1,sn.map eBool⟩:=by rw [Q4 _ _ hne];exact hr'
  have kl:=smi.kids
  refine LoopVC.intro (fun m e h'=>∃ (k:Nat) (sn:List Bool),k<=(nth d.nodes i).kids.length/\m=(nth d.nodes i).kids.length-k/\e 1=.pin (Q8 d)/\e 3=.osl r 1 0 d.nodes.length/\e 4=Q3 i/\e 15=sl Q7 d.nodes/\e 16=Q3 d.nodes.length/\e 17=Q3 i /\
   e 23=sl Z6 (nth d.nodes i).kids/\e 24=Q3 (nth d.nodes i).kids.length/\e 25=Q3 k/\Sim.Sub h h'/\h' r=some ⟨.t 4,1,sn.map eBool⟩/\SeenI d i k sn /\ ∀ j,j<k->kidE d i j=0) (nth d.nodes i).kids.length ⟨0,sn,by omega,by omega,he1,he3,rfl,he15,he16,he17,rfl,rfl,rfl,S1,hr1,hS,by omega⟩ ?_
  rintro m e h' ⟨k,sn,hk,rfl,he1,he3,he4,he15,he16,he17,he23,he24,he25,S,hr',hS,hk0⟩
  have hsl:=hS.1
  simp -dsimp -implicitDefEqProofs (disch:=omega) only [VCA,↓reduceIte,Q8,he24,he25]
  refine Br.dec (fun hlt=>?_) (fun hge=>?_)
  ·have hk':k<(nth d.nodes i).kids.length:=by omega
   have bad:∀ x:Int,x≠0->kidE d i k=x->Y9 d=x:=fun x hx he=>by
    have h1:UT d i=x:=by unfold UT;rw [KY hk' hk0 (by rw [he];exact hx),he]
    have h2:fe d.nodes.length (UT d)=x:=by rw [KY hi' hj (by rw [h1];exact hx),h1]
    unfold Y9;rw [h2,if_pos hx]
   have ks:∀ hc:inD d (nth (nth d.nodes i).kids k),(nd d (nth (nth d.nodes i).kids k)).parent=i->(nth sn (nth (nth d.nodes i).kids k).toNat=true↔nth (nth d.nodes i).kids k∈(nth d.nodes i).kids.take k):=fun hc hp=>seen_is hS hi' hj hc hp
   have hsk:=fun hc=>seen_kid hS hk' hc
   have kdef:kidE d i k=if ¬ inD d (nth (nth d.nodes i).kids k)\/(nd d (nth (nth d.nodes i).kids k)).parent≠i\/nth (nth d.nodes i).kids k∈(nth d.nodes i).kids.take k then 3 else if i=0/\(nd d (nth (nth d.nodes i).kids k)).kind=3 then 7 else 0:=rfl
   have inC:inD d (nth (nth d.nodes i).kids k)↔¬ nth (nth d.nodes i).kids k<0/\¬ (d.nodes.length:Int)<=nth (nth d.nodes i).kids k:=by unfold inD;omega
   have ok0:∀ j,kidE d i k=0->j<k+1->kidE d i j=0:=fun j h0 hj'=>by
    by_cases hjk:j=k
    ·subst hjk;exact h0
    ·exact hk0 j (by omega)
   simp -dsimp -implicitDefEqProofs (disch:=omega) only [↓Q1 32,VCA,Nat.reduceEqDiff,↓reduceIte,Z6,he23,he25]
   repeat' (first | ((with_reducible refine brC (fun _=>?_) fun _=>?_) <;> try (exfalso;omega)) | (with_reducible refine And.intro ?_ ?_; · omega) | simp -dsimp -implicitDefEqProofs (disch:=omega) only [↓Q1 38,↓Q1 48,↓Q1 57,VCA,Nat.reduceEqDiff,Nat.reduceAdd,Nat.reduceLeDiff,↓reduceIte,Z8,exists_eq_right_right,exists_eq_left',Q7,Q8,eBool,he1,he3,he4,he15,he16,he17,he23,he24,he25,Q8,Q7,hr',eBool])
   ·rename_i q
    exact (bad 3 (by decide) (by rw [kdef,if_pos (.inl fun hc=>(inC.1 hc).1 q)])).symm
   ·rename_i q
    exact (bad 3 (by decide) (by rw [kdef,if_pos (.inl fun hc=>(inC.1 hc).2 q)])).symm
   ·rename_i q
    exact (bad 3 (by decide) (by rw [kdef,if_pos (.inr (.inl q))])).symm
   ·rename_i q3 q2 q1 q
    exact (bad 3 (by decide) (by rw [kdef,if_pos (.inr (.inr ((ks (inC.2 ⟨q3,q2⟩) q1).1 q)))])).symm
   ·rename_i q5 q4 q3 q2 q1 q
    refine (bad 7 (by decide) ?_).symm
    rw [kdef,if_neg,if_pos ⟨by omega,q⟩]
    rintro (hh | hh | hh)
    ·exact hh (inC.2 ⟨q5,q4⟩)
    ·exact hh q3
    ·rw [(ks (inC.2 ⟨q5,q4⟩) q3).2 hh] at q2;cases q2
   ·rename_i q5 q4 q3 q2 q1 q
    have k0:kidE d i k=0:=by
     rw [kdef,if_neg,if_neg (fun hh=>q hh.2)]
     rintro (hh | hh | hh)
     ·exact hh (inC.2 ⟨q5,q4⟩)
     ·exact hh q3
     ·rw [(ks (inC.2 ⟨q5,q4⟩) q3).2 hh] at q2;cases q2
    refine ⟨_,by omega,k+1,sn.set (nth (nth d.nodes i).kids k).toNat true,by omega,rfl,by omega,S.upd hr,?_,hsk (inC.2 ⟨q5,q4⟩),fun j=>ok0 j k0⟩
    rw [eBool_set]
   ·rename_i q4 q3 q2 q1 q
    have k0:kidE d i k=0:=by
     rw [kdef,if_neg,if_neg (fun hh=>q (by omega))]
     rintro (hh | hh | hh)
     ·exact hh (inC.2 ⟨q4,q3⟩)
     ·exact hh q2
     ·rw [(ks (inC.2 ⟨q4,q3⟩) q2).2 hh] at q1;cases q1
    refine ⟨_,by omega,k+1,sn.set (nth (nth d.nodes i).kids k).toNat true,by omega,rfl,by omega,S.upd hr,?_,hsk (inC.2 ⟨q4,q3⟩),fun j=>ok0 j k0⟩
    rw [eBool_set]
  ·simp -dsimp -implicitDefEqProofs (disch:=omega) only [VCA,Nat.reduceEqDiff,↓reduceIte,Q8,he1,he3,he15,he16,he17]
   obtain rfl:k=(nth d.nodes i).kids.length:=by omega
   refine ⟨_,by omega,i+1,sn,by omega,rfl,by omega,S,hr',seen_next hS,fun j hj'=>?_⟩
   by_cases hji:j=i
   ·subst hji;exact ZU hk0
   ·exact hj j (by omega)
 ·obtain rfl:i=d.nodes.length:=by omega
  have hk0:fe d.nodes.length (UT d)=0:=ZU hj
  have hsl:=hS.1
  simp -dsimp -implicitDefEqProofs (disch:=omega) only [VCA,Nat.reduceEqDiff,Nat.reduceAdd,Nat.reduceLeDiff,↓reduceIte,Q8,he1,Q8]
  refine LoopVC.intro (fun m e h'=>∃ i:Nat,i<=d.nodes.length/\m=d.nodes.length-i/\e 1=.pin (Q8 d)/\e 3=.osl r 1 0 d.nodes.length/\e 72=sl Q7 d.nodes/\e 73=Q3 d.nodes.length/\e 74=Q3 i/\Sim.Sub h h' /\
   h' r=some ⟨.t 4,1,sn.map eBool⟩ /\ ∀ j,j<i->parE d j=0) d.nodes.length ⟨0,by omega,by omega,he1,he3,rfl,rfl,rfl,S,hr',by omega⟩ ?_
  rintro m e h' ⟨i,hi,rfl,he1,he3,he72,he73,he74,S,hr',hp0⟩
  simp -dsimp -implicitDefEqProofs (disch:=omega) only [VCA,↓reduceIte,Q8,he73,he74]
  refine Br.dec (fun hlt=>?_) (fun hge=>?_)
  ·have hi':i<d.nodes.length:=by omega
   have se:=seen_end hS hj hi'
   have bad:parE d i=3->Y9 d=3:=fun h3=>by
    have h2:fe d.nodes.length (parE d)=3:=by rw [KY hi' hp0 (by rw [h3];decide),h3]
    unfold Y9;rw [hk0,if_neg (by simp),h2];rfl
   simp -dsimp -implicitDefEqProofs (disch:=omega) only [↓Q1 82,VCA,Nat.reduceEqDiff,Nat.reduceAdd,Nat.reduceLT,Nat.reduceLeDiff,↓reduceIte,Z8,exists_eq_left',Q7,he72,he74,Q7]
   refine ⟨by omega,fun rx hrx=>?_⟩
   have hne:r≠rx:=fun e=>by subst e;rw [hr'] at hrx;cases hrx
   have S1:=S.upd (x:=some ⟨.t 31,6,[Q7 (nth d.nodes i)]⟩) (S.none hrx)
   have hr1:∀ x,upd h' rx (some x) r=some ⟨.t 4,1,sn.map eBool⟩:=fun x=>by rw [Q4 _ _ hne];exact hr'
   have pdef:parE d i=if (nth d.nodes i).parent ≠ -1/\(¬ inD d (nth d.nodes i).parent\/(i:Int)∉(nd d (nth d.nodes i).parent).kids) then 3 else 0:=rfl
   have ok0:parE d i=0 -> ∀ j,j<i+1->parE d j=0:=fun h0 j hj'=>by
    by_cases hji:j=i
    ·subst hji;exact h0
    ·exact hp0 j (by omega)
   repeat' (first | ((with_reducible refine brC (fun _=>?_) fun _=>?_) <;> try (exfalso;omega)) | (with_reducible refine And.intro ?_ ?_; · omega) | simp -dsimp -implicitDefEqProofs (disch:=omega) only [VCA,Nat.reduceEqDiff,↓reduceIte,exists_eq_right_right,exists_eq_left',Q8,eBool,he1,he3,he72,he73,he74,hne,hr',eBool])
   ·rename_i q1 q
    have hb:=bad (by
     rw [pdef,if_pos]
     refine ⟨q1,?_⟩
     rw [<-Classical.not_and_iff_not_or_not,<-se]
     simpa using q)
    exact ⟨S1,by rw [hb]⟩
   ·rename_i q1 q
    refine ⟨_,by omega,i+1,by omega,rfl,by omega,S1,ok0 ?_⟩
    rw [pdef,if_neg]
    rintro ⟨_,hh⟩
    rw [<-Classical.not_and_iff_not_or_not,<-se] at hh
    simp [hh] at q
   ·rename_i q
    refine ⟨_,by omega,i+1,by omega,rfl,by omega,S1,ok0 ?_⟩
    rw [pdef,if_neg (fun hh=>hh.1 q)]
  ·obtain rfl:i=d.nodes.length:=by omega
   have hp1:fe d.nodes.length (parE d)=0:=ZU hp0
   have e0:nd d 0=nth d.nodes 0:=nd_nat d 0
   have kd:Y9 d=if (nth d.nodes 0).parent ≠ -1 then 3 else 0:=by
    unfold Y9;rw [hk0,if_neg (by simp),hp1,if_neg (by simp),e0]
   repeat' (first | ((with_reducible refine brC (fun _=>?_) fun _=>?_) <;> try (exfalso;omega)) | (with_reducible refine And.intro ?_ ?_; · omega) | simp -dsimp -implicitDefEqProofs (disch:=omega) only [VCA,Nat.reduceEqDiff,Nat.reduceAdd,Nat.reduceLeDiff,↓reduceIte,exists_eq_right_right,Q7,Q8,he1,Q8,Q7])
   ·rename_i q
    rw [kd,if_pos q]
   ·rename_i q
    rw [kd,if_neg (by simpa using q)]
theorem docE_kids (d:HDoc):YU d=if 200<d.nodes.length then 2 else if d.nodes.length=0 then 3 else if fe d.nodes.length (UZ d)≠0 then fe d.nodes.length (UZ d) else if Y9 d≠0 then Y9 d else fe d.nodes.length (UU d):=by
 unfold YU Y9
 by_cases h1:fe d.nodes.length (UT d)≠0
 ·simp [h1]
 ·by_cases h2:fe d.nodes.length (parE d)≠0
  ·simp [h1,h2]
  ·by_cases h3:(nd d 0).parent ≠ -1 <;> simp [h1,h2,h3]
theorem kids_par {d:HDoc} (h:Y9 d=0):∀ n,inD d n->0<=(nd d n).parent->inD d (nd d n).parent:=by
 intro n hn hp
 have h2:fe d.nodes.length (parE d)=0:=by
  unfold Y9 at h
  split at h
  ·contradiction
  ·split at h
   ·contradiction
   ·rename_i hh;simpa using hh
 have:=fe_zero h2 n.toNat hn.nat.1
 unfold parE at this
 simp only at this
 split at this
 ·omega
 ·rename_i hh
  have e:(nth d.nodes n.toNat)=nd d n:=rfl
  rw [e] at hh
  simp only [not_and,not_or,Classical.not_not] at hh
  exact (hh (by omega)).1
def c41:SFun:=⟨.seq (.reg [o 1 (.boxF 24 2 (.t 0)),o 2 (.mv (.c (.int .i64 0)))]) (.seq (.block 0 (.seq (.reg [o 10 (.fldA 0 (.t 1)),o 11 (.ld 1 false (.t 10)),o 12 (.len (.t 11)),o 13 (.bin .gtr (.t 12) (.c (.int .i64 200))),o 9 (.mv (.t 13))]) (.cond (.t 9) (.seq (.reg [o 2 (.mv (.c (.int .i64 2)))]) .ret) (.seq (.reg [o 15 (.fldA 0 (.t 1)),o 16 (.ld 1 false (.t 15)),o 17 (.len (.t 16)),o 18 (.bin .eql (.t 17) (.c (.int .i64 0))),o 14 (.mv (.t 18))]) (.cond (.t 14) (.seq (.reg [o 2 (.mv (.c (.int .i64 3)))]) .ret) .skip))))) (.seq (.seq (.reg [o 19 (.fldA 0 (.t 1)),o 20 (.ld 1 false (.t 19)),o 21 (.len (.t 20)),o 22 (.mv (.c (.int .i64 0)))]) (.block 1 (.loop (.seq (.reg [o 23 (.bin .lss (.t 22) (.t 21))]) (.seq (.cond (.t 23) .skip (.exit 1)) (.seq (.block 2 (.seq (.reg [o 24 (.mv (.t 22)),o 25 (.idxA 6 (.t 20) (.t 22)),o 26 (.ld 6 true (.t 25)),o 4 (.new 31 6 [.int .i64 0,.str [],.emp,.str [],.int .i64 0,.emp]),o 3 (.mv (.t 24)),⟨none,.st 6 (.t 4) (.t 26),none⟩]) (.seq (.seq (.reg [o 27 (.fldA 0 (.t 4)),o 28 (.ld 1 false (.t 27)),o 29 (.bin .eql (.t 28) (.c (.int .i64 1))),o 30 (.mv (.t 3)),o 31 (.bin .eql (.t 30) (.c (.int .i64 0))),o 32 (.eqb true (.t 29) (.t 31))]) (.cond (.t 32) (.seq (.reg [o 2 (.mv (.c (.int .i64 3)))]) .ret) .skip)) (.seq (.reg [o 33 (.ld 6 true (.t 4)),o 34 (.pcall 70 [.t 33]),o 5 (.mv (.t 34))]) (.seq (.reg [o 35 (.mv (.t 5)),o 36 (.bin .neq (.t 35) (.c (.int .i64 0)))]) (.cond (.t 36) (.seq (.reg [o 37 (.mv (.t 5)),o 2 (.mv (.t 37))]) .ret) .skip)))))) (.reg [o 38 (.bin .add (.t 22) (.c (.int .i64 1))),o 22 (.mv (.t 38))]))))))) (.seq (.seq (.reg [o 39 (.ld 2 true (.t 1)),o 40 (.pcall 71 [.t 39]),o 6 (.mv (.t 40))]) (.seq (.reg [o 41 (.mv (.t 6)),o 42 (.bin .neq (.t 41) (.c (.int .i64 0)))]) (.cond (.t 42) (.seq (.reg [o 43 (.mv (.t 6)),o 2 (.mv (.t 43))]) .ret) .skip))) (.seq (.seq (.reg [o 44 (.fldA 0 (.t 1)),o 45 (.ld 1 false (.t 44)),o 46 (.len (.t 45)),o 47 (.mv (.c (.int .i64 0)))]) (.block 3 (.loop (.seq (.reg [o 48 (.bin .lss (.t 47) (.t 46))]) (.seq (.cond (.t 48) .skip (.exit 3)) (.seq (.block 4 (.seq (.reg [o 49 (.mv (.t 47)),o 7 (.mv (.t 49))]) (.seq (.reg [o 50 (.ld 2 true (.t 1)),o 51 (.mv (.t 7)),o 52 (.pcall 72 [.t 50,.t 51]),o 8 (.mv (.t 52))]) (.block 5 (.seq (.reg [o 54 (.mv (.t 8)),o 55 (.fldA 0 (.t 1)),o 56 (.ld 1 false (.t 55)),o 57 (.len (.t 56)),o 58 (.bin .gtr (.t 54) (.t 57)),o 53 (.mv (.t 58))]) (.cond (.t 53) (.seq (.reg [o 2 (.mv (.c (.int .i64 8)))]) .ret) (.seq (.reg [o 60 (.mv (.t 8)),o 61 (.bin .gtr (.t 60) (.c (.int .i64 40))),o 59 (.mv (.t 61))]) (.cond (.t 59) (.seq (.reg [o 2 (.mv (.c (.int .i64 2)))]) .ret) .skip)))))))) (.reg [o 62 (.bin .add (.t 47) (.c (.int .i64 1))),o 47 (.mv (.t 62))]))))))) (.seq (.reg [o 2 (.mv (.c (.int .i64 0)))]) .ret))))),[.tmp 2]⟩
theorem hc41:Y3 Tryz.prog {pure:=[70,71,72]} Tryz.f41=some c41:=by kernel_rfl
theorem check_ok (d:HDoc) (sm:DocSm d):PCalls (Pg G) 41 [.agg (Q8 d)] (Q3 (YU d)):=fun h=>by
 have hl:=sm.len
 rw [docE_kids]
 refine Q0 Tryz.func41 (by kernel_rfl) hc41 (by rw [Tryz.ntmps41];simp) (by rw [Tryz.ntmps41];decide) ?_
 simp -dsimp -implicitDefEqProofs (disch:=omega) only [VCA,Nat.reduceEqDiff,Nat.reduceAdd,Nat.reduceLeDiff,↓reduceIte,ne_eq,Q8,c41,Q8]
 refine Br.dec (fun h1=>?_) (fun h1=>?_)
 ·rw [if_pos (by omega)]
  simp -dsimp -implicitDefEqProofs (disch:=omega) only [VCA,↓reduceIte,exists_eq_right]
  exact Sub.refl _
 ·rw [if_neg (by omega)]
  simp -dsimp -implicitDefEqProofs (disch:=omega) only [VCA,Nat.reduceEqDiff,Nat.reduceAdd,Nat.reduceLeDiff,↓reduceIte]
  refine Br.eq (fun h2=>?_) (fun h2=>?_)
  ·rw [if_pos (by omega)]
   simp -dsimp -implicitDefEqProofs (disch:=omega) only [VCA,↓reduceIte,exists_eq_right]
   exact Sub.refl _
  ·rw [if_neg (by omega)]
   simp -dsimp -implicitDefEqProofs (disch:=omega) only [VCA,Nat.reduceEqDiff,Nat.reduceAdd,Nat.reduceLeDiff,↓reduceIte]
   refine LoopVC.intro (fun m e h'=>∃ i:Nat,i<=d.nodes.length/\m=d.nodes.length-i/\e 1=.pin (Q8 d)/\e 20=sl Q7 d.nodes/\e 21=Q3 d.nodes.length/\e 22=Q3 i/\Sim.Sub h h' /\ ∀ j,j<i->UZ d j=0) d.nodes.length ⟨0,by omega,by omega,rfl,rfl,rfl,rfl,Sub.refl _,by omega⟩ ?_
   rintro m e h' ⟨i,hi,rfl,he1,he20,he21,he22,S,hj⟩
   simp -dsimp -implicitDefEqProofs (disch:=omega) only [VCA,↓reduceIte,Q8,he21,he22]
   refine Br.dec (fun hlt=>?_) (fun hge=>?_)
   ·have hi':i<d.nodes.length:=by omega
    have hO:PCalls (Pg G) 70 [.agg [Q3 (nth d.nodes i).kind,.str (nth d.nodes i).name,sl Y0 (nth d.nodes i).attrs,.str (nth d.nodes i).text,Q3 (nth d.nodes i).parent,sl Z6 (nth d.nodes i).kids]] (Q3 (V8 (nth d.nodes i))):=one_ok' _ (sm.nth i)
    simp -dsimp -implicitDefEqProofs (disch:=omega) only [VCA,Nat.reduceEqDiff,Nat.reduceAdd,Nat.reduceLT,Nat.reduceLeDiff,↓reduceIte,Z8,exists_eq_left',Q7,he20,he22,Q7]
    refine ⟨by omega,fun rx hrx=>?_⟩
    have S1:=S.upd (x:=some ⟨.t 31,6,[Q7 (nth d.nodes i)]⟩) (S.none hrx)
    have hdef:UZ d i=if ¬ ((nth d.nodes i).kind=1↔i=0) then 3 else V8 (nth d.nodes i):=rfl
    have bad:∀ x:Int,x≠0->UZ d i=x->fe d.nodes.length (UZ d)=x:=fun x hx he=>by rw [KY hi' hj (by rw [he];exact hx),he]
    have bq:(((nth d.nodes i).kind==1)==((i:Int)==0))=true↔((nth d.nodes i).kind=1↔i=0):=by
     rw [beq_iff_eq,Bool.eq_iff_iff,beq_iff_eq,beq_iff_eq];omega
    repeat' (first | ((with_reducible refine brC (fun _=>?_) fun _=>?_) <;> try (exfalso;omega)) | (with_reducible apply pcallE.of; · exact hO) | (with_reducible refine And.intro ?_ ?_; · omega) | simp -dsimp -implicitDefEqProofs (disch:=omega) only [VCA,Nat.reduceEqDiff,Nat.reduceAdd,Nat.reduceLT,↓reduceIte,exists_eq_right_right,exists_eq_left',Q8,he1,he20,he21,he22])
    ·rename_i q
     have q:¬ ((nth d.nodes i).kind=1↔i=0):=fun hh=>q (beq_iff_eq.1 (bq.2 hh))
     have:=bad 3 (by decide) (by rw [hdef,if_pos q])
     exact ⟨S1,by rw [this];rfl⟩
    ·rename_i q1 q
     have q1:¬ ¬ ((nth d.nodes i).kind=1↔i=0):=fun hh=>hh (bq.1 (beq_iff_eq.2 q1))
     have:=bad _ q (by rw [hdef,if_neg q1])
     exact ⟨S1,by rw [this,if_pos q]⟩
    ·rename_i q1 q
     have q1:¬ ¬ ((nth d.nodes i).kind=1↔i=0):=fun hh=>hh (bq.1 (beq_iff_eq.2 q1))
     refine ⟨_,by omega,i+1,by omega,rfl,by omega,S1,fun j hj'=>?_⟩
     by_cases hji:j=i
     ·subst hji;rw [hdef,if_neg q1,q]
     ·exact hj j (by omega)
   ·obtain rfl:i=d.nodes.length:=by omega
    rw [if_neg (by rw [ZU hj];simp)]
    have hK:PCalls (Pg G) 71 [.agg [sl Q7 d.nodes,.bool d.quirks]] (Q3 (Y9 d)):=kids_ok d sm (by omega)
    simp -dsimp -implicitDefEqProofs (disch:=omega) only [VCA,Nat.reduceEqDiff,Nat.reduceAdd,↓reduceIte,Q8,he1,Q8]
    refine pcallE.of (hK) ?_;simp -dsimp -implicitDefEqProofs (disch:=omega) only [VCA,↓reduceIte]
    refine Br.ne (fun h3=>?_) (fun h3=>?_)
    ·simp -dsimp -implicitDefEqProofs (disch:=omega) only [VCA,Nat.reduceEqDiff,↓reduceIte,exists_eq_right_right]
     exact ⟨S,by rw [if_pos h3]⟩
    ·rw [if_neg (by simpa using h3)]
     have hP:=kids_par h3
     simp -dsimp -implicitDefEqProofs (disch:=omega) only [VCA,Nat.reduceEqDiff,Nat.reduceAdd,Nat.reduceLeDiff,↓reduceIte,Q8,he1,Q8]
     refine LoopVC.intro (fun m e h'=>∃ i:Nat,i<=d.nodes.length/\m=d.nodes.length-i/\e 1=.pin (Q8 d)/\e 46=Q3 d.nodes.length/\e 47=Q3 i/\Sim.Sub h h' /\ ∀ j,j<i->UU d j=0) d.nodes.length ⟨0,by omega,by omega,he1,rfl,rfl,S,by omega⟩ ?_
     rintro m e h' ⟨i,hi,rfl,he1,he46,he47,S,hj⟩
     simp -dsimp -implicitDefEqProofs (disch:=omega) only [VCA,↓reduceIte,Q8,he46,he47]
     refine Br.dec (fun hlt=>?_) (fun hge=>?_)
     ·have hi':i<d.nodes.length:=by omega
      have hU:PCalls (Pg G) 72 [.agg [sl Q7 d.nodes,.bool d.quirks],Q3 i] (Q3 (up d i)):=up_ok d sm hP i (inD_nat.2 hi')
      have bad:∀ x:Int,x≠0->UU d i=x->fe d.nodes.length (UU d)=x:=fun x hx he=>by rw [KY hi' hj (by rw [he];exact hx),he]
      have ddef:UU d i=if d.nodes.length<up d i then 8 else if 40<up d i then 2 else 0:=rfl
      simp -dsimp -implicitDefEqProofs (disch:=omega) only [VCA,Nat.reduceEqDiff,Nat.reduceAdd,↓reduceIte,Q8,he1,he47,Q8]
      repeat' (first | ((with_reducible refine brC (fun _=>?_) fun _=>?_) <;> try (exfalso;omega)) | (with_reducible apply pcallE.of; · exact hU) | (with_reducible refine And.intro ?_ ?_; · omega) | simp -dsimp -implicitDefEqProofs (disch:=omega) only [VCA,Nat.reduceEqDiff,Nat.reduceAdd,Nat.reduceLeDiff,↓reduceIte,exists_eq_right_right,Q8,he1,he46,he47,Q8])
      ·exact (bad 8 (by decide) (by rw [ddef,if_pos (by omega)])).symm
      ·exact (bad 2 (by decide) (by rw [ddef,if_neg (by omega),if_pos (by omega)])).symm
      ·refine ⟨_,by omega,i+1,by omega,rfl,by omega,S,fun j hj'=>?_⟩
       by_cases hji:j=i
       ·subst hji;rw [ddef,if_neg (by omega),if_neg (by omega)]
       ·exact hj j (by omega)
     ·obtain rfl:i=d.nodes.length:=by omega
      simp -dsimp -implicitDefEqProofs (disch:=omega) only [VCA,↓reduceIte,exists_eq_right_right]
      exact ⟨S,(ZU hj).symm⟩
def c13:SFun:=⟨.seq (.reg [o 6 (.mv (.c (.bool false)))]) (.seq (.reg [o 7 (.mv (.t 0)),o 8 (.mv (.t 1)),o 9 (.bin .geq (.t 7) (.t 8)),o 10 (.mv (.t 9)),⟨some 11,.mv (.t 0),some (10,true)⟩,⟨some 12,.mv (.t 2),some (10,true)⟩,⟨some 13,.bin .leq (.t 11) (.t 12),some (10,true)⟩,o 14 (.pick (.t 10) (.t 13) (.c (.bool false))),o 6 (.mv (.t 14))]) .ret),[.tmp 6]⟩
theorem hc13:Y3 Tryz.prog {} Tryz.f13=some c13:=by kernel_rfl
theorem between_ok (n a b:Int):PCalls (Pg G) 13 [Q3 n,Q3 a,Q3 b] (.bool (decide (a<=n)&&decide (n<=b))):=fun h=>by
 refine Q0 Tryz.func13 (by kernel_rfl) hc13 (by rw [Tryz.ntmps13];simp) (by rw [Tryz.ntmps13];decide) ?_
 by_cases h1:a<=n <;> by_cases h2:n<=b <;> (
  simp -dsimp -implicitDefEqProofs (disch:=omega) only [↓Q1 10,VCA,Nat.reduceEqDiff,↓reduceIte,reduceCtorEq,exists_eq_right,c13,h1,h2,decide_true,decide_false,Bool.true_and,Bool.false_and]
  exact Sub.refl _)
theorem betw_ok (n a b:Int):PCalls (Pg G) 13 [Q3 n,Q3 a,Q3 b] (.bool (decide (a<=n)&&decide (n<=b))):=between_ok n a b
def c14:SFun:=⟨.seq (.reg [o 4 (.mv (.c (.int .i64 0)))]) (.seq (.seq (.reg [o 5 (.mv (.c (.int .i64 0)))]) (.block 0 (.loop (.seq (.seq (.reg [o 6 (.mv (.t 5)),o 7 (.mv (.t 0)),o 8 (.len (.t 7)),o 9 (.bin .lss (.t 6) (.t 8))]) (.cond (.t 9) .skip (.exit 0))) (.seq (.block 1 (.seq (.reg [o 12 (.mv (.t 0)),o 13 (.mv (.t 5)),o 14 (.idxA 1 (.t 12) (.t 13)),o 15 (.ld 1 false (.t 14)),o 16 (.mv (.t 1)),o 17 (.bin .eql (.t 15) (.t 16))]) (.cond (.t 17) (.seq (.reg [o 18 (.mv (.t 5)),o 4 (.mv (.t 18))]) .ret) .skip))) (.reg [o 10 (.mv (.t 5)),o 11 (.bin .add (.t 10) (.c (.int .i64 1))),o 5 (.mv (.t 11))])))))) (.seq (.reg [o 4 (.mv (.c (.int .i64 (-1))))]) .ret)),[.tmp 4]⟩
theorem hc14:Y3 Tryz.prog {} Tryz.f14=some c14:=by kernel_rfl
theorem placeIn_ok (l:List Int) (n:Int) (hl:l.length<=1073741824):PCalls (Pg G) 14 [sl Z6 l,Q3 n] (Q3 (U8 (· == n) l)):=fun h=>by
 refine Q0 Tryz.func14 (by kernel_rfl) hc14 (by rw [Tryz.ntmps14];simp) (by rw [Tryz.ntmps14];decide) ?_
 simp -dsimp -implicitDefEqProofs (disch:=omega) only [VCA,c14]
 refine LoopVC.intro (fun m e h'=>∃ k:Nat,k<=l.length/\m=l.length-k/\e 0=sl Z6 l/\e 1=Q3 n/\e 5=Q3 k/\h'=h /\ ∀ j,j<k->(nth l j==n)=false) l.length ⟨0,by omega,by omega,rfl,rfl,rfl,rfl,by omega⟩ ?_
 rintro m e h' ⟨k,hk,rfl,he0,he1,he5,rfl,hj⟩
 simp -dsimp -implicitDefEqProofs (disch:=omega) only [VCA,Nat.reduceEqDiff,↓reduceIte,reduceCtorEq,he0,he5]
 repeat' (first | ((with_reducible refine brC (fun _=>?_) fun _=>?_) <;> try (exfalso;omega)) | (with_reducible refine And.intro ?_ ?_; · omega) | simp -dsimp -implicitDefEqProofs (disch:=omega) only [VCA,Nat.reduceEqDiff,↓reduceIte,reduceCtorEq,exists_eq_right_right,Z6,he0,he1,he5])
 ·rename_i h1 h2
  exact ⟨Sub.refl _,(VV (by omega) hj (by simpa using h2)).symm⟩
 ·rename_i h1 h2
  refine ⟨_,by omega,k+1,by omega,rfl,by omega,fun j hj'=>?_⟩
  by_cases hjk:j=k
  ·subst hjk;simpa using h2
  ·exact hj j (by omega)
 ·rename_i h1
  exact ⟨Sub.refl _,(VU (fun j hj'=>hj j (by omega))).symm⟩
theorem idx_mem (l:List Int) (n:Int):0<=U8 (· == n) l↔n∈l:=by
 have:=idxM_any (· == n) l
 rw [<-decide_eq_true_iff (p:=0<=U8 (· == n) l),this,List.any_eq_true]
 simp
def c38:SFun:=⟨.seq (.reg [o 4 (.mv (.c (.str []))),o 5 (.mv (.c (.bool false)))]) (.seq (.seq (.reg [o 6 (.mv (.c (.int .i64 0)))]) (.block 0 (.loop (.seq (.seq (.reg [o 7 (.mv (.t 6)),o 8 (.mv (.t 0)),o 9 (.len (.t 8)),o 10 (.bin .lss (.t 7) (.t 9))]) (.cond (.t 10) .skip (.exit 0))) (.seq (.block 1 (.seq (.reg [o 13 (.mv (.t 0)),o 14 (.mv (.t 6)),o 15 (.idxA 2 (.t 13) (.t 14)),o 16 (.fldA 0 (.t 15)),o 17 (.ld 1 false (.t 16)),o 18 (.mv (.t 1)),o 19 (.bin .eql (.t 17) (.t 18))]) (.cond (.t 19) (.seq (.reg [o 20 (.mv (.t 0)),o 21 (.mv (.t 6)),o 22 (.idxA 2 (.t 20) (.t 21)),o 23 (.fldA 1 (.t 22)),o 24 (.ld 1 false (.t 23)),o 4 (.mv (.t 24)),o 5 (.mv (.c (.bool true)))]) .ret) .skip))) (.reg [o 11 (.mv (.t 6)),o 12 (.bin .add (.t 11) (.c (.int .i64 1))),o 6 (.mv (.t 12))])))))) (.seq (.reg [o 4 (.mv (.c (.str []))),o 5 (.mv (.c (.bool false)))]) .ret)),[.tmp 4,.tmp 5]⟩
theorem hc38:Y3 Tryz.prog {} Tryz.f38=some c38:=by kernel_rfl
def VW (l:List HAttr) (name:List UInt8):List UInt8×Bool:=if 0<=J9 l name then ((nth l (J9 l name).toNat).value,true) else ([],false)
theorem attrOf_ok (l:List HAttr) (name:List UInt8) (hl:l.length<=1073741824):PCalls (Pg G) 38 [sl Y0 l,.str name] (.tup [.str (VW l name).1,.bool (VW l name).2]):=fun h=>by
 refine Q0 Tryz.func38 (by kernel_rfl) hc38 (by rw [Tryz.ntmps38];simp) (by rw [Tryz.ntmps38];decide) ?_
 simp -dsimp -implicitDefEqProofs (disch:=omega) only [VCA,c38]
 refine LoopVC.intro (fun m e h'=>∃ k:Nat,k<=l.length/\m=l.length-k/\e 0=sl Y0 l/\e 1=.str name/\e 6=Q3 k/\h'=h /\ ∀ j,j<k->((nth l j).name==name)=false) l.length ⟨0,by omega,by omega,rfl,rfl,rfl,rfl,by omega⟩ ?_
 rintro m e h' ⟨k,hk,rfl,he0,he1,he6,rfl,hj⟩
 simp -dsimp -implicitDefEqProofs (disch:=omega) only [VCA,Nat.reduceEqDiff,↓reduceIte,reduceCtorEq,he0,he6]
 repeat' (first | ((with_reducible refine brC (fun _=>?_) fun _=>?_) <;> try (exfalso;omega)) | (with_reducible refine And.intro ?_ ?_; · omega) | simp -dsimp -implicitDefEqProofs (disch:=omega) only [VCA,Nat.reduceEqDiff,Nat.reduceAdd,Nat.reduceLeDiff,↓reduceIte,reduceCtorEq,exists_eq_right_right,Y0,he0,he1,he6,Y0])
 ·rename_i h1 h2
  have e1:J9 l name=k:=VV (by omega) hj (by simpa using h2)
  unfold VW
  rw [e1,if_pos (by omega)]
  exact ⟨Sub.refl _,rfl⟩
 ·rename_i h1 h2
  refine ⟨_,by omega,k+1,by omega,rfl,by omega,fun j hj'=>?_⟩
  by_cases hjk:j=k
  ·subst hjk;simpa using h2
  ·exact hj j (by omega)
 ·rename_i h1
  have e1:J9 l name = -1:=VU (fun j hj'=>hj j (by omega))
  unfold VW
  rw [e1,if_neg (by omega)]
  exact ⟨Sub.refl _,rfl⟩
theorem attrOf_has (l:List HAttr) (name:List UInt8):(VW l name).2=decide (0<=J9 l name):=by
 unfold VW;split <;> simp_all
def c37:SFun:=⟨.seq (.reg [o 4 (.mv (.c (.bool false)))]) (.seq (.seq (.reg [o 8 (.mv (.t 0)),o 9 (.lenS (.t 8)),o 10 (.bin .lss (.t 9) (.c (.int .i64 1))),o 11 (.mv (.t 10)),⟨some 12,.mv (.t 0),some (11,false)⟩,⟨some 13,.lenS (.t 12),some (11,false)⟩,⟨some 14,.bin .gtr (.t 13) (.c (.int .i64 40)),some (11,false)⟩,o 15 (.pick (.t 11) (.c (.bool true)) (.t 14))]) (.cond (.t 15) (.seq (.reg [o 4 (.mv (.c (.bool false)))]) .ret) .skip)) (.seq (.seq (.reg [o 5 (.mv (.c (.int .i64 0)))]) (.block 0 (.loop (.seq (.seq (.reg [o 16 (.mv (.t 5)),o 17 (.mv (.t 0)),o 18 (.lenS (.t 17)),o 19 (.bin .lss (.t 16) (.t 18))]) (.cond (.t 19) .skip (.exit 0))) (.seq (.block 1 (.seq (.reg [o 22 (.mv (.t 0)),o 23 (.mv (.t 5)),o 24 (.idxS (.t 22) (.t 23)),o 6 (.mv (.t 24))]) (.seq (.reg [o 25 (.mv (.t 6)),o 26 (.bin .geq (.t 25) (.c (.int .u8 97))),o 27 (.mv (.t 26)),⟨some 28,.mv (.t 6),some (27,true)⟩,⟨some 29,.bin .leq (.t 28) (.c (.int .u8 122)),some (27,true)⟩,o 30 (.pick (.t 27) (.t 29) (.c (.bool false))),o 7 (.mv (.t 30))]) (.seq (.seq (.reg [o 31 (.mv (.t 7)),o 32 (.un .not (.t 31)),o 33 (.mv (.t 32)),⟨some 34,.mv (.t 6),some (33,true)⟩,⟨some 35,.bin .geq (.t 34) (.c (.int .u8 48)),some (33,true)⟩,⟨some 36,.mv (.t 35),some (33,true)⟩,⟨some 37,.mv (.t 6),some (36,true)⟩,⟨some 38,.bin .leq (.t 37) (.c (.int .u8 57)),some (36,true)⟩,⟨some 39,.pick (.t 36) (.t 38) (.c (.bool false)),some (33,true)⟩,⟨some 40,.un .not (.t 39),some (33,true)⟩,o 41 (.pick (.t 33) (.t 40) (.c (.bool false))),o 42 (.mv (.t 41)),⟨some 43,.mv (.t 6),some (42,true)⟩,⟨some 44,.bin .neq (.t 43) (.c (.int .u8 45)),some (42,true)⟩,o 45 (.pick (.t 42) (.t 44) (.c (.bool false))),o 46 (.mv (.t 45)),⟨some 47,.mv (.t 6),some (46,true)⟩,⟨some 48,.bin .neq (.t 47) (.c (.int .u8 95)),some (46,true)⟩,o 49 (.pick (.t 46) (.t 48) (.c (.bool false))),o 50 (.mv (.t 49)),⟨some 51,.mv (.t 6),some (50,true)⟩,⟨some 52,.bin .neq (.t 51) (.c (.int .u8 58)),some (50,true)⟩,o 53 (.pick (.t 50) (.t 52) (.c (.bool false)))]) (.cond (.t 53) (.seq (.reg [o 4 (.mv (.c (.bool false)))]) .ret) .skip)) (.seq (.reg [o 54 (.mv (.t 5)),o 55 (.bin .eql (.t 54) (.c (.int .i64 0))),o 56 (.mv (.t 55)),⟨some 57,.mv (.t 7),some (56,true)⟩,⟨some 58,.un .not (.t 57),some (56,true)⟩,o 59 (.pick (.t 56) (.t 58) (.c (.bool false))),o 60 (.mv (.t 59)),⟨some 61,.mv (.t 1),some (60,true)⟩,⟨some 62,.mv (.t 61),some (60,true)⟩,⟨some 63,.mv (.t 6),some (62,false)⟩,⟨some 64,.bin .neq (.t 63) (.c (.int .u8 45)),some (62,false)⟩,⟨some 65,.mv (.t 64),some (62,false)⟩,⟨some 66,.mv (.t 6),some (65,true)⟩,⟨some 67,.bin .neq (.t 66) (.c (.int .u8 95)),some (65,true)⟩,⟨some 68,.pick (.t 65) (.t 67) (.c (.bool false)),some (62,false)⟩,⟨some 69,.pick (.t 62) (.c (.bool true)) (.t 68),some (60,true)⟩,o 70 (.pick (.t 60) (.t 69) (.c (.bool false)))]) (.cond (.t 70) (.seq (.reg [o 4 (.mv (.c (.bool false)))]) .ret) .skip)))))) (.reg [o 20 (.mv (.t 5)),o 21 (.bin .add (.t 20) (.c (.int .i64 1))),o 5 (.mv (.t 21))])))))) (.seq (.reg [o 4 (.mv (.c (.bool true)))]) .ret))),[.tmp 4]⟩
theorem hc37:Y3 Tryz.prog {} Tryz.f37=some c37:=by kernel_rfl
theorem domName_ok (s:List UInt8) (el:Bool) (hs:s.length<=1073741824):PCalls (Pg G) 37 [.str s,.bool el] (.bool (K4 el s)):=fun h=>by
 refine Q0 Tryz.func37 (by kernel_rfl) hc37 (by rw [Tryz.ntmps37];simp) (by rw [Tryz.ntmps37];decide) ?_
 simp -dsimp -implicitDefEqProofs (disch:=omega) only [↓Q1 11,VCA,↓reduceIte,reduceCtorEq,c37]
 have nd':K4 el s=decide (1<=s.length/\s.length<=40/\firstB el (s.getD 0 0)=true/\s.all signB=true):=by
  unfold K4;rw [Bool.eq_iff_iff];simp
 refine Br.dec (fun h1=>?_) (fun h1=>?_)
 ·simp -dsimp -implicitDefEqProofs (disch:=omega) only [VCA,Nat.reduceEqDiff,↓reduceIte,exists_eq_right_right]
  exact ⟨Sub.refl _,by rw [nd'];symm;rw [decide_eq_false_iff_not];omega⟩
 ·simp -dsimp -implicitDefEqProofs (disch:=omega) only [VCA,Nat.reduceEqDiff,↓reduceIte,reduceCtorEq]
  refine Br.dec (fun h2=>?_) (fun h2=>?_)
  ·simp -dsimp -implicitDefEqProofs (disch:=omega) only [VCA,↓reduceIte,exists_eq_right_right]
   exact ⟨Sub.refl _,by rw [nd'];symm;rw [decide_eq_false_iff_not];omega⟩
  ·simp -dsimp -implicitDefEqProofs (disch:=omega) only [VCA]
   refine LoopVC.intro (fun m e h'=>∃ k:Nat,k<=s.length/\m=s.length-k/\e 0=.str s/\e 1=.bool el/\e 5=Q3 k/\h'=h/\(∀ j,j<k->signB (s.getD j 0)=true)/\(0<k->firstB el (s.getD 0 0)=true)) s.length ⟨0,by omega,by omega,rfl,rfl,rfl,rfl,by omega,by omega⟩ ?_
   rintro m e h' ⟨k,hk,rfl,he0,he1,he5,rfl,hj,hf⟩
   simp -dsimp -implicitDefEqProofs (disch:=omega) only [VCA,Nat.reduceEqDiff,↓reduceIte,reduceCtorEq,he0,he5]
   refine Br.dec (fun hlt=>?_) (fun hge=>?_)
   ·have hk':k<s.length:=by omega
    have sg:signB (s.getD k 0)=true↔((97<=((s.getD k 0).toNat:Int)/\((s.getD k 0).toNat:Int)<=122)\/(48<=((s.getD k 0).toNat:Int)/\((s.getD k 0).toNat:Int)<=57)\/((s.getD k 0).toNat:Int)=45\/((s.getD k 0).toNat:Int)=95\/((s.getD k 0).toNat:Int)=58):=by
     generalize s.getD k 0=b
     unfold signB
     have e45:(b=45)↔((b.toNat:Int)=45):=by rw [<-UInt8.toNat_inj];exact (by omega:b.toNat=45↔(b.toNat:Int)=45)
     have e95:(b=95)↔((b.toNat:Int)=95):=by rw [<-UInt8.toNat_inj];exact (by omega:b.toNat=95↔(b.toNat:Int)=95)
     have e58:(b=58)↔((b.toNat:Int)=58):=by rw [<-UInt8.toNat_inj];exact (by omega:b.toNat=58↔(b.toNat:Int)=58)
     simp only [Bool.or_eq_true,Bool.and_eq_true,decide_eq_true_eq,beq_iff_eq,e45,e95,e58]
     omega
    have fs:k=0->(firstB el (s.getD 0 0)=true↔((97<=((s.getD k 0).toNat:Int)/\((s.getD k 0).toNat:Int)<=122)\/(el=false/\(((s.getD k 0).toNat:Int)=45\/((s.getD k 0).toNat:Int)=95)))):=by
     rintro rfl
     generalize s.getD 0 0=b
     unfold firstB
     have e45:(b=45)↔((b.toNat:Int)=45):=by rw [<-UInt8.toNat_inj];exact (by omega:b.toNat=45↔(b.toNat:Int)=45)
     have e95:(b=95)↔((b.toNat:Int)=95):=by rw [<-UInt8.toNat_inj];exact (by omega:b.toNat=95↔(b.toNat:Int)=95)
     simp only [Bool.or_eq_true,Bool.and_eq_true,decide_eq_true_eq,beq_iff_eq,e45,e95,Bool.not_eq_true']
     exact or_congr (by omega) Iff.rfl
    have badS:¬ signB (s.getD k 0)=true->false=K4 el s:=fun hn=>by
     rw [nd'];symm;rw [decide_eq_false_iff_not]
     rintro ⟨_,_,_,hall⟩
     rw [List.all_eq_true] at hall
     refine hn (hall _ ?_)
     rw [List.getD_eq_getElem?_getD,List.getElem?_eq_getElem hk']
     exact List.getElem_mem hk'
    have badF:k=0->¬ firstB el (s.getD 0 0)=true->false=K4 el s:=fun _ hn=>by
     rw [nd'];symm;rw [decide_eq_false_iff_not]
     rintro ⟨_,_,hh,_⟩
     exact hn hh
    have go:signB (s.getD k 0)=true->(k=0->firstB el (s.getD 0 0)=true) -> ∃ m',m'<s.length-k /\ ∃ k1,k1<=s.length/\m'=s.length-k1/\(k:Int)+1=k1/\(∀ j,j<k1->signB (s.getD j 0)=true)/\(0<k1->firstB el (s.getD 0 0)=true):=fun h1 h2=>
     ⟨_,by omega,k+1,by omega,rfl,by omega,fun j hj'=>by
       by_cases hjk:j=k
       ·subst hjk;exact h1
       ·exact hj j (by omega),fun _=>by
       by_cases hk0:k=0
       ·exact h2 hk0
       ·exact hf (by omega)⟩
    clear nd'
    cases el
    ·simp only [true_and] at fs
     simp -dsimp -implicitDefEqProofs (disch:=omega) only [↓Q1 27,VCA,Nat.reduceEqDiff,↓reduceIte,reduceCtorEq,he0,he5]
     repeat' (first | ((with_reducible refine brC (fun _=>?_) fun _=>?_) <;> try (exfalso;omega)) | (with_reducible refine And.intro ?_ ?_; · omega) | simp -dsimp -implicitDefEqProofs (disch:=omega) only [↓Q1 33,↓Q1 36,↓Q1 42,↓Q1 46,↓Q1 50,↓Q1 56,↓Q1 60,↓Q1 62,↓Q1 65,VCA,Nat.reduceEqDiff,↓reduceIte,reduceCtorEq,exists_eq_right_right,he0,he1,he5])
     all_goals first
      | exact ⟨Sub.refl _,badS (by rw [sg];omega)⟩
      | exact ⟨Sub.refl _,badF (by omega) (by rw [fs (by omega)];omega)⟩
      | exact go (by rw [sg];omega) (fun hk0=>by rw [fs hk0];omega)
    ·simp only [Bool.true_eq_false,false_and,or_false] at fs
     simp -dsimp -implicitDefEqProofs (disch:=omega) only [↓Q1 27,VCA,Nat.reduceEqDiff,↓reduceIte,reduceCtorEq,he0,he5]
     repeat' (first | ((with_reducible refine brC (fun _=>?_) fun _=>?_) <;> try (exfalso;omega)) | (with_reducible refine And.intro ?_ ?_; · omega) | simp -dsimp -implicitDefEqProofs (disch:=omega) only [↓Q1 33,↓Q1 36,↓Q1 42,↓Q1 46,↓Q1 50,↓Q1 56,↓Q1 60,↓Q1 62,↓Q1 65,VCA,Nat.reduceEqDiff,↓reduceIte,reduceCtorEq,exists_eq_right_right,he0,he1,he5])
     all_goals first
      | exact ⟨Sub.refl _,badS (by rw [sg];omega)⟩
      | exact ⟨Sub.refl _,badF (by omega) (by rw [fs (by omega)];omega)⟩
      | exact go (by rw [sg];omega) (fun hk0=>by rw [fs hk0];omega)
   ·obtain rfl:k=s.length:=by omega
    simp -dsimp -implicitDefEqProofs (disch:=omega) only [VCA,↓reduceIte,exists_eq_right_right]
    refine ⟨Sub.refl _,?_⟩
    rw [nd'];symm;rw [decide_eq_true_iff]
    refine ⟨by omega,by omega,hf (by omega),List.all_eq_true.2 fun x hx=>?_⟩
    obtain ⟨j,hj',rfl⟩:=List.getElem_of_mem hx
    have:=hj j hj'
    rwa [List.getD_eq_getElem?_getD,List.getElem?_eq_getElem hj'] at this
def c12_s5:SCode:=(.seq (.seq (.reg [o 3 (.mv (.c (.int .i64 0)))]) (.block 0 (.loop (.seq (.seq (.reg [o 73 (.mv (.t 3)),o 74 (.fldA 2 (.t 1)),o 75 (.ld 1 false (.t 74)),o 76 (.len (.t 75)),o 77 (.bin .lss (.t 73) (.t 76))]) (.cond (.t 77) .skip (.exit 0))) (.seq (.block 1 (.seq (.seq (.reg [o 80 (.fldA 2 (.t 1)),o 81 (.ld 1 false (.t 80)),o 82 (.mv (.t 3)),o 83 (.idxA 2 (.t 81) (.t 82)),o 84 (.fldA 0 (.t 83)),o 85 (.ld 1 false (.t 84)),o 86 (.pcall 37 [.t 85,.c (.bool false)]),o 87 (.un .not (.t 86))]) (.cond (.t 87) (.seq (.reg [o 2 (.mv (.c (.int .i64 3)))]) .ret) .skip)) (.seq (.seq (.reg [o 88 (.fldA 2 (.t 1)),o 89 (.ld 1 false (.t 88)),o 90 (.mv (.t 3)),o 91 (.idxA 2 (.t 89) (.t 90)),o 92 (.fldA 1 (.t 91)),o 93 (.ld 1 false (.t 92)),o 94 (.lenS (.t 93)),o 95 (.bin .gtr (.t 94) (.c (.int .i64 400)))]) (.cond (.t 95) (.seq (.reg [o 2 (.mv (.c (.int .i64 2)))]) .ret) .skip)) (.seq (.dreg [(o 97 (.fldA 2 (.t 1)),none),(o 98 (.ld 1 false (.t 97)),none),(o 99 (.mv (.t 3)),none),(o 100 (.slA 2 (.t 98) none (some (.t 99))),none),(o 101 (.fldA 2 (.t 1)),none),(o 102 (.ld 1 false (.t 101)),none),(o 103 (.mv (.t 3)),none),(o 104 (.idxA 2 (.t 102) (.t 103)),none),(o 105 (.fldA 0 (.t 104)),none),(o 106 (.ld 1 false (.t 105)),none),(o 107 (.pcall 38 [.t 100,.t 106]),none),(o 96 (.mv (.t 107)),none),(o 108 (.ext (.t 96) 0),none),(o 109 (.ext (.t 96) 1),none),(o 4 (.mv (.t 108)),none),(o 5 (.mv (.t 109)),none)]) (.seq (.reg [o 110 (.mv (.t 5))]) (.cond (.t 110) (.seq (.reg [o 2 (.mv (.c (.int .i64 3)))]) .ret) .skip)))))) (.reg [o 78 (.mv (.t 3)),o 79 (.bin .add (.t 78) (.c (.int .i64 1))),o 3 (.mv (.t 79))])))))) (.seq (.seq (.reg [o 111 (.fldA 3 (.t 1)),o 112 (.ld 1 false (.t 111)),o 113 (.lenS (.t 112)),o 114 (.bin .gtr (.t 113) (.c (.int .i64 400))),o 115 (.mv (.t 114)),⟨some 116,.fldA 1 (.t 1),some (115,false)⟩,⟨some 117,.ld 1 false (.t 116),some (115,false)⟩,⟨some 118,.lenS (.t 117),some (115,false)⟩,⟨some 119,.bin .gtr (.t 118) (.c (.int .i64 400)),some (115,false)⟩,o 120 (.pick (.t 115) (.c (.bool true)) (.t 119))]) (.cond (.t 120) (.seq (.reg [o 2 (.mv (.c (.int .i64 2)))]) .ret) .skip)) (.seq (.reg [o 2 (.mv (.c (.int .i64 0)))]) .ret)))
def c12_s3:SCode:=(.seq (.seq (.reg [o 60 (.fldA 0 (.t 1)),o 61 (.ld 1 false (.t 60)),o 62 (.bin .eql (.t 61) (.c (.int .i64 2))),o 63 (.mv (.t 62)),⟨some 64,.fldA 1 (.t 1),some (63,true)⟩,⟨some 65,.ld 1 false (.t 64),some (63,true)⟩,⟨some 66,.pcall 37 [.t 65,.c (.bool true)],some (63,true)⟩,⟨some 67,.un .not (.t 66),some (63,true)⟩,o 68 (.pick (.t 63) (.t 67) (.c (.bool false)))]) (.cond (.t 68) (.seq (.reg [o 2 (.mv (.c (.int .i64 3)))]) .ret) .skip)) (.seq (.seq (.reg [o 69 (.fldA 2 (.t 1)),o 70 (.ld 1 false (.t 69)),o 71 (.len (.t 70)),o 72 (.bin .gtr (.t 71) (.c (.int .i64 12)))]) (.cond (.t 72) (.seq (.reg [o 2 (.mv (.c (.int .i64 2)))]) .ret) .skip)) c12_s5))
def c12:SFun:=⟨.seq (.reg [o 1 (.boxF 31 6 (.t 0)),o 2 (.mv (.c (.int .i64 0)))]) (.seq (.seq (.reg [o 6 (.fldA 0 (.t 1)),o 7 (.ld 1 false (.t 6)),o 8 (.pcall 13 [.t 7,.c (.int .i64 1),.c (.int .i64 5)]),o 9 (.un .not (.t 8))]) (.cond (.t 9) (.seq (.reg [o 2 (.mv (.c (.int .i64 7)))]) .ret) .skip)) (.seq (.seq (.reg [o 10 (.fldA 1 (.t 1)),o 11 (.ld 1 false (.t 10)),o 12 (.bin .neq (.t 11) (.c (.str []))),o 13 (.mv (.t 12)),⟨some 14,.fldA 0 (.t 1),some (13,true)⟩,⟨some 15,.ld 1 false (.t 14),some (13,true)⟩,⟨some 16,.bin .neq (.t 15) (.c (.int .i64 2)),some (13,true)⟩,o 17 (.pick (.t 13) (.t 16) (.c (.bool false))),o 18 (.mv (.t 17)),⟨some 19,.fldA 0 (.t 1),some (18,true)⟩,⟨some 20,.ld 1 false (.t 19),some (18,true)⟩,⟨some 21,.bin .neq (.t 20) (.c (.int .i64 5)),some (18,true)⟩,o 22 (.pick (.t 18) (.t 21) (.c (.bool false))),o 23 (.mv (.t 22)),⟨some 24,.fldA 2 (.t 1),some (23,false)⟩,⟨some 25,.ld 1 false (.t 24),some (23,false)⟩,⟨some 26,.len (.t 25),some (23,false)⟩,⟨some 27,.bin .gtr (.t 26) (.c (.int .i64 0)),some (23,false)⟩,⟨some 28,.mv (.t 27),some (23,false)⟩,⟨some 29,.fldA 0 (.t 1),some (28,true)⟩,⟨some 30,.ld 1 false (.t 29),some (28,true)⟩,⟨some 31,.bin .neq (.t 30) (.c (.int .i64 2)),some (28,true)⟩,⟨some 32,.pick (.t 28) (.t 31) (.c (.bool false)),some (23,false)⟩,o 33 (.pick (.t 23) (.c (.bool true)) (.t 32)),o 34 (.mv (.t 33)),⟨some 35,.fldA 3 (.t 1),some (34,false)⟩,⟨some 36,.ld 1 false (.t 35),some (34,false)⟩,⟨some 37,.bin .neq (.t 36) (.c (.str [])),some (34,false)⟩,⟨some 38,.mv (.t 37),some (34,false)⟩,⟨some 39,.fldA 0 (.t 1),some (38,true)⟩,⟨some 40,.ld 1 false (.t 39),some (38,true)⟩,⟨some 41,.bin .neq (.t 40) (.c (.int .i64 3)),some (38,true)⟩,⟨some 42,.pick (.t 38) (.t 41) (.c (.bool false)),some (34,false)⟩,⟨some 43,.mv (.t 42),some (34,false)⟩,⟨some 44,.fldA 0 (.t 1),some (43,true)⟩,⟨some 45,.ld 1 false (.t 44),some (43,true)⟩,⟨some 46,.bin .neq (.t 45) (.c (.int .i64 4)),some (43,true)⟩,⟨some 47,.pick (.t 43) (.t 46) (.c (.bool false)),some (34,false)⟩,o 48 (.pick (.t 34) (.c (.bool true)) (.t 47)),o 49 (.mv (.t 48)),⟨some 50,.fldA 5 (.t 1),some (49,false)⟩,⟨some 51,.ld 1 false (.t 50),some (49,false)⟩,⟨some 52,.len (.t 51),some (49,false)⟩,⟨some 53,.bin .gtr (.t 52) (.c (.int .i64 0)),some (49,false)⟩,⟨some 54,.mv (.t 53),some (49,false)⟩,⟨some 55,.fldA 0 (.t 1),some (54,true)⟩,⟨some 56,.ld 1 false (.t 55),some (54,true)⟩,⟨some 57,.bin .gtr (.t 56) (.c (.int .i64 2)),some (54,true)⟩,⟨some 58,.pick (.t 54) (.t 57) (.c (.bool false)),some (49,false)⟩,o 59 (.pick (.t 49) (.c (.bool true)) (.t 58))]) (.cond (.t 59) (.seq (.reg [o 2 (.mv (.c (.int .i64 7)))]) .ret) .skip)) c12_s3)),[.tmp 2]⟩
theorem hc12:Y3 Tryz.prog {pure:=[13,37,38]} Tryz.f12=some c12:=by kernel_rfl
theorem nodeErr_ok (x:HNode) (hx:NodeSm x):PCalls (Pg G) 12 [.agg (Q7 x)] (Q3 (V8 x)):=fun h=>by
 have ka:=hx.attrs
 have key7:(x.kind<1\/5<x.kind\/XZ x=false)->7=V8 x:=fun hh=>by unfold V8;rw [if_pos hh]
 have rest:¬ (x.kind<1\/5<x.kind\/XZ x=false) -> ∀ e:Env,e 1=.pin (Q7 x)->vc (Pg G) c12_s3 (KU [.tmp 2] fun r h'=>r=Q3 (V8 x)/\h'=h) e h:=by
  intro k3 e he1
  unfold V8
  rw [if_neg k3]
  have nm:=domName_ok (G:=G) x.name true hx.name
  have loop:¬ (x.kind=2/\K4 true x.name=false)->¬ 12<x.attrs.length -> ∀ e:Env,e 1=.pin (Q7 x)->vc (Pg G) c12_s5 (KU [.tmp 2] fun r h'=>r=Q3 (if x.kind=2/\K4 true x.name=false then 3
   else if JW x.attrs≠0 then JW x.attrs else if 400<x.text.length\/400<x.name.length then 2 else 0)/\h'=h) e h:=by
   intro g1 g2 e he1
   have ae:JW x.attrs=fe x.attrs.length (WZ x.attrs):=by unfold JW;rw [if_neg g2]
   rw [if_neg g1,ae]
   unfold c12_s5
   skip
   simp -dsimp -implicitDefEqProofs (disch:=omega) only [VCA,ne_eq]
   refine LoopVC.intro (fun m e h'=>∃ k:Nat,k<=x.attrs.length/\m=x.attrs.length-k/\e 1=.pin (Q7 x)/\e 3=Q3 k/\h'=h /\ ∀ j,j<k->WZ x.attrs j=0) x.attrs.length ⟨0,by omega,by omega,he1,rfl,rfl,by omega⟩ ?_
   rintro m e h' ⟨k,hk,rfl,he1,he3,rfl,hj⟩
   simp -dsimp -implicitDefEqProofs (disch:=omega) only [VCA,Nat.reduceEqDiff,Nat.reduceAdd,Nat.reduceLeDiff,↓reduceIte,Q7,he1,he3,Q7]
   refine Br.dec (fun hlt=>?_) (fun hge=>?_)
   ·have hk':k<x.attrs.length:=by omega
    have bad:∀ y:Int,y≠0->WZ x.attrs k=y->fe x.attrs.length (WZ x.attrs)=y:=fun y hy he=>by rw [KY hk' hj (by rw [he];exact hy),he]
    have adef:WZ x.attrs k=if K4 false (nth x.attrs k).name=false then 3 else if 400<(nth x.attrs k).value.length then 2 else if 0<=J9 (x.attrs.take k) (nth x.attrs k).name then 3 else 0:=rfl
    have e2:x.attrs.take (Int.toNat (k:Int))=x.attrs.take k:=by simp
    have hh:=attrOf_has (x.attrs.take k) (nth x.attrs k).name
    have hA:=attrOf_ok (G:=G) (x.attrs.take k) (nth x.attrs k).name (by simp;omega)
    simp -dsimp -implicitDefEqProofs (disch:=omega) only [VCA,Nat.reduceEqDiff,Nat.reduceAdd,Nat.reduceLeDiff,↓reduceIte,Y0,Q7,he1,he3,Q7]
    repeat' (first | ((with_reducible refine brC (fun _=>?_) fun _=>?_) <;> try (exfalso;omega)) | (with_reducible apply pcallE.of; · exact domName_ok (nth x.attrs k).name false (hx.each _ (Y7 hk')).1) | (with_reducible apply pcallE.of; · exact hA) | (with_reducible refine And.intro ?_ ?_; · omega) | simp -dsimp -implicitDefEqProofs (disch:=omega) only [VCA,Nat.reduceEqDiff,Nat.reduceAdd,Nat.reduceLT,Nat.reduceLeDiff,↓reduceIte,Y8,Z0,exists_eq_right_right,J1,Y0,Q7,he1,he3,Q7,hh])
    ·rename_i q
     have q:K4 false (nth x.attrs k).name=false:=by simpa using q
     have:=bad 3 (by decide) (by rw [adef,if_pos q])
     exact ⟨Sub.refl _,by rw [this];rfl⟩
    ·rename_i q1 q
     have q1:¬ K4 false (nth x.attrs k).name=false:=by simpa using q1
     have:=bad 2 (by decide) (by rw [adef,if_neg q1,if_pos (by omega)])
     exact ⟨Sub.refl _,by rw [this];rfl⟩
    ·rename_i q2 q1 q
     have q2:¬ K4 false (nth x.attrs k).name=false:=by simpa using q2
     have:=bad 3 (by decide) (by rw [adef,if_neg q2,if_neg (by omega),if_pos q])
     exact ⟨Sub.refl _,by rw [this];rfl⟩
    ·rename_i q2 q1 q
     have q2:¬ K4 false (nth x.attrs k).name=false:=by simpa using q2
     refine ⟨_,by omega,k+1,by omega,rfl,by omega,fun j hj'=>?_⟩
     by_cases hjk:j=k
     ·subst hjk;rw [adef,if_neg q2,if_neg (by omega),if_neg q]
     ·exact hj j (by omega)
   ·obtain rfl:k=x.attrs.length:=by omega
    rw [ZU hj,if_neg (by simp)]
    simp -dsimp -implicitDefEqProofs (disch:=omega) only [↓Q1 115,VCA,Nat.reduceEqDiff,Nat.reduceAdd,Nat.reduceLeDiff,↓reduceIte,Q7,he1,Q7]
    repeat' (first | ((with_reducible refine brC (fun _=>?_) fun _=>?_) <;> try (exfalso;omega)) | (with_reducible refine And.intro ?_ ?_; · omega) | simp -dsimp -implicitDefEqProofs (disch:=omega) only [VCA,Nat.reduceEqDiff,Nat.reduceAdd,Nat.reduceLeDiff,↓reduceIte,exists_eq_right_right,Q7,he1,Q7])
    ·exact ⟨Sub.refl _,by rw [if_pos (by omega)]⟩
    ·exact ⟨Sub.refl _,by rw [if_pos (by omega)]⟩
    ·exact ⟨Sub.refl _,by rw [if_neg (by omega)]⟩
  unfold c12_s3
  skip
  simp -dsimp -implicitDefEqProofs (disch:=omega) only [↓Q1 63,VCA,Nat.reduceAdd,Nat.reduceLeDiff,↓reduceIte,ne_eq,Q7,Q7,he1]
  repeat' (first | ((with_reducible refine brC (fun _=>?_) fun _=>?_) <;> try (exfalso;omega)) | (with_reducible apply pcallE.of; · exact nm) | (with_reducible refine And.intro ?_ ?_; · omega) | simp -dsimp -implicitDefEqProofs (disch:=omega) only [VCA,Nat.reduceEqDiff,Nat.reduceAdd,Nat.reduceLeDiff,↓reduceIte,exists_eq_right_right,Q7,Q7,he1])
  ·rename_i q1 q
   exact ⟨Sub.refl _,by rw [if_pos ⟨q1,by simpa using q⟩]⟩
  ·rename_i q2 q1 q
   have ae:JW x.attrs=2:=by unfold JW;rw [if_pos (by omega)]
   exact ⟨Sub.refl _,by rw [if_neg (fun hh=>by simp [hh.2] at q1),ae];rfl⟩
  ·rename_i q2 q1 q
   exact loop (fun hh=>by simp [hh.2] at q1) (by omega) _ he1
  ·rename_i q1 q
   have ae:JW x.attrs=2:=by unfold JW;rw [if_pos (by omega)]
   exact ⟨Sub.refl _,by rw [if_neg (fun hh=>q1 hh.1),ae];rfl⟩
  ·rename_i q1 q
   exact loop (fun hh=>q1 hh.1) (by omega) _ he1
 refine Q0 Tryz.func12 (by kernel_rfl) hc12 (by rw [Tryz.ntmps12];simp) (by rw [Tryz.ntmps12];decide) ?_
 simp -dsimp -implicitDefEqProofs (disch:=omega) only [VCA,Nat.reduceEqDiff,Nat.reduceAdd,Nat.reduceLeDiff,↓reduceIte,Q7,c12,Q7]
 refine pcallE.of (betw_ok x.kind 1 5) ?_;simp -dsimp -implicitDefEqProofs (disch:=omega) only [VCA,↓reduceIte]
 cases hb:(decide (1<=x.kind)&&decide (x.kind<=5))
 ·have:x.kind<1\/5<x.kind:=by
   rw [Bool.and_eq_false_iff,decide_eq_false_iff_not,decide_eq_false_iff_not] at hb;omega
  simp -dsimp -implicitDefEqProofs (disch:=omega) only [VCA,↓reduceIte,exists_eq_right_right]
  exact ⟨Sub.refl _,key7 (by omega)⟩
 ·have hk:1<=x.kind/\x.kind<=5:=by simpa using hb
  simp -dsimp -implicitDefEqProofs (disch:=omega) only [↓Q1 13,VCA,Nat.reduceEqDiff,Nat.reduceAdd,Nat.reduceLeDiff,↓reduceIte]
  repeat' (first | ((with_reducible refine brC (fun _=>?_) fun _=>?_) <;> try (exfalso;omega)) | (with_reducible refine And.intro ?_ ?_; · omega) | simp -dsimp -implicitDefEqProofs (disch:=omega) only [↓Q1 18,↓Q1 23,↓Q1 28,↓Q1 34,↓Q1 38,↓Q1 43,↓Q1 49,↓Q1 54,VCA,Nat.reduceEqDiff,Nat.reduceAdd,Nat.reduceLeDiff,↓reduceIte,exists_eq_right_right])
  all_goals first
   | (refine ⟨Sub.refl _,key7 (.inr (.inr ?_))⟩;clear rest key7 hx;simp_all [XZ,List.length_pos_iff];done)
   | (refine ⟨Sub.refl _,key7 (.inr (.inr ?_))⟩;clear rest key7 hx;simp_all [XZ,List.length_pos_iff];omega)
   | (refine rest ?_ _ rfl;clear rest key7 hx;simp_all [XZ,List.length_pos_iff];done)
   | (refine rest ?_ _ rfl;clear rest key7 hx;simp_all [XZ,List.length_pos_iff];omega)
   | trace_state
structure HRef where
 word:List UInt8
 nodes:List Int
deriving DecidableEq,Inhabited
def X8 (x:HRef):List AVal:=[.str x.word,sl Z6 x.nodes]
instance:LenE X8 2:=⟨fun _=>rfl⟩
def refN (l:List HRef) (w:List UInt8):List Int:=match l.find? (fun x=>x.word==w) with | some x=>x.nodes | none=>[]
theorem refN_some {l:List HRef} {w:List UInt8} {k:Nat} (hk:k<l.length) (h1:∀ j,j<k->(nth l j).word≠w) (h2:(nth l k).word=w):refN l w=(nth l k).nodes:=by
 have:l.find? (fun x=>x.word==w)=some (nth l k):=by
  rw [List.find?_eq_some_iff_getElem]
  refine ⟨by simpa using h2,k,hk,?_,fun j hj=>?_⟩
  ·have:=J5 hk;rw [List.getElem?_eq_getElem hk] at this;exact Option.some.inj this
  ·have hn:l[j]'(by omega)=nth l j:=by have:=J5 (show j<l.length by omega);rw [List.getElem?_eq_getElem (by omega)] at this;exact Option.some.inj this
   rw [hn];simpa using h1 j hj
 unfold refN;rw [this]
theorem refN_none {l:List HRef} {w:List UInt8} (h1:∀ j,j<l.length->(nth l j).word≠w):refN l w=[]:=by
 have:l.find? (fun x=>x.word==w)=none:=by
  rw [List.find?_eq_none]
  intro x hx
  obtain ⟨j,hj,rfl⟩:=QY hx
  simpa using h1 j hj
 unfold refN;rw [this]
structure RefSm (x:HRef):Prop where
 word:x.word.length<=1073741824
 nodes:x.nodes.length<=1073741824
def c63:SFun:=⟨.seq (.reg [o 4 (.mv (.c .emp))]) (.seq (.seq (.reg [o 7 (.mv (.t 0)),o 8 (.len (.t 7)),o 9 (.mv (.c (.int .i64 0)))]) (.block 0 (.loop (.seq (.reg [o 10 (.bin .lss (.t 9) (.t 8))]) (.seq (.cond (.t 10) .skip (.exit 0)) (.seq (.block 1 (.seq (.reg [o 11 (.idxA 2 (.t 7) (.t 9)),o 12 (.ld 2 true (.t 11)),o 6 (.new 87 2 [.str [],.emp]),⟨none,.st 2 (.t 6) (.t 12),none⟩]) (.seq (.reg [o 13 (.fldA 0 (.t 6)),o 14 (.ld 1 false (.t 13)),o 15 (.mv (.t 1)),o 16 (.bin .eql (.t 14) (.t 15))]) (.cond (.t 16) (.seq (.reg [o 17 (.fldA 1 (.t 6)),o 18 (.ld 1 false (.t 17)),o 19 (.pcall 47 [.t 18]),o 4 (.mv (.t 19))]) .ret) .skip)))) (.reg [o 20 (.bin .add (.t 9) (.c (.int .i64 1))),o 9 (.mv (.t 20))]))))))) (.seq (.reg [o 4 (.mv (.c .emp))]) .ret)),[.tmp 4]⟩
theorem hc63:Y3 Tryz.prog {pure:=[47]} Tryz.f63=some c63:=by kernel_rfl
theorem ixNodes_ok (l:List HRef) (w:List UInt8) (hl:l.length<=1073741824) (hs:∀ x∈l,RefSm x) (hw:w.length<=1073741824):PCalls (Pg G) 63 [sl X8 l,.str w] (sl Z6 (refN l w)):=by
 refine PCalls.outV fun h=>?_
 refine Q0 Tryz.func63 (by kernel_rfl) hc63 (by rw [Tryz.ntmps63];simp) (by rw [Tryz.ntmps63];decide) ?_
 simp -dsimp -implicitDefEqProofs (disch:=omega) only [VCA,↓reduceIte,reduceCtorEq,c63]
 refine LoopVC.intro (fun m e h'=>∃ k:Nat,k<=l.length/\m=l.length-k/\e 1=.str w/\e 7=sl X8 l/\e 8=Q3 l.length/\e 9=Q3 k/\Sim.Sub h h' /\ ∀ j,j<k->(nth l j).word≠w) l.length ⟨0,by omega,by omega,rfl,rfl,rfl,rfl,Sub.refl _,fun j hj=>absurd hj (Nat.not_lt_zero j)⟩ ?_
 rintro m e h' ⟨k,hk,rfl,he1,he7,he8,he9,S,hj⟩
 simp -dsimp -implicitDefEqProofs (disch:=omega) only [VCA,↓reduceIte,ne_eq,he8,he9]
 refine Br.dec (fun hlt=>?_) (fun hge=>?_)
 ·have hk':k<l.length:=by omega
  have hsk:=hs _ (Y7 hk')
  have hC:=cloneZ_ok (G:=G) (nth l k).nodes hsk.nodes
  simp -dsimp -implicitDefEqProofs (disch:=omega) only [VCA,Nat.reduceEqDiff,Nat.reduceAdd,Nat.reduceLT,Nat.reduceLeDiff,↓reduceIte,Z8,exists_eq_left',X8,he1,he7,he9,X8]
  refine ⟨by omega,fun r hr=>Br.intro (fun h2=>?_) (fun h2=>?_)⟩
  ·have h2':(nth l k).word=w:=by simpa using h2
   rw [refN_some hk' hj h2']
   repeat' (first | ((with_reducible refine brC (fun _=>?_) fun _=>?_) <;> try (exfalso;omega)) | (with_reducible apply pcallE.of; · exact hC) | (with_reducible refine And.intro ?_ ?_; · omega) | simp -dsimp -implicitDefEqProofs (disch:=omega) only [VCA,Nat.reduceEqDiff,Nat.reduceAdd,Nat.reduceLT,↓reduceIte,exists_eq_left'])
   exact ⟨_,Sub.refl _,S.upd (S.none hr),.one _ _ (.refl _)⟩
  ·have h2':(nth l k).word≠w:=by simpa using h2
   simp -dsimp -implicitDefEqProofs (disch:=omega) only [VCA,Nat.reduceEqDiff,↓reduceIte,he1,he7,he8,he9]
   refine ⟨_,?_,k+1,by omega,rfl,by omega,S.upd (S.none hr),fun j hj'=>?_⟩
   ·omega
   ·by_cases h3:j=k
    ·subst h3;exact h2'
    ·exact hj j (by omega)
 ·obtain rfl:k=l.length:=by omega
  simp -dsimp -implicitDefEqProofs (disch:=omega) only [VCA,↓reduceIte]
  rw [refN_none hj]
  exact ⟨_,Sub.refl _,S,.one _ _ .emp⟩
def c34:SFun:=⟨.seq (.reg [o 4 (.mv (.c (.int .i64 0))),o 5 (.mv (.c (.bool false)))]) (.seq (.reg [o 7 (.mv (.t 0)),o 8 (.mv (.t 1)),o 9 (.pcall 63 [.t 7,.t 8]),o 6 (.mv (.t 9))]) (.seq (.seq (.reg [o 10 (.mv (.t 6)),o 11 (.len (.t 10)),o 12 (.bin .eql (.t 11) (.c (.int .i64 0)))]) (.cond (.t 12) (.seq (.reg [o 4 (.mv (.c (.int .i64 0))),o 5 (.mv (.c (.bool false)))]) .ret) .skip)) (.seq (.reg [o 13 (.mv (.t 6)),o 14 (.idxA 1 (.t 13) (.c (.int .i64 0))),o 15 (.ld 1 false (.t 14)),o 4 (.mv (.t 15)),o 5 (.mv (.c (.bool true)))]) .ret))),[.tmp 4,.tmp 5]⟩
theorem hc34:Y3 Tryz.prog {pure:=[63]} Tryz.f34=some c34:=by kernel_rfl
theorem ixFirst_ok (l:List HRef) (w:List UInt8) (hl:l.length<=1073741824) (hs:∀ x∈l,RefSm x) (hw:w.length<=1073741824):PCalls (Pg G) 34 [sl X8 l,.str w] (.tup [Q3 ((refN l w).headD 0),.bool (decide (refN l w≠[]))]):=by
 intro h
 have hN:=ixNodes_ok (G:=G) l w hl hs hw
 have hn:(refN l w).length<=1073741824:=by
  unfold refN
  split
  ·rename_i x hx;exact (hs x (List.mem_of_find?_eq_some hx)).nodes
  ·simp
 refine Q0 Tryz.func34 (by kernel_rfl) hc34 (by rw [Tryz.ntmps34];simp) (by rw [Tryz.ntmps34];decide) ?_
 simp -dsimp -implicitDefEqProofs (disch:=omega) only [VCA,Nat.reduceEqDiff,↓reduceIte,reduceCtorEq,ne_eq,c34]
 repeat' (first | ((with_reducible refine brC (fun _=>?_) fun _=>?_) <;> try (exfalso;omega)) | (with_reducible apply pcallE.of; · exact hN) | (with_reducible refine And.intro ?_ ?_; · omega) | simp -dsimp -implicitDefEqProofs (disch:=omega) only [VCA,Nat.reduceEqDiff,↓reduceIte,exists_eq_right_right,Z6])
 all_goals rename_i hx;refine ⟨Sub.refl _,?_⟩;generalize refN l w=m at hx;cases m <;> first | (exfalso;simp at hx;omega) | simp_all [nth,Q3]
end Go.Proofs.K
end
section
set_option linter.unusedSimpArgs false
set_option linter.unusedVariables false
namespace Go.Proofs.YtcfjnldjkaglbaaGreatDoor
open Go Go.Sim Go.Proofs Go.Proofs.K Go.ChangeShapes Go.WideShapes Go.ChangeAt Go.RowKit
variable {H:Type} {enc:TypeId×Value->H} {w:World}
def goodR (k:Nat) (x:HRef):Prop:=x.word.length<=k/\x.nodes.length<=k
theorem mR:Mono goodR:=fun _ _ _ h1 h2=>⟨Nat.le_trans h2.1 h1,Nat.le_trans h2.2 h1⟩
theorem rRef:Rdr enc Tryz.prog w Rows.uptoBulk 87 X8 goodR:=by
 have hB:=bulk H
 have r:=Rdr.struct (eh:=enc) (w:=w) hB Tryz.underlying87 (by kernel_rfl) (.cons (sz:=1) rfl (by kernel_rfl) mStr rStr (.cons (sz:=1) rfl (by kernel_rfl) (fun _ _ _ h1 h2=>⟨Nat.le_trans h2.1 h1,h2.2⟩) rInts (.nil _)))
 exact r.map (fun p=>⟨p.1,p.2.1⟩) (fun _=>rfl) (fun _ _ h=>⟨h.1,h.2.1.1⟩)
def goodRs (k:Nat) (l:List HRef):Prop:=l.length<=k /\ ∀ e∈l,goodR k e
theorem rRefs:Rdr enc Tryz.prog w Rows.uptoBulk 25 (fun l=>[sl X8 l]) goodRs:=
 Rdr.slice (eh:=enc) (w:=w) (bulk H) mR (sz:=2) (enc:=X8) Tryz.underlying25 (by kernel_rfl) (by decide) (fun _=>rfl) (rRef (H:=H))
end Go.Proofs.YtcfjnldjkaglbaaGreatDoor
end
section
set_option linter.unusedSimpArgs false
set_option linter.unusedVariables false
namespace Go.Proofs.K
open Go Go.Sim Go.Proofs
variable {G:YZ}
def deepM (d:HDoc) (n:Int):Int:=if d.nodes.length<up d n then -1 else up d n
def c15:SFun:=⟨.seq (.reg [o 2 (.boxF 24 2 (.t 0)),o 4 (.mv (.c (.int .i64 0)))]) (.seq (.reg [o 5 (.mv (.c (.int .i64 0)))]) (.seq (.block 0 (.loop (.seq (.seq (.reg [o 6 (.fldA 0 (.t 2)),o 7 (.ld 1 false (.t 6)),o 8 (.mv (.t 1)),o 9 (.idxA 6 (.t 7) (.t 8)),o 10 (.fldA 4 (.t 9)),o 11 (.ld 1 false (.t 10)),o 12 (.bin .geq (.t 11) (.c (.int .i64 0)))]) (.cond (.t 12) .skip (.exit 0))) (.block 1 (.seq (.reg [o 13 (.fldA 0 (.t 2)),o 14 (.ld 1 false (.t 13)),o 15 (.mv (.t 1)),o 16 (.idxA 6 (.t 14) (.t 15)),o 17 (.fldA 4 (.t 16)),o 18 (.ld 1 false (.t 17)),o 1 (.mv (.t 18))]) (.seq (.reg [o 19 (.mv (.t 5)),o 20 (.bin .add (.t 19) (.c (.int .i64 1))),o 5 (.mv (.t 20))]) (.seq (.reg [o 21 (.mv (.t 5)),o 22 (.fldA 0 (.t 2)),o 23 (.ld 1 false (.t 22)),o 24 (.len (.t 23)),o 25 (.bin .gtr (.t 21) (.t 24))]) (.cond (.t 25) (.seq (.reg [o 4 (.mv (.c (.int .i64 (-1))))]) .ret) .skip)))))))) (.seq (.reg [o 26 (.mv (.t 5)),o 4 (.mv (.t 26))]) .ret))),[.tmp 4]⟩
theorem hc15:Y3 Tryz.prog {} Tryz.f15=some c15:=by kernel_rfl
theorem deep_ok (d:HDoc) (sm:DocSm d) (hP:∀ n,inD d n->0<=(nd d n).parent->inD d (nd d n).parent) (n:Int) (hn:inD d n):PCalls (Pg G) 15 [.agg (Q8 d),Q3 n] (Q3 (deepM d n)):=fun h=>by
 have hl:=sm.len
 refine Q0 Tryz.func15 (by kernel_rfl) hc15 (by rw [Tryz.ntmps15];simp) (by rw [Tryz.ntmps15];decide) ?_
 simp -dsimp -implicitDefEqProofs (disch:=omega) only [VCA,Nat.reduceAdd,Q8,c15,Q8]
 refine LoopVC.intro (fun m e h'=>∃ (c:Int) (k:Nat),k<=d.nodes.length/\m=d.nodes.length+1-k/\inD d c/\e 1=Q3 c/\e 2=.pin (Q8 d)/\e 5=Q3 k/\h'=h/\k+upF (d.nodes.length+1-k) d c=up d n) (d.nodes.length+1) ⟨n,0,by omega,rfl,hn,rfl,rfl,rfl,rfl,by simp [up]⟩ ?_
 rintro m e h' ⟨c,k,hk,rfl,hc,he1,he2,he5,rfl,hu⟩
 have hc0:=hc.1
 have hc1:=hc.2
 simp -dsimp -implicitDefEqProofs (disch:=omega) only [VCA,Nat.reduceEqDiff,Nat.reduceAdd,Nat.reduceLeDiff,↓reduceIte,Q7,Q8,he1,he2,Q8]
 refine ⟨by omega,?_⟩
 have e0:nth d.nodes c.toNat=nd d c:=rfl
 rw [e0]
 refine Br.dec (fun h1=>?_) (fun h1=>?_)
 ·obtain ⟨f,hf⟩:∃ f,d.nodes.length+1-k=f+1:=⟨d.nodes.length-k,by omega⟩
  rw [hf,upF,if_pos h1] at hu
  simp -dsimp -implicitDefEqProofs (disch:=omega) only [VCA,Nat.reduceEqDiff,Nat.reduceAdd,Nat.reduceLeDiff,↓reduceIte,Q7,Q8,he1,he2,he5,Q8]
  rw [e0]
  refine ⟨by omega,?_⟩
  refine Br.dec (fun h2=>?_) (fun h2=>?_)
  ·simp -dsimp -implicitDefEqProofs (disch:=omega) only [VCA,↓reduceIte,exists_eq_right_right]
   have:d.nodes.length<up d n:=by omega
   exact ⟨Sub.refl _,by unfold deepM;rw [if_pos this]⟩
  ·simp -dsimp -implicitDefEqProofs (disch:=omega) only [VCA,Nat.reduceEqDiff,↓reduceIte,Q8,he2]
   refine ⟨_,?_,(nd d c).parent,k+1,by omega,rfl,hP c hc h1,rfl,by omega,?_⟩
   ·omega
   ·have e2:d.nodes.length+1-(k+1)=f:=by omega
    rw [e2];omega
 ·simp -dsimp -implicitDefEqProofs (disch:=omega) only [VCA,Nat.reduceEqDiff,↓reduceIte,exists_eq_right_right,he5]
  rw [upF_top h1] at hu
  exact ⟨Sub.refl _,by unfold deepM;rw [if_neg (by omega)];omega⟩
def c5_s7:SCode:=(.seq (.seq (.reg [o 153 (.fldA 0 (.t 1)),o 154 (.ld 1 false (.t 153)),o 155 (.idxA 6 (.t 154) (.c (.int .i64 0))),o 156 (.fldA 4 (.t 155)),o 157 (.ld 1 false (.t 156)),o 158 (.bin .neq (.t 157) (.c (.int .i64 (-1))))]) (.cond (.t 158) (.seq (.reg [o 2 (.mv (.c (.int .i64 3)))]) .ret) .skip)) (.seq (.seq (.reg [o 11 (.mv (.c (.int .i64 0)))]) (.block 8 (.loop (.seq (.seq (.reg [o 159 (.mv (.t 11)),o 160 (.mv (.t 3)),o 161 (.bin .lss (.t 159) (.t 160))]) (.cond (.t 161) .skip (.exit 8))) (.seq (.block 9 (.seq (.reg [o 164 (.ld 2 true (.t 1)),o 165 (.mv (.t 11)),o 166 (.pcall 15 [.t 164,.t 165]),o 12 (.mv (.t 166))]) (.seq (.seq (.reg [o 167 (.mv (.t 12)),o 168 (.bin .lss (.t 167) (.c (.int .i64 0)))]) (.cond (.t 168) (.seq (.reg [o 2 (.mv (.c (.int .i64 8)))]) .ret) .skip)) (.seq (.reg [o 169 (.mv (.t 12)),o 170 (.bin .gtr (.t 169) (.c (.int .i64 40)))]) (.cond (.t 170) (.seq (.reg [o 2 (.mv (.c (.int .i64 2)))]) .ret) .skip))))) (.reg [o 162 (.mv (.t 11)),o 163 (.bin .add (.t 162) (.c (.int .i64 1))),o 11 (.mv (.t 163))])))))) (.seq (.reg [o 2 (.mv (.c (.int .i64 0)))]) .ret)))
def c5_s6:SCode:=(.seq (.seq (.reg [o 9 (.mv (.c (.int .i64 0)))]) (.block 6 (.loop (.seq (.seq (.reg [o 122 (.mv (.t 9)),o 123 (.mv (.t 3)),o 124 (.bin .lss (.t 122) (.t 123))]) (.cond (.t 124) .skip (.exit 6))) (.seq (.block 7 (.seq (.reg [o 127 (.fldA 0 (.t 1)),o 128 (.ld 1 false (.t 127)),o 129 (.mv (.t 9)),o 130 (.idxA 6 (.t 128) (.t 129)),o 131 (.fldA 4 (.t 130)),o 132 (.ld 1 false (.t 131)),o 10 (.mv (.t 132))]) (.seq (.reg [o 133 (.mv (.t 10)),o 134 (.bin .neq (.t 133) (.c (.int .i64 (-1)))),o 135 (.mv (.t 134)),⟨some 136,.mv (.t 10),some (135,true)⟩,⟨some 137,.mv (.t 3),some (135,true)⟩,⟨some 138,.bin .sub (.t 137) (.c (.int .i64 1)),some (135,true)⟩,⟨some 139,.pcall 13 [.t 136,.c (.int .i64 0),.t 138],some (135,true)⟩,⟨some 140,.un .not (.t 139),some (135,true)⟩,⟨some 141,.mv (.t 140),some (135,true)⟩,⟨some 142,.fldA 0 (.t 1),some (141,false)⟩,⟨some 143,.ld 1 false (.t 142),some (141,false)⟩,⟨some 144,.mv (.t 10),some (141,false)⟩,⟨some 145,.idxA 6 (.t 143) (.t 144),some (141,false)⟩,⟨some 146,.fldA 5 (.t 145),some (141,false)⟩,⟨some 147,.ld 1 false (.t 146),some (141,false)⟩,⟨some 148,.mv (.t 9),some (141,false)⟩,⟨some 149,.pcall 14 [.t 147,.t 148],some (141,false)⟩,⟨some 150,.bin .lss (.t 149) (.c (.int .i64 0)),some (141,false)⟩,⟨some 151,.pick (.t 141) (.c (.bool true)) (.t 150),some (135,true)⟩,o 152 (.pick (.t 135) (.t 151) (.c (.bool false)))]) (.cond (.t 152) (.seq (.reg [o 2 (.mv (.c (.int .i64 3)))]) .ret) .skip)))) (.reg [o 125 (.mv (.t 9)),o 126 (.bin .add (.t 125) (.c (.int .i64 1))),o 9 (.mv (.t 126))])))))) c5_s7)
def c5_s5:SCode:=(.seq (.seq (.reg [o 6 (.mv (.c (.int .i64 0)))]) (.block 2 (.loop (.seq (.seq (.reg [o 58 (.mv (.t 6)),o 59 (.mv (.t 3)),o 60 (.bin .lss (.t 58) (.t 59))]) (.cond (.t 60) .skip (.exit 2))) (.seq (.block 3 (.seq (.reg [o 7 (.mv (.c (.int .i64 0)))]) (.block 4 (.loop (.seq (.seq (.reg [o 63 (.mv (.t 7)),o 64 (.fldA 0 (.t 1)),o 65 (.ld 1 false (.t 64)),o 66 (.mv (.t 6)),o 67 (.idxA 6 (.t 65) (.t 66)),o 68 (.fldA 5 (.t 67)),o 69 (.ld 1 false (.t 68)),o 70 (.len (.t 69)),o 71 (.bin .lss (.t 63) (.t 70))]) (.cond (.t 71) .skip (.exit 4))) (.seq (.block 5 (.seq (.reg [o 74 (.fldA 0 (.t 1)),o 75 (.ld 1 false (.t 74)),o 76 (.mv (.t 6)),o 77 (.idxA 6 (.t 75) (.t 76)),o 78 (.fldA 5 (.t 77)),o 79 (.ld 1 false (.t 78)),o 80 (.mv (.t 7)),o 81 (.idxA 1 (.t 79) (.t 80)),o 82 (.ld 1 false (.t 81)),o 8 (.mv (.t 82))]) (.seq (.seq (.reg [o 83 (.mv (.t 8)),o 84 (.mv (.t 3)),o 85 (.bin .sub (.t 84) (.c (.int .i64 1))),o 86 (.pcall 13 [.t 83,.c (.int .i64 0),.t 85]),o 87 (.un .not (.t 86)),o 88 (.mv (.t 87)),⟨some 89,.fldA 0 (.t 1),some (88,false)⟩,⟨some 90,.ld 1 false (.t 89),some (88,false)⟩,⟨some 91,.mv (.t 8),some (88,false)⟩,⟨some 92,.idxA 6 (.t 90) (.t 91),some (88,false)⟩,⟨some 93,.fldA 4 (.t 92),some (88,false)⟩,⟨some 94,.ld 1 false (.t 93),some (88,false)⟩,⟨some 95,.mv (.t 6),some (88,false)⟩,⟨some 96,.bin .neq (.t 94) (.t 95),some (88,false)⟩,o 97 (.pick (.t 88) (.c (.bool true)) (.t 96)),o 98 (.mv (.t 97)),⟨some 99,.fldA 0 (.t 1),some (98,false)⟩,⟨some 100,.ld 1 false (.t 99),some (98,false)⟩,⟨some 101,.mv (.t 6),some (98,false)⟩,⟨some 102,.idxA 6 (.t 100) (.t 101),some (98,false)⟩,⟨some 103,.fldA 5 (.t 102),some (98,false)⟩,⟨some 104,.ld 1 false (.t 103),some (98,false)⟩,⟨some 105,.mv (.t 7),some (98,false)⟩,⟨some 106,.slA 1 (.t 104) none (some (.t 105)),some (98,false)⟩,⟨some 107,.mv (.t 8),some (98,false)⟩,⟨some 108,.pcall 14 [.t 106,.t 107],some (98,false)⟩,⟨some 109,.bin .geq (.t 108) (.c (.int .i64 0)),some (98,false)⟩,o 110 (.pick (.t 98) (.c (.bool true)) (.t 109))]) (.cond (.t 110) (.seq (.reg [o 2 (.mv (.c (.int .i64 3)))]) .ret) .skip)) (.seq (.reg [o 111 (.mv (.t 6)),o 112 (.bin .eql (.t 111) (.c (.int .i64 0))),o 113 (.mv (.t 112)),⟨some 114,.fldA 0 (.t 1),some (113,true)⟩,⟨some 115,.ld 1 false (.t 114),some (113,true)⟩,⟨some 116,.mv (.t 8),some (113,true)⟩,⟨some 117,.idxA 6 (.t 115) (.t 116),some (113,true)⟩,⟨some 118,.fldA 0 (.t 117),some (113,true)⟩,⟨some 119,.ld 1 false (.t 118),some (113,true)⟩,⟨some 120,.bin .eql (.t 119) (.c (.int .i64 3)),some (113,true)⟩,o 121 (.pick (.t 113) (.t 120) (.c (.bool false)))]) (.cond (.t 121) (.seq (.reg [o 2 (.mv (.c (.int .i64 7)))]) .ret) .skip))))) (.reg [o 72 (.mv (.t 7)),o 73 (.bin .add (.t 72) (.c (.int .i64 1))),o 7 (.mv (.t 73))]))))))) (.reg [o 61 (.mv (.t 6)),o 62 (.bin .add (.t 61) (.c (.int .i64 1))),o 6 (.mv (.t 62))])))))) c5_s6)
def c5_s4:SCode:=(.seq (.seq (.reg [o 4 (.mv (.c (.int .i64 0)))]) (.block 0 (.loop (.seq (.seq (.reg [o 20 (.mv (.t 4)),o 21 (.mv (.t 3)),o 22 (.bin .lss (.t 20) (.t 21))]) (.cond (.t 22) .skip (.exit 0))) (.seq (.block 1 (.seq (.seq (.reg [o 25 (.mv (.t 4)),o 26 (.bin .eql (.t 25) (.c (.int .i64 0))),o 27 (.mv (.t 26)),⟨some 28,.fldA 0 (.t 1),some (27,true)⟩,⟨some 29,.ld 1 false (.t 28),some (27,true)⟩,⟨some 30,.mv (.t 4),some (27,true)⟩,⟨some 31,.idxA 6 (.t 29) (.t 30),some (27,true)⟩,⟨some 32,.fldA 0 (.t 31),some (27,true)⟩,⟨some 33,.ld 1 false (.t 32),some (27,true)⟩,⟨some 34,.bin .neq (.t 33) (.c (.int .i64 1)),some (27,true)⟩,o 35 (.pick (.t 27) (.t 34) (.c (.bool false))),o 36 (.mv (.t 35)),⟨some 37,.mv (.t 4),some (36,false)⟩,⟨some 38,.bin .gtr (.t 37) (.c (.int .i64 0)),some (36,false)⟩,⟨some 39,.mv (.t 38),some (36,false)⟩,⟨some 40,.fldA 0 (.t 1),some (39,true)⟩,⟨some 41,.ld 1 false (.t 40),some (39,true)⟩,⟨some 42,.mv (.t 4),some (39,true)⟩,⟨some 43,.idxA 6 (.t 41) (.t 42),some (39,true)⟩,⟨some 44,.fldA 0 (.t 43),some (39,true)⟩,⟨some 45,.ld 1 false (.t 44),some (39,true)⟩,⟨some 46,.bin .eql (.t 45) (.c (.int .i64 1)),some (39,true)⟩,⟨some 47,.pick (.t 39) (.t 46) (.c (.bool false)),some (36,false)⟩,o 48 (.pick (.t 36) (.c (.bool true)) (.t 47))]) (.cond (.t 48) (.seq (.reg [o 2 (.mv (.c (.int .i64 3)))]) .ret) .skip)) (.seq (.reg [o 49 (.fldA 0 (.t 1)),o 50 (.ld 1 false (.t 49)),o 51 (.mv (.t 4)),o 52 (.idxA 6 (.t 50) (.t 51)),o 53 (.ld 6 true (.t 52)),o 54 (.pcall 12 [.t 53]),o 5 (.mv (.t 54))]) (.seq (.reg [o 55 (.mv (.t 5)),o 56 (.bin .neq (.t 55) (.c (.int .i64 0)))]) (.cond (.t 56) (.seq (.reg [o 57 (.mv (.t 5)),o 2 (.mv (.t 57))]) .ret) .skip))))) (.reg [o 23 (.mv (.t 4)),o 24 (.bin .add (.t 23) (.c (.int .i64 1))),o 4 (.mv (.t 24))])))))) c5_s5)
def c5:SFun:=⟨.seq (.reg [o 1 (.boxF 24 2 (.t 0)),o 2 (.mv (.c (.int .i64 0)))]) (.seq (.reg [o 13 (.fldA 0 (.t 1)),o 14 (.ld 1 false (.t 13)),o 15 (.len (.t 14)),o 3 (.mv (.t 15))]) (.seq (.seq (.reg [o 16 (.mv (.t 3)),o 17 (.bin .gtr (.t 16) (.c (.int .i64 200)))]) (.cond (.t 17) (.seq (.reg [o 2 (.mv (.c (.int .i64 2)))]) .ret) .skip)) (.seq (.seq (.reg [o 18 (.mv (.t 3)),o 19 (.bin .eql (.t 18) (.c (.int .i64 0)))]) (.cond (.t 19) (.seq (.reg [o 2 (.mv (.c (.int .i64 3)))]) .ret) .skip)) c5_s4))),[.tmp 2]⟩
theorem hc5:Y3 Tryz.prog {pure:=[13,12,14,15]} Tryz.f5=some c5:=by kernel_rfl
theorem docErr_ok (d:HDoc) (sm:DocSm d):PCalls (Pg G) 5 [.agg (Q8 d)] (Q3 (YU d)):=fun h=>by
 have hl:=sm.len
 have s7:Y9 d=0\/(fe d.nodes.length (UT d)=0/\fe d.nodes.length (parE d)=0)->0<d.nodes.length -> ∀ e:Env,e 1=.pin (Q8 d)->e 3=Q3 d.nodes.length->vc (Pg G) c5_s7 (KU [.tmp 2] fun r h'=>r=Q3 (if Y9 d≠0 then Y9 d else fe d.nodes.length (UU d))/\h'=h) e h:=by
  intro hk hp e he1 he3
  have e0:nth d.nodes 0=nd d 0:=rfl
  unfold c5_s7
  skip
  simp -dsimp -implicitDefEqProofs (disch:=omega) only [VCA,Nat.reduceAdd,Nat.reduceLeDiff,↓reduceIte,ne_eq,Q7,Q8,he1,Q8,Q7]
  rw [e0]
  refine ⟨by omega,Br.ne (fun h1=>?_) (fun h1=>?_)⟩
  ·simp -dsimp -implicitDefEqProofs (disch:=omega) only [VCA,↓reduceIte,exists_eq_right_right]
   have:Y9 d=3:=by
    rcases hk with hk | ⟨k1,k2⟩
    ·unfold Y9 at hk
     split at hk
     ·contradiction
     ·split at hk
      ·contradiction
      ·first | omega | (rw [if_pos h1] at hk;omega)
    ·unfold Y9;rw [if_neg (by rw [k1];simp),if_neg (by rw [k2];simp),if_pos h1]
   exact ⟨Sub.refl _,by rw [this];rfl⟩
  ·have h0:Y9 d=0:=by
    rcases hk with hk | ⟨k1,k2⟩
    ·exact hk
    ·unfold Y9;rw [if_neg (by rw [k1];simp),if_neg (by rw [k2];simp),if_neg (by simpa using h1)]
   rw [h0,if_neg (by simp)]
   have hP:=kids_par h0
   simp -dsimp -implicitDefEqProofs (disch:=omega) only [VCA]
   refine LoopVC.intro (fun m e h'=>∃ i:Nat,i<=d.nodes.length/\m=d.nodes.length-i/\e 1=.pin (Q8 d)/\e 3=Q3 d.nodes.length/\e 11=Q3 i/\h'=h /\ ∀ j,j<i->UU d j=0) d.nodes.length ⟨0,by omega,by omega,he1,he3,rfl,rfl,by omega⟩ ?_
   rintro m e h' ⟨i,hi,rfl,he1,he3,he11,rfl,hj⟩
   simp -dsimp -implicitDefEqProofs (disch:=omega) only [VCA,Nat.reduceEqDiff,↓reduceIte,Q8,he3,he11]
   refine Br.dec (fun hlt=>?_) (fun hge=>?_)
   ·have hi':i<d.nodes.length:=by omega
    have hU:PCalls (Pg G) 15 [.agg [sl Q7 d.nodes,.bool d.quirks],Q3 i] (Q3 (deepM d i)):=deep_ok d sm hP i (inD_nat.2 hi')
    have bad:∀ x:Int,x≠0->UU d i=x->fe d.nodes.length (UU d)=x:=fun x hx he=>by rw [KY hi' hj (by rw [he];exact hx),he]
    have ddef:UU d i=if d.nodes.length<up d i then 8 else if 40<up d i then 2 else 0:=rfl
    have dm:deepM d i=if d.nodes.length<up d i then -1 else (up d i:Int):=rfl
    simp -dsimp -implicitDefEqProofs (disch:=omega) only [VCA,Nat.reduceEqDiff,Nat.reduceAdd,↓reduceIte,Q8,he1,he11,Q8]
    repeat' (first | ((with_reducible refine brC (fun _=>?_) fun _=>?_) <;> try (exfalso;omega)) | (with_reducible apply pcallE.of; · exact hU) | (with_reducible refine And.intro ?_ ?_; · omega) | simp -dsimp -implicitDefEqProofs (disch:=omega) only [VCA,Nat.reduceEqDiff,↓reduceIte,exists_eq_right_right,Q8,he1,he3,he11,Q8])
    ·rename_i q
     have:d.nodes.length<up d i:=by rw [dm] at q;split at q <;> omega
     exact ⟨Sub.refl _,(bad 8 (by decide) (by rw [ddef,if_pos this])).symm⟩
    ·rename_i q1 q
     have:¬ d.nodes.length<up d i:=by rw [dm] at q1;split at q1 <;> omega
     rw [dm,if_neg this] at q
     exact ⟨Sub.refl _,(bad 2 (by decide) (by rw [ddef,if_neg this,if_pos (by omega)])).symm⟩
    ·rename_i q1 q
     have:¬ d.nodes.length<up d i:=by rw [dm] at q1;split at q1 <;> omega
     rw [dm,if_neg this] at q
     refine ⟨_,by omega,i+1,by omega,rfl,by omega,fun j hj'=>?_⟩
     by_cases hji:j=i
     ·subst hji;rw [ddef,if_neg this,if_neg (by omega)]
     ·exact hj j (by omega)
   ·obtain rfl:i=d.nodes.length:=by omega
    simp -dsimp -implicitDefEqProofs (disch:=omega) only [VCA,↓reduceIte,exists_eq_right_right]
    exact ⟨Sub.refl _,(ZU hj).symm⟩
 have s6:fe d.nodes.length (UT d)=0->0<d.nodes.length -> ∀ e:Env,e 1=.pin (Q8 d)->e 3=Q3 d.nodes.length->vc (Pg G) c5_s6 (KU [.tmp 2] fun r h'=>r=Q3 (if Y9 d≠0 then Y9 d else fe d.nodes.length (UU d))/\h'=h) e h:=by
  intro hk hp e he1 he3
  unfold c5_s6
  skip
  simp -dsimp -implicitDefEqProofs (disch:=omega) only [VCA,ne_eq]
  refine LoopVC.intro (fun m e h'=>∃ i:Nat,i<=d.nodes.length/\m=d.nodes.length-i/\e 1=.pin (Q8 d)/\e 3=Q3 d.nodes.length/\e 9=Q3 i/\h'=h /\ ∀ j,j<i->parE d j=0) d.nodes.length ⟨0,by omega,by omega,he1,he3,rfl,rfl,by omega⟩ ?_
  rintro m e h' ⟨i,hi,rfl,he1,he3,he9,rfl,hj⟩
  simp -dsimp -implicitDefEqProofs (disch:=omega) only [VCA,Nat.reduceEqDiff,↓reduceIte,Q8,he3,he9]
  refine Br.dec (fun hlt=>?_) (fun hge=>?_)
  ·have hi':i<d.nodes.length:=by omega
   have pdef:parE d i=if (nth d.nodes i).parent ≠ -1/\(¬ inD d (nth d.nodes i).parent\/(i:Int)∉(nd d (nth d.nodes i).parent).kids) then 3 else 0:=rfl
   have bad:parE d i=3->3=(if Y9 d≠0 then Y9 d else fe d.nodes.length (UU d)):=fun h3=>by
    have h2:fe d.nodes.length (parE d)=3:=by rw [KY hi' hj (by rw [h3];decide),h3]
    have:Y9 d=3:=by unfold Y9;rw [hk,if_neg (by simp),h2];rfl
    rw [this];rfl
   have ok0:parE d i=0 -> ∀ j,j<i+1->parE d j=0:=fun h0 j hj'=>by
    by_cases hji:j=i
    ·subst hji;exact h0
    ·exact hj j (by omega)
   have hB:=betw_ok (G:=G) (nth d.nodes i).parent 0 ((d.nodes.length:Int)-1)
   have inP:inD d (nth d.nodes i).parent↔(decide ((0:Int)<=(nth d.nodes i).parent)&&decide ((nth d.nodes i).parent<=(d.nodes.length:Int)-1))=true:=by
    unfold inD;simp;omega
   have im:=idx_mem (nd d (nth d.nodes i).parent).kids i
   have hPl:=placeIn_ok (G:=G) (nd d (nth d.nodes i).parent).kids i (sm.nd _).kids
   have en:nth d.nodes (nth d.nodes i).parent.toNat=nd d (nth d.nodes i).parent:=rfl
   simp -dsimp -implicitDefEqProofs (disch:=omega) only [↓Q1 135,VCA,Nat.reduceEqDiff,Nat.reduceAdd,Nat.reduceLeDiff,↓reduceIte,Q7,Q8,he1,he9,Q8,Q7]
   refine ⟨by omega,Br.ne (fun h1=>?_) (fun h1=>?_)⟩
   ·simp -dsimp -implicitDefEqProofs (disch:=omega) only [VCA,Nat.reduceEqDiff,↓reduceIte,he3]
    refine pcallE.of (hB) ?_;simp -dsimp -implicitDefEqProofs (disch:=omega) only [↓Q1 141,VCA,Nat.reduceEqDiff,↓reduceIte]
    cases hb:(decide ((0:Int)<=(nth d.nodes i).parent)&&decide ((nth d.nodes i).parent<=(d.nodes.length:Int)-1))
    ·simp -dsimp -implicitDefEqProofs (disch:=omega) only [VCA,Nat.reduceEqDiff,↓reduceIte,exists_eq_right_right]
     exact ⟨Sub.refl _,bad (by rw [pdef,if_pos ⟨h1,.inl (by rw [inP,hb];simp)⟩])⟩
    ·have hin:=inP.2 hb
     have q1:=hin.1
     have q2:=hin.2
     simp -dsimp -implicitDefEqProofs (disch:=omega) only [VCA,Nat.reduceEqDiff,Nat.reduceAdd,Nat.reduceLeDiff,↓reduceIte,Q7,Q8,he1,he9,Q8,Q7]
     refine ⟨by omega,?_⟩
     rw [en]
     refine pcallE.of (hPl) ?_;simp -dsimp -implicitDefEqProofs (disch:=omega) only [VCA,Nat.reduceEqDiff,↓reduceIte]
     refine Br.dec (fun h2=>?_) (fun h2=>?_)
     ·simp -dsimp -implicitDefEqProofs (disch:=omega) only [VCA,↓reduceIte,exists_eq_right_right]
      exact ⟨Sub.refl _,bad (by rw [pdef,if_pos ⟨h1,.inr (fun hm=>by have:=im.2 hm;omega)⟩])⟩
     ·simp -dsimp -implicitDefEqProofs (disch:=omega) only [VCA,Nat.reduceEqDiff,↓reduceIte,Q8,he1,he3,he9]
      refine ⟨_,by omega,i+1,by omega,rfl,by omega,ok0 ?_⟩
      rw [pdef,if_neg]
      rintro ⟨_,hh | hh⟩
      ·exact hh hin
      ·exact hh (im.1 (by omega))
   ·simp -dsimp -implicitDefEqProofs (disch:=omega) only [↓Q1 141,VCA,Nat.reduceEqDiff,↓reduceIte,Q8,he1,he3,he9]
    refine ⟨_,by omega,i+1,by omega,rfl,by omega,ok0 ?_⟩
    rw [pdef,if_neg (fun hh=>hh.1 h1)]
  ·obtain rfl:i=d.nodes.length:=by omega
   simp -dsimp -implicitDefEqProofs (disch:=omega) only [VCA,↓reduceIte]
   exact s7 (.inr ⟨hk,ZU hj⟩) hp _ he1 he3
 have s5:0<d.nodes.length -> ∀ e:Env,e 1=.pin (Q8 d)->e 3=Q3 d.nodes.length->vc (Pg G) c5_s5 (KU [.tmp 2] fun r h'=>r=Q3 (if Y9 d≠0 then Y9 d else fe d.nodes.length (UU d))/\h'=h) e h:=by
  intro hp e he1 he3
  unfold c5_s5
  skip
  simp -dsimp -implicitDefEqProofs (disch:=omega) only [VCA,ne_eq]
  refine LoopVC.intro (fun m e h'=>∃ i:Nat,i<=d.nodes.length/\m=d.nodes.length-i/\e 1=.pin (Q8 d)/\e 3=Q3 d.nodes.length/\e 6=Q3 i/\h'=h /\ ∀ j,j<i->UT d j=0) d.nodes.length ⟨0,by omega,by omega,he1,he3,rfl,rfl,by omega⟩ ?_
  rintro m e h' ⟨i,hi,rfl,he1,he3,he6,rfl,hj⟩
  simp -dsimp -implicitDefEqProofs (disch:=omega) only [VCA,Nat.reduceEqDiff,↓reduceIte,Q8,he3,he6]
  refine Br.dec (fun hlt=>?_) (fun hge=>?_)
  ·have hi':i<d.nodes.length:=by omega
   have kl:=(sm.nth i).kids
   simp -dsimp -implicitDefEqProofs (disch:=omega) only [VCA]
   refine LoopVC.intro (fun m e h2=>∃ k:Nat,k<=(nth d.nodes i).kids.length/\m=(nth d.nodes i).kids.length-k/\e 1=.pin (Q8 d)/\e 3=Q3 d.nodes.length/\e 6=Q3 i/\e 7=Q3 k/\h2=h' /\ ∀ j,j<k->kidE d i j=0) (nth d.nodes i).kids.length ⟨0,by omega,by omega,he1,he3,he6,rfl,rfl,by omega⟩ ?_
   rintro m e h2 ⟨k,hk,rfl,he1,he3,he6,he7,rfl,hk0⟩
   simp -dsimp -implicitDefEqProofs (disch:=omega) only [VCA,Nat.reduceEqDiff,Nat.reduceAdd,Nat.reduceLeDiff,↓reduceIte,Q7,Q8,he1,he6,he7,Q8,Q7]
   refine ⟨by omega,?_⟩
   refine Br.dec (fun hlt=>?_) (fun hge=>?_)
   ·have hk':k<(nth d.nodes i).kids.length:=by omega
    have bad:∀ x:Int,x≠0->kidE d i k=x->x=(if Y9 d≠0 then Y9 d else fe d.nodes.length (UU d)):=fun x hx he=>by
     have h1:UT d i=x:=by unfold UT;rw [KY hk' hk0 (by rw [he];exact hx),he]
     have h2:fe d.nodes.length (UT d)=x:=by rw [KY hi' hj (by rw [h1];exact hx),h1]
     have h3:Y9 d=x:=by unfold Y9;rw [h2,if_pos hx]
     rw [h3,if_pos hx]
    have kdef:kidE d i k=if ¬ inD d (nth (nth d.nodes i).kids k)\/(nd d (nth (nth d.nodes i).kids k)).parent≠i\/nth (nth d.nodes i).kids k∈(nth d.nodes i).kids.take k then 3 else if i=0/\(nd d (nth (nth d.nodes i).kids k)).kind=3 then 7 else 0:=rfl
    have ok0:∀ j,kidE d i k=0->j<k+1->kidE d i j=0:=fun j h0 hj'=>by
     by_cases hjk:j=k
     ·subst hjk;exact h0
     ·exact hk0 j (by omega)
    have hB:=betw_ok (G:=G) (nth (nth d.nodes i).kids k) 0 ((d.nodes.length:Int)-1)
    have inP:inD d (nth (nth d.nodes i).kids k)↔(decide ((0:Int)<=nth (nth d.nodes i).kids k)&&decide (nth (nth d.nodes i).kids k<=(d.nodes.length:Int)-1))=true:=by
     unfold inD;simp;omega
    have im:=idx_mem ((nth d.nodes i).kids.take k) (nth (nth d.nodes i).kids k)
    have e2:(nth d.nodes i).kids.take (Int.toNat (k:Int))=(nth d.nodes i).kids.take k:=by simp
    have hPl:=placeIn_ok (G:=G) ((nth d.nodes i).kids.take k) (nth (nth d.nodes i).kids k) (by simp;omega)
    have en:nth d.nodes (nth (nth d.nodes i).kids k).toNat=nd d (nth (nth d.nodes i).kids k):=rfl
    simp -dsimp -implicitDefEqProofs (disch:=omega) only [VCA,Nat.reduceEqDiff,Nat.reduceAdd,Nat.reduceLeDiff,↓reduceIte,Z6,Q7,Q8,he1,he3,he6,he7,Q8,Q7]
    refine ⟨by omega,by omega,?_⟩
    refine pcallE.of (hB) ?_;simp -dsimp -implicitDefEqProofs (disch:=omega) only [↓Q1 88,VCA,↓reduceIte]
    cases hb:(decide ((0:Int)<=nth (nth d.nodes i).kids k)&&decide (nth (nth d.nodes i).kids k<=(d.nodes.length:Int)-1))
    ·simp -dsimp -implicitDefEqProofs (disch:=omega) only [↓Q1 98,VCA,Nat.reduceEqDiff,↓reduceIte,exists_eq_right_right]
     exact ⟨Sub.refl _,bad 3 (by decide) (by rw [kdef,if_pos (.inl (by rw [inP,hb];simp))])⟩
    ·have hin:=inP.2 hb
     have q1:=hin.1
     have q2:=hin.2
     simp -dsimp -implicitDefEqProofs (disch:=omega) only [↓Q1 98,VCA,Nat.reduceEqDiff,Nat.reduceAdd,Nat.reduceLeDiff,↓reduceIte,Q7,Q8,he1,he6,Q8,Q7]
     refine ⟨by omega,?_⟩
     rw [en]
     refine Br.ne (fun h1=>?_) (fun h1=>?_)
     ·simp -dsimp -implicitDefEqProofs (disch:=omega) only [VCA,Nat.reduceEqDiff,↓reduceIte,exists_eq_right_right]
      exact ⟨Sub.refl _,bad 3 (by decide) (by rw [kdef,if_pos (.inr (.inl h1))])⟩
     ·simp -dsimp -implicitDefEqProofs (disch:=omega) only [VCA,Nat.reduceEqDiff,Nat.reduceAdd,Nat.reduceLeDiff,↓reduceIte,Q7,Q8,he1,he6,he7,Q8,Q7]
      refine ⟨by omega,by omega,?_⟩
      refine pcallE.of (hPl) ?_;simp -dsimp -implicitDefEqProofs (disch:=omega) only [VCA,Nat.reduceEqDiff,↓reduceIte]
      refine Br.dec (fun h2=>?_) (fun h2=>?_)
      ·simp -dsimp -implicitDefEqProofs (disch:=omega) only [VCA,↓reduceIte,exists_eq_right_right]
       exact ⟨Sub.refl _,bad 3 (by decide) (by rw [kdef,if_pos (.inr (.inr (im.1 h2)))])⟩
      ·have hno:¬ (¬ inD d (nth (nth d.nodes i).kids k)\/(nd d (nth (nth d.nodes i).kids k)).parent≠i\/nth (nth d.nodes i).kids k∈(nth d.nodes i).kids.take k):=by
        rintro (hh | hh | hh)
        ·exact hh hin
        ·exact hh h1
        ·exact h2 (im.2 hh)
       have e0:∀ h0:i=0,nth d.nodes (nth (nth d.nodes i).kids k).toNat=nd d (nth (nth d.nodes i).kids k):=fun _=>rfl
       simp -dsimp -implicitDefEqProofs (disch:=omega) only [↓Q1 113,VCA,Nat.reduceEqDiff,↓reduceIte,he6]
       repeat' (first | ((with_reducible refine brC (fun _=>?_) fun _=>?_) <;> try (exfalso;omega)) | (with_reducible refine And.intro ?_ ?_; · omega) | simp -dsimp -implicitDefEqProofs (disch:=omega) only [VCA,Nat.reduceEqDiff,Nat.reduceAdd,Nat.reduceLeDiff,↓reduceIte,exists_eq_right_right,Q7,Q8,he1,he3,he6,he7,Q8,Q7])
       ·rename_i g1 g2
        exact ⟨Sub.refl _,bad 7 (by decide) (by rw [kdef,if_neg hno,if_pos ⟨by omega,g2⟩])⟩
       ·rename_i g1 g2
        exact ⟨_,by omega,k+1,by omega,rfl,by omega,fun j=>ok0 j (by rw [kdef,if_neg hno,if_neg (fun hh=>g2 hh.2)])⟩
       ·rename_i g1
        exact ⟨_,by omega,k+1,by omega,rfl,by omega,fun j=>ok0 j (by rw [kdef,if_neg hno,if_neg (fun hh=>g1 (by omega))])⟩
   ·obtain rfl:k=(nth d.nodes i).kids.length:=by omega
    simp -dsimp -implicitDefEqProofs (disch:=omega) only [VCA,Nat.reduceEqDiff,↓reduceIte,Q8,he1,he3,he6]
    refine ⟨_,by omega,i+1,by omega,rfl,by omega,fun j hj'=>?_⟩
    by_cases hji:j=i
    ·subst hji;exact ZU hk0
    ·exact hj j (by omega)
  ·obtain rfl:i=d.nodes.length:=by omega
   simp -dsimp -implicitDefEqProofs (disch:=omega) only [VCA,↓reduceIte]
   exact s6 (ZU hj) hp _ he1 he3
 have s4:0<d.nodes.length -> ∀ e:Env,e 1=.pin (Q8 d)->e 3=Q3 d.nodes.length->vc (Pg G) c5_s4 (KU [.tmp 2] fun r h'=>r=Q3 (if fe d.nodes.length (UZ d)≠0 then fe d.nodes.length (UZ d) else if Y9 d≠0 then Y9 d else fe d.nodes.length (UU d))/\h'=h) e h:=by
  intro hp e he1 he3
  unfold c5_s4
  skip
  simp -dsimp -implicitDefEqProofs (disch:=omega) only [VCA,ne_eq]
  refine LoopVC.intro (fun m e h'=>∃ i:Nat,i<=d.nodes.length/\m=d.nodes.length-i/\e 1=.pin (Q8 d)/\e 3=Q3 d.nodes.length/\e 4=Q3 i/\h'=h /\ ∀ j,j<i->UZ d j=0) d.nodes.length ⟨0,by omega,by omega,he1,he3,rfl,rfl,by omega⟩ ?_
  rintro m e h' ⟨i,hi,rfl,he1,he3,he4,rfl,hj⟩
  simp -dsimp -implicitDefEqProofs (disch:=omega) only [VCA,Nat.reduceEqDiff,↓reduceIte,Q8,he3,he4]
  refine Br.dec (fun hlt=>?_) (fun hge=>?_)
  ·have hi':i<d.nodes.length:=by omega
   have hdef:UZ d i=if ¬ ((nth d.nodes i).kind=1↔i=0) then 3 else V8 (nth d.nodes i):=rfl
   have bad:∀ x:Int,x≠0->UZ d i=x->x=(if fe d.nodes.length (UZ d)≠0 then fe d.nodes.length (UZ d) else if Y9 d≠0 then Y9 d else fe d.nodes.length (UU d)):=fun x hx he=>by
    have:fe d.nodes.length (UZ d)=x:=by rw [KY hi' hj (by rw [he];exact hx),he]
    rw [this,if_pos hx]
   have ok0:UZ d i=0 -> ∀ j,j<i+1->UZ d j=0:=fun h0 j hj'=>by
    by_cases hji:j=i
    ·subst hji;exact h0
    ·exact hj j (by omega)
   have hO:PCalls (Pg G) 12 [.agg [Q3 (nth d.nodes i).kind,.str (nth d.nodes i).name,sl Y0 (nth d.nodes i).attrs,.str (nth d.nodes i).text,Q3 (nth d.nodes i).parent,sl Z6 (nth d.nodes i).kids]] (Q3 (V8 (nth d.nodes i))):=nodeErr_ok _ (sm.nth i)
   simp -dsimp -implicitDefEqProofs (disch:=omega) only [↓Q1 27,VCA,Nat.reduceEqDiff,↓reduceIte,he4]
   repeat' (first | ((with_reducible refine brC (fun _=>?_) fun _=>?_) <;> try (exfalso;omega)) | (with_reducible apply pcallE.of; · exact hO) | (with_reducible refine And.intro ?_ ?_; · omega) | simp -dsimp -implicitDefEqProofs (disch:=omega) only [↓Q1 36,↓Q1 39,VCA,Nat.reduceEqDiff,Nat.reduceAdd,Nat.reduceLeDiff,↓reduceIte,exists_eq_right_right,Q7,Q8,he1,he3,he4,Q8,Q7])
   all_goals first
    | exact ⟨Sub.refl _,bad 3 (by decide) (by rw [hdef,if_pos (by omega)])⟩
    | (rename_i q;exact ⟨Sub.refl _,bad _ q (by rw [hdef,if_neg (by omega)])⟩)
    | (rename_i q;exact ⟨_,by omega,i+1,by omega,rfl,by omega,ok0 (by rw [hdef,if_neg (by omega),q])⟩)
  ·obtain rfl:i=d.nodes.length:=by omega
   rw [ZU hj,if_neg (by simp)]
   simp -dsimp -implicitDefEqProofs (disch:=omega) only [VCA,↓reduceIte]
   exact s5 hp _ he1 he3
 rw [docE_kids]
 refine Q0 Tryz.func5 (by kernel_rfl) hc5 (by rw [Tryz.ntmps5];simp) (by rw [Tryz.ntmps5];decide) ?_
 simp -dsimp -implicitDefEqProofs (disch:=omega) only [VCA,Nat.reduceEqDiff,Nat.reduceAdd,Nat.reduceLeDiff,↓reduceIte,ne_eq,Q8,c5,Q8]
 refine Br.dec (fun h1=>?_) (fun h1=>?_)
 ·rw [if_pos (by omega)]
  simp -dsimp -implicitDefEqProofs (disch:=omega) only [VCA,↓reduceIte,exists_eq_right]
  exact Sub.refl _
 ·rw [if_neg (by omega)]
  simp -dsimp -implicitDefEqProofs (disch:=omega) only [VCA,Nat.reduceEqDiff,↓reduceIte]
  refine Br.eq (fun h2=>?_) (fun h2=>?_)
  ·rw [if_pos (by omega)]
   simp -dsimp -implicitDefEqProofs (disch:=omega) only [VCA,↓reduceIte,exists_eq_right]
   exact Sub.refl _
  ·rw [if_neg (by omega)]
   simp -dsimp -implicitDefEqProofs (disch:=omega) only [VCA]
   exact s4 (by omega) _ rfl rfl
def c36:SFun:=⟨.seq (.reg [o 2 (.boxF 31 6 (.t 0)),o 3 (.boxF 31 6 (.t 1)),o 4 (.mv (.c (.bool false)))]) (.seq (.reg [o 5 (.fldA 0 (.t 2)),o 6 (.ld 1 false (.t 5)),o 7 (.fldA 0 (.t 3)),o 8 (.ld 1 false (.t 7)),o 9 (.bin .eql (.t 6) (.t 8)),o 10 (.mv (.t 9)),⟨some 11,.fldA 1 (.t 2),some (10,true)⟩,⟨some 12,.ld 1 false (.t 11),some (10,true)⟩,⟨some 13,.fldA 1 (.t 3),some (10,true)⟩,⟨some 14,.ld 1 false (.t 13),some (10,true)⟩,⟨some 15,.bin .eql (.t 12) (.t 14),some (10,true)⟩,o 16 (.pick (.t 10) (.t 15) (.c (.bool false))),o 17 (.mv (.t 16)),⟨some 18,.fldA 3 (.t 2),some (17,true)⟩,⟨some 19,.ld 1 false (.t 18),some (17,true)⟩,⟨some 20,.fldA 3 (.t 3),some (17,true)⟩,⟨some 21,.ld 1 false (.t 20),some (17,true)⟩,⟨some 22,.bin .eql (.t 19) (.t 21),some (17,true)⟩,o 23 (.pick (.t 17) (.t 22) (.c (.bool false))),o 24 (.mv (.t 23)),⟨some 25,.fldA 4 (.t 2),some (24,true)⟩,⟨some 26,.ld 1 false (.t 25),some (24,true)⟩,⟨some 27,.fldA 4 (.t 3),some (24,true)⟩,⟨some 28,.ld 1 false (.t 27),some (24,true)⟩,⟨some 29,.bin .eql (.t 26) (.t 28),some (24,true)⟩,o 30 (.pick (.t 24) (.t 29) (.c (.bool false))),o 31 (.mv (.t 30)),⟨some 32,.fldA 2 (.t 2),some (31,true)⟩,⟨some 33,.ld 1 false (.t 32),some (31,true)⟩,⟨some 34,.fldA 2 (.t 3),some (31,true)⟩,⟨some 35,.ld 1 false (.t 34),some (31,true)⟩,⟨some 36,.pcall 68 [.t 33,.t 35],some (31,true)⟩,o 37 (.pick (.t 31) (.t 36) (.c (.bool false))),o 38 (.mv (.t 37)),⟨some 39,.fldA 5 (.t 2),some (38,true)⟩,⟨some 40,.ld 1 false (.t 39),some (38,true)⟩,⟨some 41,.fldA 5 (.t 3),some (38,true)⟩,⟨some 42,.ld 1 false (.t 41),some (38,true)⟩,⟨some 43,.pcall 61 [.t 40,.t 42],some (38,true)⟩,o 44 (.pick (.t 38) (.t 43) (.c (.bool false))),o 4 (.mv (.t 44))]) .ret),[.tmp 4]⟩
theorem hc36:Y3 Tryz.prog {pure:=[68,61]} Tryz.f36=some c36:=by kernel_rfl
theorem sameNode_ok (x y:HNode) (hx:NodeSm x) (hy:NodeSm y):PCalls (Pg G) 36 [.agg (Q7 x),.agg (Q7 y)] (.bool (x==y)):=fun h=>by
 have key:(x==y)=(x.kind==y.kind&&(x.name==y.name&&(x.text==y.text&&(x.parent==y.parent&&(x.attrs==y.attrs&&x.kids==y.kids))))):=by
  cases x;cases y;rw [Bool.eq_iff_iff];simp;intro _ _;exact ⟨fun ⟨a,b,c,d⟩=>⟨b,c,a,d⟩,fun ⟨a,b,c,d⟩=>⟨c,a,b,d⟩⟩
 refine Q0 Tryz.func36 (by kernel_rfl) hc36 (by rw [Tryz.ntmps36];simp) (by rw [Tryz.ntmps36];decide) ?_
 simp -dsimp -implicitDefEqProofs (disch:=omega) only [↓Q1 10,VCA,Nat.reduceEqDiff,Nat.reduceAdd,Nat.reduceLeDiff,↓reduceIte,Q7,c36,Q7]
 repeat' (first | ((with_reducible refine brC (fun _=>?_) fun _=>?_) <;> try (exfalso;omega)) | (with_reducible apply pcallE.of; · exact sameA_ok x.attrs y.attrs hx.attrs hy.attrs) | (with_reducible apply pcallE.of; · exact sameN_ok x.kids y.kids hx.kids hy.kids) | (with_reducible refine And.intro ?_ ?_; · omega) | simp -dsimp -implicitDefEqProofs (disch:=omega) only [↓Q1 17,↓Q1 24,↓Q1 31,↓Q1 38,VCA,Nat.reduceEqDiff,Nat.reduceAdd,Nat.reduceLeDiff,↓reduceIte,exists_eq_right_right])
 all_goals (refine ⟨Sub.refl _,?_⟩;rw [key];simp_all)
def c11:SFun:=⟨.seq (.reg [o 2 (.boxF 24 2 (.t 0)),o 3 (.boxF 24 2 (.t 1)),o 4 (.mv (.c (.bool false)))]) (.seq (.seq (.reg [o 6 (.fldA 0 (.t 2)),o 7 (.ld 1 false (.t 6)),o 8 (.len (.t 7)),o 9 (.fldA 0 (.t 3)),o 10 (.ld 1 false (.t 9)),o 11 (.len (.t 10)),o 12 (.bin .neq (.t 8) (.t 11)),o 13 (.mv (.t 12)),⟨some 14,.fldA 1 (.t 2),some (13,false)⟩,⟨some 15,.ld 1 false (.t 14),some (13,false)⟩,⟨some 16,.fldA 1 (.t 3),some (13,false)⟩,⟨some 17,.ld 1 false (.t 16),some (13,false)⟩,⟨some 18,.eqb true (.t 15) (.t 17),some (13,false)⟩,o 19 (.pick (.t 13) (.c (.bool true)) (.t 18))]) (.cond (.t 19) (.seq (.reg [o 4 (.mv (.c (.bool false)))]) .ret) .skip)) (.seq (.seq (.reg [o 5 (.mv (.c (.int .i64 0)))]) (.block 0 (.loop (.seq (.seq (.reg [o 20 (.mv (.t 5)),o 21 (.fldA 0 (.t 2)),o 22 (.ld 1 false (.t 21)),o 23 (.len (.t 22)),o 24 (.bin .lss (.t 20) (.t 23))]) (.cond (.t 24) .skip (.exit 0))) (.seq (.block 1 (.seq (.dreg [(o 27 (.fldA 0 (.t 2)),none),(o 28 (.ld 1 false (.t 27)),none),(o 29 (.mv (.t 5)),none),(o 30 (.idxA 6 (.t 28) (.t 29)),none),(o 31 (.ld 6 true (.t 30)),none),(o 32 (.fldA 0 (.t 3)),none),(o 33 (.ld 1 false (.t 32)),none),(o 34 (.mv (.t 5)),none),(o 35 (.idxA 6 (.t 33) (.t 34)),none),(o 36 (.ld 6 true (.t 35)),none),(o 37 (.pcall 36 [.t 31,.t 36]),none),(o 38 (.un .not (.t 37)),none)]) (.cond (.t 38) (.seq (.reg [o 4 (.mv (.c (.bool false)))]) .ret) .skip))) (.reg [o 25 (.mv (.t 5)),o 26 (.bin .add (.t 25) (.c (.int .i64 1))),o 5 (.mv (.t 26))])))))) (.seq (.reg [o 4 (.mv (.c (.bool true)))]) .ret))),[.tmp 4]⟩
theorem hc11:Y3 Tryz.prog {pure:=[36]} Tryz.f11=some c11:=by kernel_rfl
theorem sameDoc_ok (a b:HDoc) (ha:DocSm a) (hb:DocSm b):PCalls (Pg G) 11 [.agg (Q8 a),.agg (Q8 b)] (.bool (a==b)):=fun h=>by
 have l1:=ha.len
 have l2:=hb.len
 refine Q0 Tryz.func11 (by kernel_rfl) hc11 (by rw [Tryz.ntmps11];simp) (by rw [Tryz.ntmps11];decide) ?_
 simp -dsimp -implicitDefEqProofs (disch:=omega) only [↓Q1 13,VCA,Nat.reduceEqDiff,Nat.reduceAdd,Nat.reduceLeDiff,↓reduceIte,Q8,c11,Q8]
 refine Br.ne (fun h1=>?_) (fun h1=>?_)
 ·simp -dsimp -implicitDefEqProofs (disch:=omega) only [VCA,Nat.reduceEqDiff,↓reduceIte,exists_eq_right_right]
  have:¬ a=b:=fun e=>h1 (by rw [e])
  first | exact Sub.refl _ | exact ⟨Sub.refl _,by simp [this]⟩
 ·have h1':a.nodes.length=b.nodes.length:=by omega
  simp -dsimp -implicitDefEqProofs (disch:=omega) only [VCA,Nat.reduceEqDiff,↓reduceIte]
  refine brNeq (fun h2=>?_) (fun h2=>?_)
  ·simp -dsimp -implicitDefEqProofs (disch:=omega) only [VCA,↓reduceIte,exists_eq_right_right]
   have:¬ a=b:=fun e=>h2 (by rw [e])
   first | exact Sub.refl _ | exact ⟨Sub.refl _,by simp [this]⟩
  ·simp -dsimp -implicitDefEqProofs (disch:=omega) only [VCA]
   refine LoopVC.intro (fun m e h'=>∃ k:Nat,k<=a.nodes.length/\m=a.nodes.length-k/\e 2=.pin (Q8 a)/\e 3=.pin (Q8 b)/\e 5=Q3 k/\h'=h /\ ∀ j,j<k->nth a.nodes j=nth b.nodes j) a.nodes.length ⟨0,by omega,by omega,rfl,rfl,rfl,rfl,fun j hj=>absurd hj (Nat.not_lt_zero j)⟩ ?_
   rintro m e h' ⟨k,hk,rfl,he2,he3,he5,rfl,hj⟩
   have hN:PCalls (Pg G) 36 [.agg (Q7 (nth a.nodes k)),.agg (Q7 (nth b.nodes k))] (.bool (nth a.nodes k==nth b.nodes k)):=sameNode_ok _ _ (ha.nth k) (hb.nth k)
   unfold Q7 at hN
   simp -dsimp -implicitDefEqProofs (disch:=omega) only [VCA,Nat.reduceEqDiff,Nat.reduceAdd,Nat.reduceLeDiff,↓reduceIte,Q8,he2,he5,Q8]
   refine Br.dec (fun hlt=>?_) (fun hge=>?_)
   ·simp -dsimp -implicitDefEqProofs (disch:=omega) only [VCA,Nat.reduceEqDiff,Nat.reduceAdd,Nat.reduceLeDiff,↓reduceIte,Y8,Z0,J1,Q7,Q8,he2,he3,he5,Q8,Q7]
    refine ⟨by omega,by omega,?_⟩
    refine pcallE.of (hN) ?_;simp -dsimp -implicitDefEqProofs (disch:=omega) only [VCA,↓reduceIte,Y8,Z0,J1]
    refine brNeq (fun h3=>?_) (fun h3=>?_)
    ·simp -dsimp -implicitDefEqProofs (disch:=omega) only [VCA,↓reduceIte,exists_eq_right_right]
     have:¬ a=b:=fun e=>h3 (by rw [e])
     first | exact Sub.refl _ | exact ⟨Sub.refl _,by simp [this]⟩
    ·simp -dsimp -implicitDefEqProofs (disch:=omega) only [VCA,Nat.reduceEqDiff,↓reduceIte,Q8,he2,he3,he5,Q8]
     refine ⟨_,by omega,k+1,by omega,rfl,by omega,fun j hj'=>?_⟩
     by_cases hjk:j=k
     ·subst hjk;exact h3
     ·exact hj j (by omega)
   ·simp -dsimp -implicitDefEqProofs (disch:=omega) only [VCA,↓reduceIte,exists_eq_right_right]
    have hn:a.nodes=b.nodes:=ext_nth h1' (fun j hj'=>hj j (by omega))
    have:a=b:=by cases a;cases b;simp_all
    first | exact Sub.refl _ | exact ⟨Sub.refl _,by simp [this]⟩
def c4:SFun:=⟨.seq (.reg [o 2 (.box 24 2 (.t 0)),o 4 (.new 24 2 [.emp,.bool false])]) (.seq (.reg [o 5 (.fldA 0 (.t 2)),o 6 (.ld 1 false (.t 5)),o 7 (.fldA 0 (.t 2)),o 8 (.ld 1 false (.t 7)),o 9 (.len (.t 8)),o 10 (.mv (.t 1)),o 11 (.min2 (.t 9) (.t 10)),o 12 (.slA 6 (.t 6) none (some (.t 11))),o 13 (.fldA 0 (.t 2)),⟨none,.st 1 (.t 13) (.t 12),none⟩]) (.seq (.reg [o 14 (.ld 2 true (.t 2)),⟨none,.st 2 (.t 4) (.t 14),none⟩]) .ret)),[.cell 4 2 true]⟩
theorem hc4:Y3 Tryz.prog {how:=[(2,6)]} Tryz.f4=some c4:=by kernel_rfl
theorem hn4 : (Tryz.f4.name == "runtime.NumGoroutine") = false := by kernel_rfl
theorem few_ok (d:HDoc) (n:Nat) (sm:DocSm d):PCalls (Pg G) 4 [.agg (Q8 d),Q3 n] (.agg (Q8 ⟨d.nodes.take n,d.quirks⟩)):=fun h=>by
 have l1:=sm.len
 refine Q0 Tryz.func4 hn4 hc4 (by rw [Tryz.ntmps4];simp) (by rw [Tryz.ntmps4];decide) ?_
 simp -dsimp -implicitDefEqProofs (disch:=omega) only [VCA,↓X6,Nat.reduceEqDiff,Nat.reduceAdd,↓reduceIte,Z8,ne_eq,exists_eq_right_right,exists_eq_left',Q8,c4,Q8]
 intro r hr r1 hr1
 have ne:¬ r=r1:=fun e=>hr1.1 e.symm
 have ne':¬ r1=r:=hr1.1
 have et:d.nodes.take (min (d.nodes.length:Int) n).toNat=d.nodes.take n:=by
  rw [show (min (d.nodes.length:Int) n).toNat=min n d.nodes.length from by omega,List.take_eq_take_iff];omega
 simp -dsimp -implicitDefEqProofs (disch:=omega) only [VCA,Nat.reduceAdd,Nat.reduceLT,Nat.reduceLeDiff,↓reduceIte,exists_eq_left',ne,ne']
 exact ⟨by omega,((((Sub.refl h).upd hr).upd hr1.2).upd hr).upd hr1.2,by rw [et]⟩
theorem DocSm.few {d:HDoc} (sm:DocSm d) (n:Nat):DocSm ⟨d.nodes.take n,d.quirks⟩:=⟨by have:=sm.len;simp;omega,fun x hx=>sm.each x (List.mem_of_mem_take hx)⟩
def c62:SFun:=⟨.seq (.reg [o 3 (.boxF 24 2 (.t 0)),o 6 (.mv (.c (.bool false)))]) (.seq (.block 0 (.loop (.seq (.seq (.reg [o 7 (.mv (.t 1)),o 8 (.mv (.t 2)),o 9 (.bin .neq (.t 7) (.t 8)),o 10 (.mv (.t 9)),⟨some 11,.mv (.t 1),some (10,true)⟩,⟨some 12,.bin .geq (.t 11) (.c (.int .i64 0)),some (10,true)⟩,o 13 (.pick (.t 10) (.t 12) (.c (.bool false)))]) (.cond (.t 13) .skip (.exit 0))) (.block 1 (.reg [o 14 (.fldA 0 (.t 3)),o 15 (.ld 1 false (.t 14)),o 16 (.mv (.t 1)),o 17 (.idxA 6 (.t 15) (.t 16)),o 18 (.fldA 4 (.t 17)),o 19 (.ld 1 false (.t 18)),o 1 (.mv (.t 19))]))))) (.seq (.reg [o 20 (.mv (.t 1)),o 21 (.mv (.t 2)),o 22 (.bin .eql (.t 20) (.t 21)),o 6 (.mv (.t 22))]) .ret)),[.tmp 6]⟩
theorem hc62:Y3 Tryz.prog {} Tryz.f62=some c62:=by kernel_rfl
theorem under_ok (d:HDoc) (V:DV d) (n top:Int) (hn:inD d n) (ht:0<=top):PCalls (Pg G) 62 [.agg (Q8 d),Q3 n,Q3 top] (.bool (decide (top∈X7 d n))):=fun h=>by
 have hl:=V.len
 refine Q0 Tryz.func62 (by kernel_rfl) hc62 (by rw [Tryz.ntmps62];simp) (by rw [Tryz.ntmps62];decide) ?_
 simp -dsimp -implicitDefEqProofs (disch:=omega) only [VCA,Nat.reduceAdd,Q8,c62,Q8]
 refine LoopVC.intro (fun m e h'=>∃ c:Int,m=(if c = -1 then 0 else up d c+1)/\(c = -1\/inD d c)/\e 1=Q3 c/\e 2=Q3 top/\e 3=.pin (Q8 d)/\h'=h/\(c = -1->top∉X7 d n)/\(inD d c->(top∈X7 d n↔top∈X7 d c))) _ ⟨n,rfl,.inr hn,rfl,rfl,rfl,rfl,fun e=>by have:=hn.1;omega,fun _=>Iff.rfl⟩ ?_
 rintro m e h' ⟨c,rfl,hc,he1,he2,he3,rfl,hno,hyes⟩
 simp -dsimp -implicitDefEqProofs (disch:=omega) only [↓Q1 10,VCA,Nat.reduceEqDiff,↓reduceIte,Q8,he1,he2,Q8]
 refine Br.ne (fun h1=>?_) (fun h1=>?_)
 ·simp -dsimp -implicitDefEqProofs (disch:=omega) only [VCA,Nat.reduceEqDiff,↓reduceIte,he1]
  refine Br.dec (fun h2=>?_) (fun h2=>?_)
  ·have hc:inD d c:=hc.resolve_left (by omega)
   have hc0:=hc.1
   have hc1:=hc.2
   have e0:nth d.nodes c.toNat=nd d c:=rfl
   simp -dsimp -implicitDefEqProofs (disch:=omega) only [VCA,Nat.reduceEqDiff,Nat.reduceAdd,Nat.reduceLeDiff,↓reduceIte,Q7,Q8,he1,he2,he3,Q8,Q7]
   rw [e0]
   refine ⟨by omega,_,?_,(nd d c).parent,rfl,?_,rfl,?_,?_⟩
   ·rw [if_neg (show ¬ c = -1 by omega)]
    split
    ·omega
    ·rename_i hp
     have:=V.up_par hc (by have:=V.par c hc;unfold inD at this;omega)
     omega
   ·rcases V.par c hc with h | h
    ·exact .inl h
    ·exact .inr h.1
   ·intro hp
    rw [hyes hc,T9 V (by omega)]
    simp;exact fun e=>h1 e.symm
   ·intro hp
    rw [hyes hc,W8 V hc hp.1]
    simp;exact fun e=>absurd e.symm h1
  ·have hc:c = -1:=hc.resolve_right (fun h=>by have:=h.1;omega)
   simp -dsimp -implicitDefEqProofs (disch:=omega) only [VCA,Nat.reduceEqDiff,↓reduceIte,exists_eq_right_right,he1,he2]
   refine ⟨Sub.refl _,?_⟩
   rw [decide_eq_false (hno hc)]
   simpa using h1
 ·simp -dsimp -implicitDefEqProofs (disch:=omega) only [VCA,Nat.reduceEqDiff,↓reduceIte,exists_eq_right_right,he1,he2]
  have hc:inD d c:=hc.resolve_left (by omega)
  refine ⟨Sub.refl _,?_⟩
  rw [decide_eq_true ((hyes hc).2 (by rw [h1];exact U1 _ _))]
  simpa using h1
def c39:SFun:=⟨.seq (.reg [o 2 (.boxF 24 2 (.t 0)),o 4 (.mv (.c .emp))]) (.seq (.reg [o 7 (.mv (.t 1)),o 8 (.bldR 3 1 [.t 7]),o 5 (.mv (.t 8))]) (.seq (.seq (.reg [o 6 (.mv (.c (.int .i64 0)))]) (.block 0 (.loop (.seq (.seq (.reg [o 9 (.mv (.t 6)),o 10 (.fldA 0 (.t 2)),o 11 (.ld 1 false (.t 10)),o 12 (.mv (.t 1)),o 13 (.idxA 6 (.t 11) (.t 12)),o 14 (.fldA 5 (.t 13)),o 15 (.ld 1 false (.t 14)),o 16 (.len (.t 15)),o 17 (.bin .lss (.t 9) (.t 16))]) (.cond (.t 17) .skip (.exit 0))) (.seq (.block 1 (.dreg [(o 20 (.mv (.t 5)),none),(o 21 (.ld 2 true (.t 2)),none),(o 22 (.fldA 0 (.t 2)),none),(o 23 (.ld 1 false (.t 22)),none),(o 24 (.mv (.t 1)),none),(o 25 (.idxA 6 (.t 23) (.t 24)),none),(o 26 (.fldA 5 (.t 25)),none),(o 27 (.ld 1 false (.t 26)),none),(o 28 (.mv (.t 6)),none),(o 29 (.idxA 1 (.t 27) (.t 28)),none),(o 30 (.ld 1 false (.t 29)),none),(o 31 (.pcall 39 [.t 21,.t 30]),none),(o 32 (.app 3 1 8 (.t 20) (.t 31)),(some [21,30,27,23])),(o 5 (.mv (.t 32)),(some [21,30,27,23]))])) (.reg [o 18 (.mv (.t 6)),o 19 (.bin .add (.t 18) (.c (.int .i64 1))),o 6 (.mv (.t 19))])))))) (.seq (.reg [o 33 (.mv (.t 5)),o 4 (.mv (.t 33))]) .ret))),[.tmp 4]⟩
theorem hc39:Y3 Tryz.prog {pure:=[39],how:=[(8,2)]} Tryz.f39=some c39:=by kernel_rfl
theorem below_ok (d:HDoc) (V:DV d) (sm:DocSm d):∀ n,inD d n->PCalls (Pg G) 39 [.agg (Q8 d),Q3 n] (sl Z6 (Z5 d n)):=V.down fun n hn ih=>PCalls.acc (ty:=3) (sz:=1) fun h=>by
 have hl:=V.len
 have n0:=hn.1
 have n1:=hn.2
 have e0:nth d.nodes n.toNat=nd d n:=rfl
 have kl:=(sm.nd n).kids
 refine Q0 Tryz.func39 (by kernel_rfl) hc39 (by rw [Tryz.ntmps39];simp) (by rw [Tryz.ntmps39];decide) ?_
 simp -dsimp -implicitDefEqProofs (disch:=omega) only [VCA,Nat.reduceEqDiff,Nat.reduceAdd,↓reduceIte,Z7,Q8,JT,c39,Q8]
 intro r hr
 have bl:=XV V hn
 rw [W7 V hn] at bl ⊢
 simp only [List.length_cons] at bl
 refine LoopVC.intro (fun m e h'=>∃ k:Nat,k<=(nd d n).kids.length/\m=(nd d n).kids.length-k/\e 1=Q3 n/\e 2=.pin (Q8 d)/\e 6=Q3 k/\Acc h 3 1 ((n :: ((nd d n).kids.take k).flatMap (Z5 d)).map Z6) (e 5) h'/\Sim.Sub h h') _ ⟨0,by omega,rfl,rfl,rfl,rfl,Acc.root hr (Q5 _ _ _),(Sub.refl h).upd hr⟩ ?_
 rintro m e h' ⟨k,hk,rfl,he1,he2,he6,A,S⟩
 simp -dsimp -implicitDefEqProofs (disch:=omega) only [VCA,Nat.reduceEqDiff,Nat.reduceAdd,Nat.reduceLeDiff,↓reduceIte,Z6,Q7,Q8,he1,he2,he6,Q8,Q7,e0]
 refine ⟨by omega,Br.dec (fun hlt=>?_) (fun hge=>?_)⟩
 ·have hk':k<(nd d n).kids.length:=by omega
  have hB:=ih _ (Y7 hk')
  unfold Q8 at hB
  have hfl:(((nd d n).kids.take (k+1)).flatMap (Z5 d)).length<=((nd d n).kids.flatMap (Z5 d)).length:=by
   conv=>rhs;rw [<-List.take_append_drop (k+1) (nd d n).kids,List.flatMap_append,List.length_append]
   omega
  rw [X1 hk',List.flatMap_append,List.length_append] at hfl
  simp only [List.flatMap_cons,List.flatMap_nil,List.append_nil] at hfl
  simp -dsimp -implicitDefEqProofs (disch:=omega) only [VCA,Nat.reduceEqDiff,Nat.reduceAdd,Nat.reduceLeDiff,↓reduceIte,Y8,Z0,J1,Z6,Q7,Q8,he1,he2,he6,Q8,Q7,e0]
  refine ⟨by omega,by omega,?_⟩
  refine pcallE.of (hB) ?_;simp -dsimp -implicitDefEqProofs (disch:=omega) only [VCA,Nat.reduceEqDiff,↓reduceIte,Y8,Z0,exists_eq_left,J1]
  refine A.app S (by simp only [List.length_map,List.length_cons];omega) (by simp only [List.length_map,List.length_cons];omega) fun a' h'' A' S'=>?_
  simp -dsimp -implicitDefEqProofs (disch:=omega) only [VCA,Nat.reduceEqDiff,↓reduceIte,SOp.rd,SI.rd,SX.rd,Q8,he1,he2,he6]
  refine ⟨_,by omega,k+1,by omega,rfl,by omega,?_,S'⟩
  rw [X1 hk',List.flatMap_append]
  simpa [Z6] using A'
 ·obtain rfl:k=(nd d n).kids.length:=by omega
  simp -dsimp -implicitDefEqProofs (disch:=omega) only [VCA,Nat.reduceEqDiff,↓reduceIte]
  rw [List.take_length] at A
  exact ⟨_,Sub.refl _,A,S⟩
def setN (d:HDoc) (n:Int) (x:HNode):HDoc:=⟨d.nodes.set n.toNat x,d.quirks⟩
section
variable {d:HDoc}
theorem XK (n:Int) (x:HNode):(setN d n x).nodes.length=d.nodes.length:=by simp [setN]
theorem inD_setN {n m:Int} {x:HNode}:inD (setN d n x) m↔inD d m:=by unfold inD;rw [XK]
theorem nd_setN {n m:Int} {x:HNode} (hn:inD d n) (hm:inD d m):nd (setN d n x) m=if m=n then x else nd d m:=by
 have h1:=hn.nat
 have h2:=hm.nat
 unfold nd setN
 rw [K9 _ _ _ _ h1.1]
 by_cases h:m=n
 ·subst h;rw [if_pos rfl,if_pos rfl]
 ·rw [if_neg h,if_neg (by omega)]
theorem upF_congr {d':HDoc} (V:DV d) (h:∀ m,inD d m->(nd d' m).parent=(nd d m).parent):∀ (f:Nat) (n:Int),inD d n->upF f d' n=upF f d n
 | 0,_,_=>rfl
 | f+1,n,hn=>by
   unfold upF
   rw [h n hn]
   by_cases hp:0<=(nd d n).parent
   ·rw [if_pos hp,if_pos hp,upF_congr V h f _ (V.par_in hn hp).1]
   ·rw [if_neg hp,if_neg hp]
theorem up_congr {d':HDoc} (V:DV d) (hl:d'.nodes.length=d.nodes.length) (h:∀ m,inD d m->(nd d' m).parent=(nd d m).parent) {n:Int} (hn:inD d n):up d' n=up d n:=by
 unfold up;rw [hl,upF_congr V h _ n hn]
theorem DV.same (V:DV d) {n:Int} (hn:inD d n) {x:HNode} (hk:x.kind=(nd d n).kind) (hp:x.parent=(nd d n).parent) (hc:x.kids=(nd d n).kids):DV (setN d n x)↔V8 x=0:=by
 have at':∀ m,inD d m->nd (setN d n x) m=if m=n then x else nd d m:=fun m hm=>nd_setN hn hm
 have ekind:∀ m,inD d m->(nd (setN d n x) m).kind=(nd d m).kind:=fun m hm=>by rw [at' m hm];split <;> simp_all
 have epar:∀ m,inD d m->(nd (setN d n x) m).parent=(nd d m).parent:=fun m hm=>by rw [at' m hm];split <;> simp_all
 have ekid:∀ m,inD d m->(nd (setN d n x) m).kids=(nd d m).kids:=fun m hm=>by rw [at' m hm];split <;> simp_all
 constructor
 ·intro W
  have:=W.node n (inD_setN.2 hn)
  rw [at' n hn,if_pos rfl] at this
  exact this
 ·intro hx
  refine ⟨by rw [XK];exact V.pos,by rw [XK];exact V.len,fun m hm=>?_,fun m hm=>?_,fun m hm k hk'=>?_,fun m hm=>?_,fun k hk'=>?_,fun m hm=>?_,?_,fun m hm=>?_,fun m hm=>?_⟩
  ·rw [inD_setN] at hm;rw [ekind m hm];exact V.kind m hm
  ·rw [inD_setN] at hm;rw [at' m hm];split
   ·exact hx
   ·exact V.node m hm
  ·rw [inD_setN] at hm;rw [ekid m hm] at hk'
   obtain ⟨h1,h2⟩:=V.kid m hm k hk'
   exact ⟨inD_setN.2 h1,by rw [epar k h1];exact h2⟩
  ·rw [inD_setN] at hm;rw [ekid m hm];exact V.nodup m hm
  ·rw [ekid 0 V.zero] at hk'
   rw [ekind k (V.kid 0 V.zero k hk').1];exact V.top k hk'
  ·rw [inD_setN] at hm;rw [epar m hm]
   rcases V.par m hm with h | ⟨h1,h2⟩
   ·exact .inl h
   ·exact .inr ⟨inD_setN.2 h1,by rw [ekid _ h1];exact h2⟩
  ·rw [epar 0 V.zero];exact V.root
  ·rw [inD_setN] at hm;rw [up_congr V (XK n x) epar hm,XK];exact V.fin m hm
  ·rw [inD_setN] at hm;rw [up_congr V (XK n x) epar hm];exact V.deep m hm
def UX (d:HDoc) (x:HNode):HDoc:=⟨d.nodes++[x],d.quirks⟩
theorem ZW (x:HNode):(UX d x).nodes.length=d.nodes.length+1:=by simp [UX]
theorem KQ {x:HNode} {m:Int} (hm:inD d m):nd (UX d x) m=nd d m:=by
 have h:=hm.nat
 unfold nd UX nth
 rw [List.getD_eq_getElem?_getD,List.getD_eq_getElem?_getD,List.getElem?_append_left h.1]
theorem nd_addN_new (x:HNode):nd (UX d x) (d.nodes.length:Int)=x:=by
 unfold nd UX nth
 rw [List.getD_eq_getElem?_getD];simp
theorem inD_addN {x:HNode} {m:Int}:inD (UX d x) m↔inD d m\/m=d.nodes.length:=by unfold inD;rw [ZW];omega
theorem up_addN (V:DV d) {x:HNode} {m:Int} (hm:inD d m):up (UX d x) m=up d m:=by
 have h1:upF (d.nodes.length+1+1) (UX d x) m=upF (d.nodes.length+1+1) d m:=upF_congr V (fun k hk=>by rw [KQ hk]) _ m hm
 have h2:up (UX d x) m=upF (d.nodes.length+1+1) (UX d x) m:=by unfold up;rw [ZW]
 rw [h2,h1]
 have h3:=V.fin m hm
 exact upF_mono (f:=d.nodes.length+1) (by unfold up at h3;omega) (by omega)
theorem DV.add (V:DV d) {x:HNode} (hp:x.parent = -1) (hc:x.kids=[]) (h1:x.kind≠1):DV (UX d x)↔V8 x=0/\d.nodes.length<200:=by
 have new:=nd_addN_new (d:=d) x
 have inew:inD (UX d x) (d.nodes.length:Int):=inD_addN.2 (.inr rfl)
 constructor
 ·intro W
  have h2:=W.node _ inew
  have h3:=W.len
  rw [new] at h2
  rw [ZW] at h3
  exact ⟨h2,by omega⟩
 ·rintro ⟨hx,hl⟩
  have z:=V.pos
  have upn:up (UX d x) (d.nodes.length:Int)=0:=by
   unfold up upF
   rw [new,if_neg (by omega)]
  refine ⟨by rw [ZW];omega,by rw [ZW];omega,fun m hm=>?_,fun m hm=>?_,fun m hm k hk'=>?_,fun m hm=>?_,fun k hk'=>?_,fun m hm=>?_,?_,fun m hm=>?_,fun m hm=>?_⟩
  ·rcases inD_addN.1 hm with hm | rfl
   ·rw [KQ hm];exact V.kind m hm
   ·rw [new];constructor
    ·intro h;exact absurd h h1
    ·intro h;omega
  ·rcases inD_addN.1 hm with hm | rfl
   ·rw [KQ hm];exact V.node m hm
   ·rw [new];exact hx
  ·rcases inD_addN.1 hm with hm | rfl
   ·rw [KQ hm] at hk'
    obtain ⟨g1,g2⟩:=V.kid m hm k hk'
    exact ⟨inD_addN.2 (.inl g1),by rw [KQ g1];exact g2⟩
   ·rw [new,hc] at hk';cases hk'
  ·rcases inD_addN.1 hm with hm | rfl
   ·rw [KQ hm];exact V.nodup m hm
   ·rw [new,hc];exact .nil
  ·rw [KQ V.zero] at hk'
   rw [KQ (V.kid 0 V.zero k hk').1];exact V.top k hk'
  ·rcases inD_addN.1 hm with hm | rfl
   ·rw [KQ hm]
    rcases V.par m hm with h | ⟨g1,g2⟩
    ·exact .inl h
    ·exact .inr ⟨inD_addN.2 (.inl g1),by rw [KQ g1];exact g2⟩
   ·rw [new];exact .inl hp
  ·rw [KQ V.zero];exact V.root
  ·rcases inD_addN.1 hm with hm | rfl
   ·rw [up_addN V hm,ZW];have:=V.fin m hm;omega
   ·rw [upn];omega
  ·rcases inD_addN.1 hm with hm | rfl
   ·rw [up_addN V hm];exact V.deep m hm
   ·rw [upn];omega
theorem bareM_kids {x:HNode} {l:List Int} (h:x.kind=1\/x.kind=2):V8 { x with kids:=l }=V8 x:=by
 have:XZ { x with kids:=l }=XZ x:=by
  unfold XZ
  rcases h with h | h <;> simp [h]
 unfold V8
 rw [this]
theorem chain_top_ex (V:DV d):∀ n,inD d n -> ∃ z∈X7 d n,up d z=0:=V.rise fun n hn ih=>by
 by_cases hp:0<=(nd d n).parent
 ·obtain ⟨z,hz,hu⟩:=ih hp
  exact ⟨z,by rw [W8 V hn hp];exact List.mem_cons_of_mem _ hz,hu⟩
 ·exact ⟨n,U1 _ _,V.up_top hp⟩
theorem chain_nodup (V:DV d):∀ n,inD d n->(X7 d n).Nodup:=V.rise fun n hn ih=>by
 by_cases hp:0<=(nd d n).parent
 ·rw [W8 V hn hp,List.nodup_cons]
  refine ⟨fun h=>?_,ih hp⟩
  have:=(chain_le V _ (V.par_in hn hp).1 n h).1
  have:=V.up_par hn hp
  omega
 ·rw [T9 V hp];simp
def UV (d:HDoc) (at' into:Int) (i:Nat):HDoc:=setN (setN d at' { nd d at' with kids:=(nd d at').kids.take i++into :: (nd d at').kids.drop i }) into { nd d into with parent:=at' }
section
variable {a t:Int} {i:Nat}
theorem hung_len:(UV d a t i).nodes.length=d.nodes.length:=by unfold UV;rw [XK,XK]
theorem inD_hung {m:Int}:inD (UV d a t i) m↔inD d m:=by unfold UV;rw [inD_setN,inD_setN]
theorem nd_hung (ha:inD d a) (ht:inD d t) (hne:a≠t) {m:Int} (hm:inD d m):nd (UV d a t i) m=if m=t then { nd d t with parent:=a } else if m=a then { nd d a with kids:=(nd d a).kids.take i++t :: (nd d a).kids.drop i } else nd d m:=by
 unfold UV
 rw [nd_setN (inD_setN.2 ht) (inD_setN.2 hm),nd_setN ha hm]
theorem hung_par (ha:inD d a) (ht:inD d t) (hne:a≠t) {m:Int} (hm:inD d m):(nd (UV d a t i) m).parent=if m=t then a else (nd d m).parent:=by
 rw [nd_hung ha ht hne hm]
 by_cases h1:m=t
 ·rw [if_pos h1,if_pos h1]
 ·rw [if_neg h1,if_neg h1]
  by_cases h2:m=a
  ·rw [if_pos h2,h2]
  ·rw [if_neg h2]
theorem upF_hung_out (V:DV d) (ha:inD d a) (ht:inD d t) (hne:a≠t):∀ (f:Nat) (m:Int),inD d m->t∉X7 d m->upF f (UV d a t i) m=upF f d m
 | 0,_,_,_=>rfl
 | f+1,m,hm,hc=>by
   unfold upF
   have hmt:m≠t:=fun e=>hc (by rw [e];exact U1 _ _)
   rw [hung_par ha ht hne hm,if_neg hmt]
   by_cases hp:0<=(nd d m).parent
   ·rw [if_pos hp,if_pos hp,upF_hung_out V ha ht hne f _ (V.par_in hm hp).1 (fun h=>hc (by rw [W8 V hm hp];exact List.mem_cons_of_mem _ h))]
   ·rw [if_neg hp,if_neg hp]
theorem upF_hung_in (V:DV d) (ha:inD d a) (ht:inD d t) (hne:a≠t) (hl:¬ 0<=(nd d t).parent):∀ m,inD d m->t∈X7 d m -> ∀ f,upF (f+up d m+1) (UV d a t i) m=upF f (UV d a t i) a+up d m+1:=V.rise fun m hm ih hc f=>by
 by_cases hmt:m=t
 ·subst hmt
  rw [V.up_top hl]
  show upF (f+1) _ _=_
  rw [upF,hung_par ha ht hne hm,if_pos rfl,if_pos ha.1]
 ·by_cases hp:0<=(nd d m).parent
  ·have hu:=V.up_par hm hp
   rw [W8 V hm hp] at hc
   have:=ih hp ((List.mem_cons.1 hc).resolve_left (fun e=>hmt e.symm)) f
   rw [hu]
   show upF ((f+up d (nd d m).parent+1)+1) _ _=_
   rw [upF,hung_par ha ht hne hm,if_neg hmt,if_pos hp,this]
   omega
  ·rw [T9 V hp] at hc
   simp at hc
   exact absurd hc.symm hmt
theorem up_hung (V:DV d) (ha:inD d a) (ht:inD d t) (hl:¬ 0<=(nd d t).parent) (hc:t∉X7 d a) {m:Int} (hm:inD d m) :
 up (UV d a t i) m=(if t∈X7 d m then up d m+up d a+1 else up d m)/\up (UV d a t i) m<=d.nodes.length:=by
 have hne:a≠t:=fun e=>hc (by rw [e];exact U1 _ _)
 by_cases hm':t∈X7 d m
 ·rw [if_pos hm']
  have cnt:up d m+1+(up d a+1)<=d.nodes.length:=by
   have h:=YK d.nodes.length (X7 d m++X7 d a) (by
    rw [List.nodup_append]
    refine ⟨chain_nodup V m hm,chain_nodup V a ha,fun x hx y hy hxy=>?_⟩
    subst hxy
    have hxi:=chain_in V m hm x hx
    obtain ⟨z,hz,hz0⟩:=chain_top_ex V x hxi
    have e:z=t:=chain_one V m hm z (chain_trans V m hm x hx z hz) t hm' (by rw [hz0,V.up_top hl])
    rw [e] at hz
    exact hc (chain_trans V a ha x hy t hz)) (fun x hx=>by
    rcases List.mem_append.1 hx with hx | hx
    ·exact chain_in V m hm x hx
    ·exact chain_in V a ha x hx)
   rw [List.length_append,chain_len V m hm,chain_len V a ha] at h
   exact h
  have e:up (UV d a t i) m=up d m+up d a+1:=by
   have h1:=upF_hung_in (i:=i) V ha ht hne hl m hm hm' (d.nodes.length-up d m)
   have h2:d.nodes.length-up d m+up d m+1=d.nodes.length+1:=by omega
   rw [h2] at h1
   have h3:up (UV d a t i) m=upF (d.nodes.length+1) (UV d a t i) m:=by unfold up;rw [hung_len]
   rw [h3,h1,upF_hung_out V ha ht hne _ a ha hc]
   have h4:up d a=upF (d.nodes.length-up d m) d a:=by
    have hb:upF (d.nodes.length-up d m) d a<d.nodes.length-up d m:=by
     have gen:∀ (f:Nat) (n:Int),inD d n->up d n<f->upF f d n=up d n:=by
      intro f
      induction f with
      | zero=>intro n _ h;omega
      | succ f ihf=>
        intro n hn h
        unfold upF
        by_cases hp:0<=(nd d n).parent
        ·rw [if_pos hp,ihf _ (V.par_in hn hp).1 (by have:=V.up_par hn hp;omega),V.up_par hn hp]
        ·rw [if_neg hp,V.up_top hp]
     rw [gen _ a ha (by omega)];omega
    exact upF_mono hb (by omega)
   omega
  rw [e]
  exact ⟨rfl,by omega⟩
 ·rw [if_neg hm']
  have e:up (UV d a t i) m=up d m:=by
   have h3:up (UV d a t i) m=upF (d.nodes.length+1) (UV d a t i) m:=by unfold up;rw [hung_len]
   rw [h3,upF_hung_out V ha ht hne _ m hm hm'];rfl
  rw [e];exact ⟨rfl,V.fin m hm⟩
theorem mem_ins {l:List Int} {i:Nat} {t x:Int}:x∈l.take i++t :: l.drop i↔x=t\/x∈l:=by
 rw [List.mem_append,List.mem_cons]
 conv=>rhs;rw [<-List.take_append_drop i l,List.mem_append]
 constructor
 ·rintro (h | h | h)
  ·exact .inr (.inl h)
  ·exact .inl h
  ·exact .inr (.inr h)
 ·rintro (h | h | h)
  ·exact .inr (.inl h)
  ·exact .inl h
  ·exact .inr (.inr h)
theorem nodup_ins {l:List Int} {i:Nat} {t:Int} (hn:l.Nodup) (ht:t∉l):(l.take i++t :: l.drop i).Nodup:=by
 have h:=hn
 rw [<-List.take_append_drop i l,List.nodup_append] at h
 have h1:t∉l.take i:=fun hh=>ht (List.mem_of_mem_take hh)
 have h2:t∉l.drop i:=fun hh=>ht (List.mem_of_mem_drop hh)
 rw [List.nodup_append,List.nodup_cons]
 refine ⟨h.1,⟨h2,h.2.1⟩,fun x hx y hy hxy=>?_⟩
 subst hxy
 rcases List.mem_cons.1 hy with rfl | hy
 ·exact h1 hx
 ·exact h.2.2 x hx x hy rfl
theorem DV.hang (V:DV d) (ha:inD d a) (ht:inD d t) (hk:(nd d a).kind=1\/(nd d a).kind=2) (ht1:(nd d t).kind≠1) (h3:¬ ((nd d a).kind=1/\(nd d t).kind=3)) (hl:¬ 0<=(nd d t).parent) (hc:t∉X7 d a) :
 DV (UV d a t i) ↔ ∀ m∈Z5 d t,up d m+up d a+1<=40:=by
 have hne:a≠t:=fun e=>hc (by rw [e];exact U1 _ _)
 have hl':=V.par_neg ht hl
 have at':∀ m,inD d m->nd (UV d a t i) m=_:=fun m hm=>nd_hung ha ht hne hm
 have par':∀ m,inD d m->(nd (UV d a t i) m).parent=_:=fun m hm=>hung_par ha ht hne hm
 have kind':∀ m,inD d m->(nd (UV d a t i) m).kind=(nd d m).kind:=fun m hm=>by
  rw [at' m hm]
  by_cases h1:m=t
  ·rw [if_pos h1,h1]
  ·rw [if_neg h1]
   by_cases h2:m=a
   ·rw [if_pos h2,h2]
   ·rw [if_neg h2]
 have kids':∀ m,inD d m->(nd (UV d a t i) m).kids=if m=a then (nd d a).kids.take i++t :: (nd d a).kids.drop i else (nd d m).kids:=fun m hm=>by
  rw [at' m hm]
  by_cases h1:m=t
  ·rw [if_pos h1,if_neg (by rw [h1];exact fun e=>hne e.symm),h1]
  ·rw [if_neg h1]
   by_cases h2:m=a
   ·rw [if_pos h2,if_pos h2]
   ·rw [if_neg h2,if_neg h2]
 have htk:∀ n,inD d n->t∉(nd d n).kids:=fun n hn hm=>by
  have:=(V.kid n hn t hm).2
  have:=hn.1
  omega
 constructor
 ·intro W m hm
  have hmi:=X5 V t ht m hm
  have h1:=W.deep m (inD_hung.2 hmi)
  rw [(up_hung V ha ht hl hc hmi).1,if_pos ((QX V hmi ht).1 hm)] at h1
  exact h1
 ·intro hd
  refine ⟨by rw [hung_len];exact V.pos,by rw [hung_len];exact V.len,fun m hm=>?_,fun m hm=>?_,fun m hm k hk'=>?_,fun m hm=>?_,fun k hk'=>?_,fun m hm=>?_,?_,fun m hm=>?_,fun m hm=>?_⟩
  ·rw [inD_hung] at hm;rw [kind' m hm];exact V.kind m hm
  ·rw [inD_hung] at hm
   rw [at' m hm]
   by_cases h1:m=t
   ·rw [if_pos h1];exact V.node t ht
   ·rw [if_neg h1]
    by_cases h2:m=a
    ·rw [if_pos h2,bareM_kids hk];exact V.node a ha
    ·rw [if_neg h2];exact V.node m hm
  ·rw [inD_hung] at hm
   rw [kids' m hm] at hk'
   by_cases h2:m=a
   ·rw [if_pos h2,mem_ins] at hk'
    rcases hk' with rfl | hk'
    ·exact ⟨inD_hung.2 ht,by rw [par' _ ht,if_pos rfl];exact h2.symm⟩
    ·obtain ⟨g1,g2⟩:=V.kid a ha k hk'
     have hkt:k≠t:=fun e=>htk a ha (e ▸ hk')
     exact ⟨inD_hung.2 g1,by rw [par' k g1,if_neg hkt,h2];exact g2⟩
   ·rw [if_neg h2] at hk'
    obtain ⟨g1,g2⟩:=V.kid m hm k hk'
    have hkt:k≠t:=fun e=>htk m hm (e ▸ hk')
    exact ⟨inD_hung.2 g1,by rw [par' k g1,if_neg hkt];exact g2⟩
  ·rw [inD_hung] at hm
   rw [kids' m hm]
   split
   ·exact nodup_ins (V.nodup a ha) (htk a ha)
   ·exact V.nodup m hm
  ·rw [kids' 0 V.zero] at hk'
   by_cases h2:0=a
   ·rw [if_pos h2,mem_ins] at hk'
    rcases hk' with rfl | hk'
    ·rw [kind' _ ht]
     intro e
     exact h3 ⟨by rw [<-h2];exact (V.kind 0 V.zero).2 rfl,e⟩
    ·rw [<-h2] at hk'
     rw [kind' k (V.kid 0 V.zero k hk').1];exact V.top k hk'
   ·rw [if_neg h2] at hk'
    rw [kind' k (V.kid 0 V.zero k hk').1];exact V.top k hk'
  ·rw [inD_hung] at hm
   rw [par' m hm]
   by_cases h1:m=t
   ·rw [if_pos h1]
    exact .inr ⟨inD_hung.2 ha,by rw [kids' a ha,if_pos rfl,mem_ins];exact .inl h1⟩
   ·rw [if_neg h1]
    rcases V.par m hm with h | ⟨g1,g2⟩
    ·exact .inl h
    ·refine .inr ⟨inD_hung.2 g1,?_⟩
     rw [kids' _ g1]
     split
     ·rename_i h2;rw [mem_ins,<-h2];exact .inr g2
     ·exact g2
  ·rw [par' 0 V.zero,if_neg]
   ·exact V.root
   ·intro e;exact ht1 (by rw [<-e];exact (V.kind 0 V.zero).2 rfl)
  ·rw [inD_hung] at hm
   rw [hung_len];exact (up_hung V ha ht hl hc hm).2
  ·rw [inD_hung] at hm
   rw [(up_hung V ha ht hl hc hm).1]
   split
   ·rename_i h;exact hd m ((QX V hm ht).2 h)
   ·exact V.deep m hm
end
theorem split_nthK {l:List Int} {k:Nat} (hk:k<l.length):l=l.take k++nth l k :: l.drop (k+1):=by
 have:nth l k=l[k]:=by unfold nth;rw [List.getD_eq_getElem?_getD,List.getElem?_eq_getElem hk];rfl
 rw [this,List.getElem_cons_drop,List.take_append_drop]
theorem nodup_del {l:List Int} (hn:l.Nodup) {i:Nat} (hi:i<l.length):(l.take i++l.drop (i+1)).Nodup /\ ∀ x,x∈l.take i++l.drop (i+1)↔x∈l/\x≠nth l i:=by
 have e:=split_nthK hi
 generalize nth l i=y at *
 have h:=hn
 rw [e,List.nodup_append,List.nodup_cons] at h
 obtain ⟨h1,⟨h2,h3⟩,h4⟩:=h
 constructor
 ·rw [List.nodup_append]
  exact ⟨h1,h3,fun x hx z hz=>h4 x hx z (List.mem_cons_of_mem _ hz)⟩
 ·intro x
  have hm:x∈l↔x∈l.take i\/x=y\/x∈l.drop (i+1):=by
   conv=>lhs;rw [e]
   rw [List.mem_append,List.mem_cons]
  rw [hm,List.mem_append]
  constructor
  ·rintro (hx | hx)
   ·exact ⟨.inl hx,fun e=>h4 x hx y List.mem_cons_self e⟩
   ·exact ⟨.inr (.inr hx),fun e=>h2 (e ▸ hx)⟩
  ·rintro ⟨hx | hx | hx,hne⟩
   ·exact .inl hx
   ·exact absurd hx hne
   ·exact .inr hx
def cutN (d:HDoc) (n:Int) (i:Nat):HDoc:=setN (setN d (nd d n).parent { nd d (nd d n).parent with kids:=(nd d (nd d n).parent).kids.take i++(nd d (nd d n).parent).kids.drop (i+1) }) n { nd d n with parent:=-1 }
section
variable {n:Int} {i:Nat}
theorem cutN_len:(cutN d n i).nodes.length=d.nodes.length:=by unfold cutN;rw [XK,XK]
theorem inD_cutN {m:Int}:inD (cutN d n i) m↔inD d m:=by unfold cutN;rw [inD_setN,inD_setN]
theorem nd_cutN (hn:inD d n) (hp:inD d (nd d n).parent) {m:Int} (hm:inD d m):nd (cutN d n i) m=if m=n then { nd d n with parent:=-1 } else if m=(nd d n).parent then { nd d (nd d n).parent with kids:=(nd d (nd d n).parent).kids.take i++(nd d (nd d n).parent).kids.drop (i+1) } else nd d m:=by
 unfold cutN
 rw [nd_setN (inD_setN.2 hn) (inD_setN.2 hm),nd_setN hp hm]
theorem upF_cutN (V:DV d) (hn:inD d n) (hp:0<=(nd d n).parent):∀ (f:Nat) (m:Int),inD d m->upF f (cutN d n i) m<=upF f d m
 | 0,_,_=>Nat.le_refl _
 | f+1,m,hm=>by
   have hpi:=(V.par_in hn hp).1
   unfold upF
   rw [nd_cutN hn hpi hm]
   by_cases h1:m=n
   ·rw [if_pos h1,if_neg (by show ¬ (0:Int) <= -1;omega)];omega
   ·rw [if_neg h1]
    have e:(if m=(nd d n).parent then { nd d (nd d n).parent with kids:=(nd d (nd d n).parent).kids.take i++(nd d (nd d n).parent).kids.drop (i+1) } else nd d m).parent=(nd d m).parent:=by
     split
     ·rename_i h2;rw [h2]
     ·rfl
    rw [e]
    by_cases h3:0<=(nd d m).parent
    ·rw [if_pos h3,if_pos h3]
     have:=upF_cutN V hn hp f _ (V.par_in hm h3).1
     omega
    ·rw [if_neg h3,if_neg h3];omega
theorem DV.cut (V:DV d) (hn:inD d n) (hp:0<=(nd d n).parent) (hi:i<(nd d (nd d n).parent).kids.length) (hk:nth (nd d (nd d n).parent).kids i=n):DV (cutN d n i):=by
 obtain ⟨hpi,hnk⟩:=V.par_in hn hp
 have hne:(nd d n).parent≠n:=fun e=>by have:=V.up_par hn hp;rw [e] at this;omega
 have at':∀ m,inD d m->nd (cutN d n i) m=_:=fun m hm=>nd_cutN hn hpi hm
 obtain ⟨nd1,nd2⟩:=nodup_del (V.nodup _ hpi) hi
 rw [hk] at nd2
 have pk:(nd d (nd d n).parent).kind=1\/(nd d (nd d n).parent).kind=2:=by
  have h:=V.node _ hpi
  unfold V8 at h
  split at h
  ·omega
  ·rename_i hb
   have hb:XZ (nd d (nd d n).parent)=true:=by
    cases hb2:XZ (nd d (nd d n).parent) with
    | true=>rfl
    | false=>exact absurd (.inr (.inr hb2)) hb
   unfold XZ at hb
   simp only [Bool.and_eq_true,Bool.or_eq_true,decide_eq_true_eq] at hb
   rcases hb.2 with (h | h) | h
   ·exact .inl h
   ·exact .inr h
   ·rw [h] at hnk;cases hnk
 have kind':∀ m,inD d m->(nd (cutN d n i) m).kind=(nd d m).kind:=fun m hm=>by
  rw [at' m hm]
  by_cases h1:m=n
  ·rw [if_pos h1,h1]
  ·rw [if_neg h1]
   split
   ·rename_i h2;rw [h2]
   ·rfl
 have par':∀ m,inD d m->(nd (cutN d n i) m).parent=if m=n then -1 else (nd d m).parent:=fun m hm=>by
  rw [at' m hm]
  by_cases h1:m=n
  ·rw [if_pos h1,if_pos h1]
  ·rw [if_neg h1,if_neg h1]
   split
   ·rename_i h2;rw [h2]
   ·rfl
 have kids':∀ m,inD d m->(nd (cutN d n i) m).kids=if m=(nd d n).parent then (nd d (nd d n).parent).kids.take i++(nd d (nd d n).parent).kids.drop (i+1) else (nd d m).kids:=fun m hm=>by
  rw [at' m hm]
  by_cases h1:m=n
  ·rw [if_pos h1,h1,if_neg (fun e=>hne e.symm)]
  ·rw [if_neg h1]
   split <;> rfl
 refine ⟨by rw [cutN_len];exact V.pos,by rw [cutN_len];exact V.len,fun m hm=>?_,fun m hm=>?_,fun m hm k hk'=>?_,fun m hm=>?_,fun k hk'=>?_,fun m hm=>?_,?_,fun m hm=>?_,fun m hm=>?_⟩
 ·rw [inD_cutN] at hm;rw [kind' m hm];exact V.kind m hm
 ·rw [inD_cutN] at hm
  rw [at' m hm]
  by_cases h1:m=n
  ·rw [if_pos h1];exact V.node n hn
  ·rw [if_neg h1]
   by_cases h2:m=(nd d n).parent
   ·rw [if_pos h2,bareM_kids pk];exact V.node _ hpi
   ·rw [if_neg h2];exact V.node m hm
 ·rw [inD_cutN] at hm
  rw [kids' m hm] at hk'
  by_cases h2:m=(nd d n).parent
  ·rw [if_pos h2,nd2] at hk'
   obtain ⟨g1,g2⟩:=V.kid _ hpi k hk'.1
   exact ⟨inD_cutN.2 g1,by rw [par' k g1,if_neg hk'.2,h2];exact g2⟩
  ·rw [if_neg h2] at hk'
   obtain ⟨g1,g2⟩:=V.kid m hm k hk'
   refine ⟨inD_cutN.2 g1,?_⟩
   rw [par' k g1,if_neg (fun e=>h2 (by rw [<-g2,e]))];exact g2
 ·rw [inD_cutN] at hm
  rw [kids' m hm]
  split
  ·exact nd1
  ·exact V.nodup m hm
 ·rw [kids' 0 V.zero] at hk'
  have hk2:k∈(nd d 0).kids:=by
   split at hk'
   ·rename_i h2;rw [nd2] at hk';rw [h2];exact hk'.1
   ·exact hk'
  rw [kind' k (V.kid 0 V.zero k hk2).1];exact V.top k hk2
 ·rw [inD_cutN] at hm
  rw [par' m hm]
  by_cases h1:m=n
  ·exact .inl (if_pos h1)
  ·rw [if_neg h1]
   rcases V.par m hm with h | ⟨g1,g2⟩
   ·exact .inl h
   ·refine .inr ⟨inD_cutN.2 g1,?_⟩
    rw [kids' _ g1]
    split
    ·rename_i h2;rw [nd2,<-h2];exact ⟨g2,h1⟩
    ·exact g2
 ·rw [par' 0 V.zero]
  split
  ·rfl
  ·exact V.root
 ·rw [inD_cutN] at hm
  have h1:up (cutN d n i) m<=up d m:=by unfold up;rw [cutN_len];exact upF_cutN V hn hp _ m hm
  have:=V.fin m hm
  rw [cutN_len];omega
 ·rw [inD_cutN] at hm
  have h1:up (cutN d n i) m<=up d m:=by unfold up;rw [cutN_len];exact upF_cutN V hn hp _ m hm
  have:=V.deep m hm
  omega
end
end
end Go.Proofs.K
end
