/- Texts of this claim, one behind the other. -/
import Derived.WalkKit
import Derived.Laws.AppendOwn
import Derived.DataElems
import Derived.RangeFuncFrom
import Derived.RangeFuncLeaves
import Derived.Great.FillDense
import Derived.Laws.MakeOwn
import Derived.Great.BuildSlice
import Derived.Laws.Cover3
import Derived.Laws.Pointers
import Derived.Lib.ConvBytes
import Derived.Lib.UnsafeStr
import Derived.Laws.BytesString
import Derived.MapKept
set_option maxHeartbeats 4000000
set_option maxRecDepth 100000
section
namespace Go.Sim
open Go
inductive AVal:Type
 | prim (v:Value)
 | int (k:IntKind) (n:Int)
 | bool (b:Bool)
 | str (l:List UInt8)
 | agg (cs:List AVal)
 | slc (es:List (List AVal))
 | emp
 | osl (r sz i n:Nat)
 | ptr (r i j:Nat)
 | pin (cs:List AVal)
 | vp (r j:Nat)
 | mpr (r:Nat)
 | anyp
 | fn (f:Nat) (first captured:List AVal)
 | tup (vs:List AVal)
 | dead
inductive OTy:Type
 | t (n:TypeId)
 | m (n:TypeId) (es:List (AVal×AVal))
 | b (n:TypeId)
instance (n:Nat):OfNat OTy n:=⟨.t n⟩
instance:Coe TypeId OTy:=⟨.t⟩
@[simp] theorem OTy.lit (n:Nat):(OfNat.ofNat n:OTy)=OTy.t (OfNat.ofNat n):=rfl
def OTy.id:OTy->TypeId
 | .t n=>n
 | .m n _=>n
 | .b n=>n
def OTy.isB:OTy->Bool
 | .b _=>true
 | _=>false
def OTy.isM:OTy->Bool
 | .m _ _=>true
 | _=>false
def OTy.ents:OTy->List (AVal×AVal)
 | .m _ es=>es
 | _=>[]
def OTy.setM:OTy->List (AVal×AVal)->OTy
 | .m n _,es=>.m n es
 | .t n,_=>.t n
 | .b n,_=>.b n
structure AObj where
 ty:OTy
 sz:Nat
 es:List (List AVal)
abbrev Env:=Nat->AVal
abbrev Z2:=Nat->Option AObj
def upd {α:Type} (f:Nat->α) (d:Nat) (v:α):Nat->α:=fun t=>if t=d then v else f t
theorem upd_apply {α:Type} (f:Nat->α) (d:Nat) (v:α) (t:Nat):upd f d v t=if t=d then v else f t:=rfl
@[simp] theorem Z9 {α:Type} (f:Nat->α) (d:Nat) (v:α):upd f d v d=v:=by simp [upd]
theorem J7 {α:Type} (f:Nat->α) {d t:Nat} (v:α) (h:t≠d):upd f d v t=f t:=by simp [upd,h]
structure Ghost where
 eta:Nat->Nat
 bo:Nat->Nat
 cap:Nat->Nat
 sz:Nat->Nat
 nxt:Nat
 fz:Nat->Prop
 tn:Nat->Prop:=fun _=>False
inductive VRel (g:Ghost) (w:World):Value->AVal->Prop
 | prim (v:Value):VRel g w v (.prim v)
 | int (k:IntKind) (n:Int):VRel g w (.int k n) (.int k n)
 | bool (b:Bool):VRel g w (.bool b) (.bool b)
 | str (s:ByteArray):VRel g w (.string s) (.str s.data.toList)
 | agg (vs:Array Value) (cs:List AVal) (hl:vs.size=cs.length) (h1:∀ (j:Nat) (u:Value),vs[j]? = some u->u.oneCell'=true)
    (h:∀ (j:Nat) (u:Value) (c:AVal),vs[j]? = some u->cs[j]? = some c->VRel g w u c):VRel g w (.agg vs) (.agg cs)
 | slc0 (A:Option Addr) (c:Nat):VRel g w (.slice A 0 c) (.slc [])
 | slc (ad:Addr) (n c sz:Nat) (es:List (List AVal)) (us:Nat->Nat->Value) (hn:es.length=n) (hc:n<=c)
    (hsz:∀ e∈es,e.length=sz) (hs:ad.spot=none) (hf:g.fz ad.block)
    (h1:∀ (i j:Nat) (e:List AVal) (a:AVal),es[i]? = some e->e[j]? = some a->w.cell? (ad.add (i*sz+j))=some (us i j))
    (h2:∀ (i j:Nat) (e:List AVal) (a:AVal),es[i]? = some e->e[j]? = some a->(us i j).oneCell'=true)
    (h3:∀ (i j:Nat) (e:List AVal) (a:AVal),es[i]? = some e->e[j]? = some a->VRel g w (us i j) a):VRel g w (.slice (some ad) n c) (.slc es)
 | emp0:VRel g w (.slice none 0 0) .emp
 | empS (ad:Addr) (hs:ad.spot=none) (hf:g.fz ad.block) (hc:∃ cur t f,w.heap[ad.block]? = some (.cells cur t f)):VRel g w (.slice (some ad) 0 0) .emp
 | osl0 (r sz:Nat) (hr:r<g.nxt) (hc:g.cap r=0) (hz:g.sz r=sz):VRel g w (.slice none 0 0) (.osl r sz 0 0)
 | osl (r sz i n cap off:Nat) (hr:r<g.nxt) (hz:g.sz r=sz) (hc:n<=cap) (hm:cap<=maxLen) (hi:i+cap=g.cap r) (ho:0<cap->off=g.bo r+i*sz) :
    VRel g w (.slice (some ⟨g.eta r,off,none⟩) n cap) (.osl r sz i n)
 | ptr (r i j:Nat) (hr:r<g.nxt):VRel g w (.pointer (some ⟨g.eta r,g.bo r+i*g.sz r+j,none⟩)) (.ptr r i j)
 | vp (r j:Nat) (hr:r<g.nxt) (hb:g.bo r=0) (hc:g.cap r=1):VRel g w (.pointer (some ⟨g.eta r,j,none⟩)) (.vp r j)
 | mpr (r:Nat) (hr:r<g.nxt):VRel g w (.map (some (g.eta r))) (.mpr r)
 | anyp (q:Option Addr):VRel g w (.pointer q) .anyp
 | pin (ad:Addr) (cs:List AVal) (us:Nat->Value) (hs:ad.spot=none) (hf:g.fz ad.block)
    (h1:∀ (j:Nat) (a:AVal),cs[j]? = some a->w.cell? (ad.add j)=some (us j))
    (h2:∀ (j:Nat) (a:AVal),cs[j]? = some a->(us j).oneCell'=true)
    (h3:∀ (j:Nat) (a:AVal),cs[j]? = some a->VRel g w (us j) a):VRel g w (.pointer (some ad)) (.pin cs)
 | fn (f:Nat) (fs cs:Array Value) (as bs:List AVal) (hf:fs.size=as.length) (hc:cs.size=bs.length)
    (h1:∀ (j:Nat) (u:Value) (a:AVal),fs[j]? = some u->as[j]? = some a->VRel g w u a)
    (h2:∀ (j:Nat) (u:Value) (a:AVal),cs[j]? = some u->bs[j]? = some a->VRel g w u a):VRel g w (.func (.func f) fs cs) (.fn f as bs)
 | tup (vs:Array Value) (as:List AVal) (hl:vs.size=as.length)
    (h:∀ (j:Nat) (u:Value) (a:AVal),vs[j]? = some u->as[j]? = some a->VRel g w u a):VRel g w (.tuple vs) (.tup as)
 | dead (v:Value):VRel g w v .dead
structure GStep (g:Ghost) (w:World) (g':Ghost) (w':World):Prop where
 nxt:g.nxt<=g'.nxt
 eta:∀ r,r<g.nxt->g'.eta r=g.eta r
 bo:∀ r,r<g.nxt->g'.bo r=g.bo r
 cap:∀ r,r<g.nxt->g'.cap r=g.cap r
 sz:∀ r,r<g.nxt->g'.sz r=g.sz r
 fz:∀ b,g.fz b->g'.fz b
 keep:∀ b,g.fz b->w'.heap[b]? = w.heap[b]?
 os:w'.os=w.os
 tape:w'.tape=w.tape
 output:w'.output=w.output
 size:w.heap.size<=w'.heap.size
theorem GStep.refl (g:Ghost) (w:World):GStep g w g w:=
 ⟨Nat.le_refl _,fun _ _=>rfl,fun _ _=>rfl,fun _ _=>rfl,fun _ _=>rfl,fun _ h=>h,fun _ _=>rfl,rfl,rfl,rfl,Nat.le_refl _⟩
theorem GStep.trans {g g1 g2:Ghost} {w w1 w2:World} (h:GStep g w g1 w1) (k:GStep g1 w1 g2 w2):GStep g w g2 w2:=
 ⟨Nat.le_trans h.nxt k.nxt,fun r hr=>(k.eta r (Nat.lt_of_lt_of_le hr h.nxt)).trans (h.eta r hr),fun r hr=>(k.bo r (Nat.lt_of_lt_of_le hr h.nxt)).trans (h.bo r hr),
   fun r hr=>(k.cap r (Nat.lt_of_lt_of_le hr h.nxt)).trans (h.cap r hr),fun r hr=>(k.sz r (Nat.lt_of_lt_of_le hr h.nxt)).trans (h.sz r hr),
   fun b hb=>k.fz b (h.fz b hb),fun b hb=>(k.keep b (h.fz b hb)).trans (h.keep b hb),k.os.trans h.os,k.tape.trans h.tape,k.output.trans h.output,Nat.le_trans h.size k.size⟩
def Own (g:Ghost) (b:Nat):Prop:=∃ r,r<g.nxt/\g.cap r≠0/\g.eta r=b
def V8 (w:World) (b:Nat):Prop:=∃ o,w.heap[b]? = some o/\o.isCells=false
structure GS (g:Ghost) (w:World) (g':Ghost) (w':World):Prop extends GStep g w g' w' where
 own:∀ b,b<w.heap.size->(¬ Own g b\/V8 w b)->w'.heap[b]? = w.heap[b]?
 new:∀ b,b<w.heap.size->Own g' b->Own g b
 fzn:∀ b,b<w.heap.size->¬ Own g b->g'.fz b->g.fz b
 fzc:∀ b,g'.fz b->g.fz b\/¬ V8 w' b
instance (g:Ghost) (w:World) (g':Ghost) (w':World):Coe (GS g w g' w') (GStep g w g' w'):=⟨GS.toGStep⟩
theorem GS.refl (g:Ghost) (w:World):GS g w g w:=⟨GStep.refl g w,fun _ _ _=>rfl,fun _ _ h=>h,fun _ _ _ h=>h,fun _ h=>.inl h⟩
theorem GS.trans {g g1 g2:Ghost} {w w1 w2:World} (h:GS g w g1 w1) (k:GS g1 w1 g2 w2):GS g w g2 w2:=
 ⟨h.toGStep.trans k.toGStep,fun b hb hn=>by
   have e:=h.own b hb hn
   refine (k.own b (Nat.lt_of_lt_of_le hb h.size) ?_).trans e
   rcases hn with hn | ⟨o,ho,hc⟩
   ·exact .inl fun ho=>hn (h.new b hb ho)
   ·exact .inr ⟨o,e.trans ho,hc⟩,
   fun b hb ho=>h.new b hb (k.new b (Nat.lt_of_lt_of_le hb h.size) ho),
   fun b hb hn hf=>h.fzn b hb hn (k.fzn b (Nat.lt_of_lt_of_le hb h.size) (fun ho=>hn (h.new b hb ho)) hf),
   fun b hf=>by
    rcases k.fzc b hf with h1 | h1
    ·rcases h.fzc b h1 with h2 | h2
     ·exact .inl h2
     ·exact .inr fun ⟨o,ho,hc⟩=>h2 ⟨o,(k.keep b h1).symm.trans ho,hc⟩
    ·exact .inr h1⟩
def Turns (w:World) (b:Nat):Prop:=∃ o,w.heap[b]? = some o/\((∃ x y,o=.map x y) \/ ∃ s p,o=.stringIter s p)
structure GSh (g:Ghost) (w:World) (g':Ghost) (w':World):Prop extends GStep g w g' w' where
 own:∀ b,b<w.heap.size->¬ (g.tn b/\Turns w b)->(¬ Own g b\/V8 w b)->w'.heap[b]? = w.heap[b]?
 new:∀ b,b<w.heap.size->Own g' b->Own g b
 fzn:∀ b,b<w.heap.size->¬ Own g b->g'.fz b->g.fz b
 fzc:∀ b,g'.fz b->g.fz b\/¬ V8 w' b
instance (g:Ghost) (w:World) (g':Ghost) (w':World):Coe (GSh g w g' w') (GStep g w g' w'):=⟨GSh.toGStep⟩
theorem GS.h {g g':Ghost} {w w':World} (S:GS g w g' w'):GSh g w g' w':=⟨S.toGStep,fun b hb _ hn=>S.own b hb hn,S.new,S.fzn,S.fzc⟩
theorem GSh.transOf {g g1 g2:Ghost} {w w1 w2:World} (h:GSh g w g1 w1) (S:GStep g1 w1 g2 w2) (own:∀ b,b<w.heap.size->¬ (g.tn b/\Turns w b)->(¬ Own g b\/V8 w b)->w2.heap[b]? = w1.heap[b]?)
 (new:∀ b,b<w1.heap.size->Own g2 b->Own g1 b) (fzn:∀ b,b<w1.heap.size->¬ Own g1 b->g2.fz b->g1.fz b) (fzc:∀ b,g2.fz b->g1.fz b\/¬ V8 w2 b):GSh g w g2 w2:=
 ⟨h.toGStep.trans S,fun b hb hm hn=>(own b hb hm hn).trans (h.own b hb hm hn),
   fun b hb ho=>h.new b hb (new b (Nat.lt_of_lt_of_le hb h.size) ho),
   fun b hb hn hf=>h.fzn b hb hn (fzn b (Nat.lt_of_lt_of_le hb h.size) (fun ho=>hn (h.new b hb ho)) hf),
   fun b hf=>by
    rcases fzc b hf with h1 | h1
    ·rcases h.fzc b h1 with h2 | h2
     ·exact .inl h2
     ·exact .inr fun ⟨o,ho,hc⟩=>h2 ⟨o,(S.keep b h1).symm.trans ho,hc⟩
    ·exact .inr h1⟩
theorem GSh.cond {g g1:Ghost} {w w1:World} (h:GSh g w g1 w1) {b:Nat} (hb:b<w.heap.size) (hm:¬ (g.tn b/\Turns w b)) (hn:¬ Own g b\/V8 w b):¬ Own g1 b\/V8 w1 b:=by
 rcases hn with hn | ⟨o,ho,hc⟩
 ·exact .inl fun ho=>hn (h.new b hb ho)
 ·exact .inr ⟨o,(h.own b hb hm (.inr ⟨o,ho,hc⟩)).trans ho,hc⟩
theorem GSh.trans {g g1 g2:Ghost} {w w1 w2:World} (h:GSh g w g1 w1) (k:GS g1 w1 g2 w2):GSh g w g2 w2:=
 h.transOf k.toGStep (fun b hb hm hn=>k.own b (Nat.lt_of_lt_of_le hb h.size) (h.cond hb hm hn)) k.new k.fzn k.fzc
def Ghost.shut (g:Ghost):Ghost:={ g with tn:=fun _=>False }
theorem GStep.shut (g:Ghost) (w:World):GStep g w g.shut w:=
 ⟨Nat.le_refl _,fun _ _=>rfl,fun _ _=>rfl,fun _ _=>rfl,fun _ _=>rfl,fun _ h=>h,fun _ _=>rfl,rfl,rfl,rfl,Nat.le_refl _⟩
theorem GSh.reflM (g:Ghost) (w:World) (m:Nat->Prop):GSh { g with tn:=m } w g w:=
 ⟨⟨Nat.le_refl _,fun _ _=>rfl,fun _ _=>rfl,fun _ _=>rfl,fun _ _=>rfl,fun _ h=>h,fun _ _=>rfl,rfl,rfl,rfl,Nat.le_refl _⟩,fun _ _ _ _=>rfl,fun _ _ h=>h,fun _ _ _ h=>h,fun _ h=>.inl h⟩
theorem GSh.ofM {g:Ghost} {m:Nat->Prop} {w w':World} {g':Ghost} (h:GSh { g with tn:=m } w g' w'):GStep g w g' w':=
 ⟨h.nxt,h.eta,h.bo,h.cap,h.sz,h.fz,h.keep,h.os,h.tape,h.output,h.size⟩
theorem GSh.full {g g':Ghost} {w w':World} (h:GSh g.shut w g' w'):GS g w g' w':=
 ⟨GSh.ofM h,fun b hb hn=>h.own b hb (fun h=>h.1) hn,h.new,h.fzn,h.fzc⟩
theorem GSh.refl (g:Ghost) (w:World):GSh g w g w:=(GS.refl g w).h
theorem Addr.block_add (a:Addr) (n:Nat):(a.add n).block=a.block:=by unfold Addr.add;split <;> rfl
theorem Addr.add_add' (a:Addr) (i j:Nat):(a.add i).add j=a.add (i+j):=by
 unfold Addr.add
 by_cases hi:i=0 <;> by_cases hj:j=0 <;> simp [hi,hj,Nat.add_assoc]
theorem VRel.step {g g':Ghost} {w w':World} (hs:GStep g w g' w') {v:Value} {a:AVal} (h:VRel g w v a):VRel g' w' v a:=by
 have hcell:∀ ad:Addr,g.fz ad.block->w'.cell? ad=w.cell? ad:=fun ad hb=>World.cell?_of_block (hs.keep _ hb)
 induction h with
 | prim v=>exact .prim v
 | int k n=>exact .int k n
 | bool b=>exact .bool b
 | str s=>exact .str s
 | agg vs cs hl h1 _ ih=>exact .agg vs cs hl h1 ih
 | slc0 A c=>exact .slc0 A c
 | slc ad n c sz es us hn hc hsz hsp hf h1 h2 _ ih=>
   exact .slc ad n c sz es us hn hc hsz hsp (hs.fz _ hf) (fun i j e a he ha=>(hcell _ (by rw [Addr.block_add];exact hf)).trans (h1 i j e a he ha)) h2 ih
 | emp0=>exact .emp0
 | empS ad hsp hf hc=>exact .empS ad hsp (hs.fz _ hf) (by rw [hs.keep _ hf];exact hc)
 | osl0 r sz hr hc hz=>exact .osl0 r sz (Nat.lt_of_lt_of_le hr hs.nxt) ((hs.cap r hr).trans hc) ((hs.sz r hr).trans hz)
 | osl r sz i n cap off hr hz hc hm hi ho=>
   rw [<-hs.eta r hr]
   exact .osl r sz i n cap off (Nat.lt_of_lt_of_le hr hs.nxt) ((hs.sz r hr).trans hz) hc hm (hi.trans (hs.cap r hr).symm) (fun h0=>by rw [hs.bo r hr];exact ho h0)
 | ptr r i j hr=>
   rw [<-hs.eta r hr,<-hs.bo r hr,<-hs.sz r hr]
   exact .ptr r i j (Nat.lt_of_lt_of_le hr hs.nxt)
 | vp r j hr hb hc=>
   rw [<-hs.eta r hr]
   exact .vp r j (Nat.lt_of_lt_of_le hr hs.nxt) ((hs.bo r hr).trans hb) ((hs.cap r hr).trans hc)
 | mpr r hr=>
   rw [<-hs.eta r hr]
   exact .mpr r (Nat.lt_of_lt_of_le hr hs.nxt)
 | anyp q=>exact .anyp q
 | pin ad cs us hsp hf h1 h2 _ ih=>
   exact .pin ad cs us hsp (hs.fz _ hf) (fun j a ha=>(hcell _ (by rw [Addr.block_add];exact hf)).trans (h1 j a ha)) h2 ih
 | fn f fs cs as bs hf hc _ _ ih1 ih2=>exact .fn f fs cs as bs hf hc ih1 ih2
 | tup vs as hl _ ih=>exact .tup vs as hl ih
 | dead v=>exact .dead v
def deVp:AVal->AVal
 | .vp r j=>.ptr r 0 j
 | x=>x
theorem VRel.deVp {g:Ghost} {w:World} {v:Value} {a:AVal} (h:VRel g w v a):VRel g w v (deVp a):=by
 cases h with
 | vp r j hr hb hc=>
   have:=VRel.ptr (g:=g) (w:=w) r 0 j hr
   simpa [hb,Sim.deVp] using this
 | _=>constructor <;> assumption
def VRelL (g:Ghost) (w:World) (vs:Array Value) (as:List AVal):Prop:=
 vs.size=as.length /\ ∀ (j:Nat) (u:Value) (a:AVal),vs[j]? = some u->as[j]? = some a->VRel g w u a
def CellsAt (w:World) (b:Nat) (cur:Array Value) (t:OTy):Prop:=∃ lo hi:Nat,w.heap[b]? = some (.cells cur t.id (lo,hi))/\((lo=0/\hi=0)\/(cur.size<=lo/\t.isB=true))
theorem CellsAt.mk0 {w:World} {b:Nat} {cur:Array Value} {t:OTy} (h:w.heap[b]? = some (.cells cur t.id (0,0))):CellsAt w b cur t:=⟨0,0,h,.inl ⟨rfl,rfl⟩⟩
theorem CellsAt.ty {w:World} {b:Nat} {cur:Array Value} {t t':OTy} (h:CellsAt w b cur t) (h1:t'.id=t.id) (h2:t'.isB=t.isB):CellsAt w b cur t':=by
 unfold CellsAt at h ⊢; rw [h1,h2];exact h
theorem CellsAt.un {w:World} {b:Nat} {cur:Array Value} {t:OTy} (h:CellsAt w b cur t) (ht:t.isB=false):w.heap[b]? = some (.cells cur t.id (0,0)):=by
 obtain ⟨lo,hi,h,⟨rfl,rfl⟩ | ⟨_,k⟩⟩:=h
 ·exact h
 ·rw [ht] at k;cases k
theorem CellsAt.ex {w:World} {b:Nat} {cur:Array Value} {t:OTy} (h:CellsAt w b cur t):∃ fr,w.heap[b]? = some (.cells cur t.id fr):=by obtain ⟨lo,hi,h,_⟩:=h;exact ⟨_,h⟩
theorem CellsAt.cell {w:World} {b:Nat} {cur:Array Value} {t:OTy} (h:CellsAt w b cur t) {k:Nat}:w.cell? ⟨b,k,none⟩=cur[k]? := by obtain ⟨lo,hi,h,_⟩:=h;exact cell_of_row w b k cur t.id _ h
theorem CellsAt.of {w w':World} {b b':Nat} {cur:Array Value} {t:OTy} (h:CellsAt w b cur t) (e:w'.heap[b']? = w.heap[b]?):CellsAt w' b' cur t:=by obtain ⟨lo,hi,h,k⟩:=h;exact ⟨lo,hi,e.trans h,k⟩
theorem CellsAt.inj {w:World} {b:Nat} {cur cur':Array Value} {t t':OTy} (h:CellsAt w b cur t) (h':CellsAt w b cur' t'):cur=cur':=by
 obtain ⟨lo,hi,h,_⟩:=h
 obtain ⟨lo',hi',h',_⟩:=h'
 have e:=h.symm.trans h'
 injection e with e
 injection e
structure ORel (g:Ghost) (w:World) (r:Nat) (o:AObj):Prop where
 lt:r<g.nxt
 sz:g.sz r=o.sz
 pos:0<o.sz
 len:∀ e∈o.es,e.length=o.sz
 le:o.es.length<=g.cap r
 block:g.cap r=0\/(g.eta r<w.heap.size/\¬ g.fz (g.eta r) /\ ∃ cur:Array Value,CellsAt w (g.eta r) cur o.ty /\
  g.bo r+g.cap r*o.sz=cur.size /\
  ∀ (i j:Nat) (e:List AVal) (a:AVal),o.es[i]? = some e->e[j]? = some a -> ∃ u:Value,cur[g.bo r+(i*o.sz+j)]? = some u/\u.oneCell'=true/\VRel g w u a)
def MapAt (h:Z2) (r:Nat) (n:TypeId) (es:List (AVal×AVal)):Prop:=∃ sz cs,h r=some ⟨.m n es,sz,cs⟩
def itO (l:List UInt8) (p:Nat):AObj:=⟨.m 0 [(.slc [[],[.str l]],.int .i64 p)],1,[]⟩
def T8 (l:List UInt8) (p:Nat):Nat×Nat:=Utf8.decode ⟨l.toArray⟩ p
def BlkIs (g:Ghost) (w:World) (o:Obj) (es:List (AVal×AVal)):Prop:=
 (∃ (ents:Array MapEntry) (clock:Nat),o=.map ents clock/\ents.size=es.length /\
   ∀ (i:Nat) (k v:AVal),es[i]? = some (k,v) -> ∃ en,ents[i]? = some en/\VRel g w en.key k/\VRel g w en.val v) \/
 ∃ (s:ByteArray) (p:Nat),o=.stringIter s p/\es=[(.slc [[],[.str s.data.toList]],.int .i64 p)]
theorem BlkIs.step {g g':Ghost} {w w':World} (S:GStep g w g' w') {o:Obj} {es:List (AVal×AVal)} (B:BlkIs g w o es):BlkIs g' w' o es:=by
 rcases B with ⟨ents,clock,e,hl,he⟩ | B
 ·refine .inl ⟨ents,clock,e,hl,fun i k v hi=>?_⟩
  obtain ⟨en,h1,h2,h3⟩:=he i k v hi
  exact ⟨en,h1,h2.step S,h3.step S⟩
 ·exact .inr B
theorem BlkIs.nc {g:Ghost} {w:World} {o:Obj} {es:List (AVal×AVal)} (B:BlkIs g w o es):o.isCells=false:=by
 rcases B with ⟨ents,clock,e,_⟩ | ⟨s,p,e,_⟩ <;> subst e <;> rfl
theorem BlkIs.cells {g:Ghost} {w:World} {c:Array Value} {t:TypeId} {f:Nat×Nat} {es:List (AVal×AVal)} (B:BlkIs g w (.cells c t f) es):False:=by cases B.nc
theorem BlkIs.loop {g:Ghost} {w:World} {l:Loop} {es:List (AVal×AVal)} (B:BlkIs g w (.loop l) es):False:=by
 rcases B with ⟨ents,clock,e,_⟩ | ⟨s,p,e,_⟩ <;> cases e
theorem BlkIs.defd {g:Ghost} {w:World} {d:Option (List Deferred)} {es:List (AVal×AVal)} (B:BlkIs g w (.deferred d) es):False:=by
 rcases B with ⟨ents,clock,e,_⟩ | ⟨s,p,e,_⟩ <;> cases e
structure MRel (g:Ghost) (w:World) (r:Nat) (es:List (AVal×AVal)):Prop where
 lt:r<g.nxt
 own:¬ Own g (g.eta r)
 fz:¬ g.fz (g.eta r)
 bo:g.bo r=0
 block:∃ o:Obj,w.heap[g.eta r]? = some o/\BlkIs g w o es
structure MOb (h:Z2) (g:Ghost) (w:World):Prop where
 one:∀ r n es,MapAt h r n es->MRel g w r es
 two:∀ r r' n n' es es',MapAt h r n es->MapAt h r' n' es'->g.eta r=g.eta r'->r=r'
theorem MRel.step {g g':Ghost} {w w':World} (S:GS g w g' w') {r:Nat} {es:List (AVal×AVal)} (M:MRel g w r es):MRel g' w' r es:=by
 obtain ⟨o,hb,hB⟩:=M.block
 have hlt:g.eta r<w.heap.size:=(Array.getElem?_eq_some_iff.1 hb).1
 have e:g'.eta r=g.eta r:=S.eta r M.lt
 refine ⟨Nat.lt_of_lt_of_le M.lt S.nxt,?_,?_,(S.bo r M.lt).trans M.bo,o,?_,hB.step S.toGStep⟩
 ·rw [e];exact fun h=>M.own (S.new _ hlt h)
 ·rw [e];exact fun h=>M.fz (S.fzn _ hlt M.own h)
 ·rw [e];exact (S.own _ hlt (.inl M.own)).trans hb
theorem MOb.step {h h':Z2} {g g':Ghost} {w w':World} (M:MOb h g w) (S:GS g w g' w') (hh:∀ r n es,MapAt h' r n es->MapAt h r n es):MOb h' g' w':=
 ⟨fun r n es hr=>(M.one r n es (hh r n es hr)).step S,fun r r' n n' es es' hr hr' he=>by
   have h1:=hh _ _ _ hr
   have h2:=hh _ _ _ hr'
   rw [S.eta r (M.one _ _ _ h1).lt,S.eta r' (M.one _ _ _ h2).lt] at he
   exact M.two _ _ _ _ _ _ h1 h2 he⟩
theorem MOb.none {g:Ghost} {w:World}:MOb (fun _=>none) g w:=⟨(fun r n es ⟨_,_,h⟩=>by cases h),(fun r r' n n' es es' ⟨_,_,h⟩=>by cases h)⟩
theorem MapAt.updT {h:Z2} {r r':Nat} {n n':TypeId} {sz:Nat} {cs:List (List AVal)} {es:List (AVal×AVal)} (H:MapAt (upd h r' (some ⟨.t n',sz,cs⟩)) r n es):r≠r'/\MapAt h r n es:=by
 obtain ⟨s,c,hh⟩:=H
 unfold upd at hh
 split at hh
 ·cases hh
 ·rename_i hne;exact ⟨hne,s,c,hh⟩
theorem MapAt.updO {h:Z2} {r r':Nat} {n:TypeId} {o:AObj} {es:List (AVal×AVal)} (H:MapAt (upd h r' (some o)) r n es) (ho:o.ty.isM=false):r≠r'/\MapAt h r n es:=by
 obtain ⟨s,c,hh⟩:=H
 unfold upd at hh
 split at hh
 ·cases hh;cases ho
 ·rename_i hne;exact ⟨hne,s,c,hh⟩
theorem MapAt.updE {h:Z2} {r r':Nat} {n:TypeId} {ob:AObj} {cs:List (List AVal)} {es:List (AVal×AVal)} (ho:h r'=some ob) (H:MapAt (upd h r' (some { ob with es:=cs })) r n es):MapAt h r n es:=by
 obtain ⟨s,c,hh⟩:=H
 unfold upd at hh
 split at hh
 ·rename_i he;subst he
  obtain ⟨t,z,q⟩:=ob
  simp only [Option.some.injEq,AObj.mk.injEq] at hh
  exact ⟨z,q,by rw [ho,hh.1]⟩
 ·exact ⟨s,c,hh⟩
structure HRel (h:Z2) (g:Ghost) (w:World):Prop where
 obj:∀ r o,h r=some o->ORel g w r o
 inj:∀ r r' o o',h r=some o->h r'=some o'->g.cap r≠0->g.cap r'≠0->g.eta r=g.eta r'->r=r'
 fz:∀ b,g.fz b->b<w.heap.size
 ow:∀ b,Own g b -> ∃ cur t f,w.heap[b]? = some (.cells cur t f)
 mob:MOb h g w
theorem HRel.none_nxt {h:Z2} {g:Ghost} {w:World} (H:HRel h g w):h g.nxt=none:=by
 cases hh:h g.nxt with
 | none=>rfl
 | some o=>exact absurd (H.obj _ _ hh).lt (Nat.lt_irrefl _)
abbrev U5:=Nat->AVal
inductive Dat:AVal->Prop
 | prim (v:Value):Dat (.prim v)
 | int (k:IntKind) (n:Int):Dat (.int k n)
 | bool (b:Bool):Dat (.bool b)
 | str (l:List UInt8):Dat (.str l)
 | agg (cs:List AVal) (h:∀ c∈cs,Dat c):Dat (.agg cs)
 | slc (es:List (List AVal)) (h:∀ e∈es,∀ c∈e,Dat c):Dat (.slc es)
 | emp:Dat .emp
 | pin (cs:List AVal) (h:∀ c∈cs,Dat c):Dat (.pin cs)
 | tup (cs:List AVal) (h:∀ c∈cs,Dat c):Dat (.tup cs)
 | dead:Dat .dead
def GRel (G:U5) (g:Ghost) (w:World):Prop:=∀ b,Dat (G b)/\VRel g w (.pointer (some ⟨b,0,none⟩)) (G b)
theorem GRel.step {G:U5} {g g':Ghost} {w w':World} (hs:GStep g w g' w') (h:GRel G g w):GRel G g' w':=fun b=>⟨(h b).1,(h b).2.step hs⟩
structure PG where
 p:Program
 gl:U5
instance:Coe PG Program:=⟨PG.p⟩
structure DOK (g:Ghost) (w:World) (ds:List Deferred):Prop where
 one:∀ d∈ds,∃ D,d = { target:=.collected D,args:=#[] }/\w.heap[D]? = some (.deferred (some []))/\¬ Own g D/\¬ g.fz D
 two:ds.Pairwise (· ≠ ·)
theorem DOK.nil (g:Ghost) (w:World):DOK g w []:=⟨(fun d hd=>by cases hd),.nil⟩
theorem DOK.step {g g':Ghost} {w w':World} {ds:List Deferred} (hs:GS g w g' w') (h:DOK g w ds):DOK g' w' ds:=by
 refine ⟨fun d hd=>?_,h.two⟩
 obtain ⟨D,e,hD,ho,hf⟩:=h.one d hd
 have hlt:D<w.heap.size:=(Array.getElem?_eq_some_iff.1 hD).1
 exact ⟨D,e,(hs.own D hlt (.inl ho)).trans hD,fun h=>ho (hs.new D hlt h),fun h=>hf (hs.fzn D hlt ho h)⟩
theorem DOK.stepH {g g':Ghost} {w w':World} {ds:List Deferred} {m:Nat->Prop} (hs:GSh { g with tn:=m } w g' w') (h:DOK g w ds):DOK g' w' ds:=by
 refine ⟨fun d hd=>?_,h.two⟩
 obtain ⟨D,e,hD,ho,hf⟩:=h.one d hd
 have hlt:D<w.heap.size:=(Array.getElem?_eq_some_iff.1 hD).1
 have hT:¬ Turns w D:=by
  rintro ⟨o,q,⟨x,y,rfl⟩ | ⟨s,p,rfl⟩⟩ <;> (rw [hD] at q;cases q)
 exact ⟨D,e,(hs.own D hlt (fun h=>hT h.2) (.inl ho)).trans hD,fun h=>ho (hs.new D hlt h),fun h=>hf (hs.fzn D hlt ho h)⟩
structure ERel (n:Nat) (e:Env) (g:Ghost) (w:World) (a:Act):Prop where
 defers:DOK g w a.defers
 size:a.tmps.size=n
 bnd:n<=1000000
 slot:∀ t,t<1000000->VRel g w (a.tmps.getD t undef) (e t)
 glo:∀ b,VRel g w (.pointer (some ⟨b,0,none⟩)) (e (1000000+b))
theorem ERel.step {n:Nat} {e:Env} {g g':Ghost} {w w':World} {a:Act} (hs:GS g w g' w') (h:ERel n e g w a):ERel n e g' w' a:=
 ⟨h.defers.step hs,h.size,h.bnd,fun t ht=>(h.slot t ht).step hs,fun b=>(h.glo b).step hs⟩
def V3 (e:Env):Option Nat->AVal->Env
 | some d,v=>upd e d v
 | none,_=>e
theorem ERel.put {n:Nat} {e:Env} {g:Ghost} {w:World} {a:Act} (h:ERel n e g w a) {dst:Option Nat} (hd:∀ d,dst=some d->d<n) {v:Value} {x:AVal} (hv:VRel g w v x) :
 ERel n (V3 e dst x) g w (a.put dst v):=by
 cases dst with
 | none=>exact h
 | some d=>
   have hlt:d<a.tmps.size:=by rw [h.size];exact hd d rfl
   refine ⟨h.defers,by simp [Act.put,h.size],h.bnd,fun t h6=>?_,fun b=>by
    have:=h.bnd;have:=hd d rfl
    rw [V3,J7 _ _ (by omega)];exact h.glo b⟩
   simp only [Act.put,V3,upd]
   by_cases ht:t=d
   ·subst ht
    rw [if_pos rfl]
    have:(a.tmps.setIfInBounds t v).getD t undef=v:=by simp [Array.getD,hlt]
    rw [this]
    exact hv
   ·rw [if_neg ht]
    have:(a.tmps.setIfInBounds d v).getD t undef=a.tmps.getD t undef:=by
     simp only [Array.getD_eq_getD_getElem?,Array.getElem?_setIfInBounds]
     rw [if_neg (fun h=>ht h.symm)]
    rw [this]
    exact h.slot t h6
inductive SX:Type
 | t (n:Nat)
 | c (v:AVal)
inductive SI:Type
 | mv (x:SX)
 | pick (c a b:SX)
 | bin (op:BinOp) (x y:SX)
 | eqs (neg:Bool) (ks:List Nat) (x y:SX)
 | eqb (neg:Bool) (x y:SX)
 | un (op:UnOp) (x:SX)
 | cvi (k:IntKind) (x:SX)
 | idc (x:SX)
 | r2s (x:SX)
 | fld (off size:Nat) (agg:Bool) (x:SX)
 | fldA (off:Nat) (x:SX)
 | idxA (sz:Nat) (x i:SX)
 | idxG (n:Nat) (x i:SX)
 | idxS (x i:SX)
 | ld (size:Nat) (agg:Bool) (x:SX)
 | ldm (s size:Nat) (agg:Bool) (x:SX)
 | slS (x:SX) (lo hi:Option SX)
 | slA (sz:Nat) (x:SX) (lo hi:Option SX)
 | slM (sz:Nat) (x:SX) (lo hi mx:Option SX)
 | ext (x:SX) (i:Nat)
 | bld (zero:List AVal) (parts:List (Nat×Nat×SX))
 | bldF (ty sz:Nat) (parts:List SX)
 | len (x:SX)
 | lenS (x:SX)
 | min2 (x y:SX)
 | max2 (x y:SX)
 | mkf (f:Nat) (first captured:List SX)
 | isnil (kind:Nat) (neg:Bool) (x:SX)
 | bldR (ty sz:Nat) (parts:List SX)
 | box (ty sz:Nat) (x:SX)
 | boxF (ty sz:Nat) (x:SX)
 | new (ty sz:Nat) (zero:List AVal)
 | newnil (ty sz:Nat)
 | st (size:Nat) (x v:SX)
 | app (ty sz bytes:Nat) (x y:SX)
 | appS (ty bytes:Nat) (x y:SX)
 | appIn (ty sz:Nat) (x y:SX)
 | appF (ty sz bytes:Nat) (x y:SX)
 | frz (x:SX)
 | slX (sz:Nat) (x:SX) (lo hi:Option SX)
 | mks (ty sz bytes:Nat) (zero:List AVal) (n c:SX)
 | copy (sz:Nat) (x y:SX)
 | clear (sz:Nat) (zero:List AVal) (x:SX)
 | call (f:SX) (args:List SX)
 | pcall (f:Nat) (args:List SX)
 | b2s (x:SX)
 | usd (x:SX)
 | ustr (ty:Nat) (x y:SX)
 | mkm (ty:Nat)
 | mup (kt:Option IntKind) (m k v:SX)
 | lkp (kt:Option IntKind) (ok:Bool) (z:AVal) (m k:SX)
 | s2b (ty:Nat) (x:SX)
 | rng (x:SX)
 | nxt (x:SX)
def ev (e:Env):SX->AVal
 | .t n=>e n
 | .c v=>v
def evO (e:Env):Option SX->Option AVal
 | some x=>some (ev e x)
 | none=>none
abbrev Y0 (n:Int):AVal:=.int .i64 n
def QK (op:BinOp) (k:IntKind) (x y:Int):Int:=
 match op with
 | .and=>k.wrap ↑((BitVec.ofInt k.bits x &&& BitVec.ofInt k.bits y).toNat)
 | .or=>k.wrap ↑((BitVec.ofInt k.bits x ||| BitVec.ofInt k.bits y).toNat)
 | .xor=>k.wrap ↑((BitVec.ofInt k.bits x ^^^ BitVec.ofInt k.bits y).toNat)
 | _=>k.wrap ↑((BitVec.ofInt k.bits x &&& ~~~BitVec.ofInt k.bits y).toNat)
def binI (op:BinOp) (k:IntKind) (a b:Int):AVal:=
 match op with
 | .add=>.int k (k.wrap (a+b))
 | .sub=>.int k (k.wrap (a-b))
 | .mul=>.int k (k.wrap (a*b))
 | .quo=>.int k (k.wrap (a.tdiv b))
 | .rem=>.int k (a.tmod b)
 | .shl=>.int k (k.wrap (a*2 ^ (min b.toNat k.bits)))
 | .shr=>.int k (a.fdiv (2 ^ (min b.toNat k.bits)))
 | .eql=>.bool (a==b)
 | .neq=>.bool (a != b)
 | .lss=>.bool (decide (a<b))
 | .leq=>.bool (decide (a<=b))
 | .gtr=>.bool (decide (b<a))
 | .geq=>.bool (decide (b<=a))
 | .and=>.int k (QK .and k a b)
 | .or=>.int k (QK .or k a b)
 | .xor=>.int k (QK .xor k a b)
 | .andNot=>.int k (QK .andNot k a b)
def okI (op:BinOp) (k k':IntKind) (b:Int):Prop:=
 match op with
 | .quo | .rem=>k=k'/\b≠0
 | .shl | .shr=>0<=b
 | _=>k=k'
def binS (op:BinOp) (a b:List UInt8):AVal:=
 match op with
 | .add=>.str (a++b)
 | .eql=>.bool (a==b)
 | .neq=>.bool (a != b)
 | .lss=>.bool (Op.bytesLess a b)
 | .geq=>.bool (!Op.bytesLess a b)
 | .gtr=>.bool (!(Op.bytesLess a b||a==b))
 | .leq=>.bool (Op.bytesLess a b||a==b)
 | _=>.dead
def okS (op:BinOp) (a b:List UInt8):Prop:=
 match op with
 | .add=>a.length+b.length<=9223372036854775807
 | .eql | .neq | .lss | .geq | .gtr | .leq=>True
 | _=>False
def QX (op:BinOp):AVal->AVal->AVal
 | .int k a,.int _ b=>binI op k a b
 | .str a,.str b=>binS op a b
 | _,_=>.dead
def V7 (op:BinOp):AVal->AVal->Prop
 | .int k _,.int k' b=>okI op k k' b
 | .str a,.str b=>okS op a b
 | _,_=>False
def aUn (op:UnOp):AVal->AVal
 | .bool b=>.bool (!b)
 | .int k n=>match op with
   | .neg=>.int k (k.wrap (0-n))
   | .xor=>.int k (QK .xor k (if k.signed then -1 else k.max) n)
   | _=>.dead
 | _=>.dead
def okUn (op:UnOp):AVal->Prop
 | .bool _=>op=.not
 | .int _ _=>op=.neg\/op=.xor
 | _=>False
def Q4:List AVal->List AVal->Bool
 | [],[]=>true
 | .int _ a :: as,.int _ b :: bs=>(a==b)&&Q4 as bs
 | .str a :: as,.str b :: bs=>(a==b)&&Q4 as bs
 | .bool a :: as,.bool b :: bs=>(a==b)&&Q4 as bs
 | _,_=>false
def Q1:List Nat->List AVal->List AVal->Prop
 | [],[],[]=>True
 | 0 :: ts,.int k _ :: as,.int k' _ :: bs=>k=k'/\Q1 ts as bs
 | 1 :: ts,.str _ :: as,.str _ :: bs=>Q1 ts as bs
 | 2 :: ts,.bool _ :: as,.bool _ :: bs=>Q1 ts as bs
 | _,_,_=>False
def okEqs (ks:List Nat):AVal->AVal->Prop
 | .agg as,.agg bs=>Q1 ks as bs
 | _,_=>False
def aEqs (neg:Bool):AVal->AVal->AVal
 | .agg as,.agg bs=>.bool (xor neg (Q4 as bs))
 | _,_=>.dead
def aEqb (neg:Bool):AVal->AVal->AVal
 | .bool a,.bool b=>.bool (xor neg (a==b))
 | _,_=>.dead
def okEqb:AVal->AVal->Prop
 | .bool _,.bool _=>True
 | _,_=>False
def aCvi (k:IntKind):AVal->AVal
 | .int _ n=>.int k (k.wrap n)
 | _=>.dead
def okCvi:AVal->Prop
 | .int _ _=>True
 | _=>False
def aPick:AVal->AVal->AVal->AVal
 | .bool c,a,b=>if c then a else b
 | _,_,_=>.dead
def okPick:AVal->Prop
 | .bool _=>True
 | _=>False
def cutV (size:Nat) (agg:Bool) (cs:List AVal):AVal:=if agg then .agg (cs.take size) else cs.headD .dead
def aFld (off size:Nat) (agg:Bool):AVal->AVal
 | .agg cs=>cutV size agg (cs.drop off)
 | _=>.dead
def okFld (off size:Nat) (agg:Bool):AVal->Prop
 | .agg cs=>off+size<=cs.length/\(agg=false->size=1)
 | _=>False
def aFldA (off:Nat):AVal->AVal
 | .pin cs=>.pin (cs.drop off)
 | .ptr r i j=>.ptr r i (j+off)
 | .vp r j=>.vp r (j+off)
 | _=>.dead
def okFldA:AVal->Prop
 | .pin _=>True
 | .ptr _ _ _=>True
 | .vp _ _=>True
 | _=>False
def aIdxA:AVal->AVal->AVal
 | .slc es,.int _ k=>.pin (es.getD k.toNat [])
 | .osl r _ i _,.int _ k=>.ptr r (i+k.toNat) 0
 | _,_=>.dead
def okIdxA (sz:Nat):AVal->AVal->Prop
 | .slc es,.int _ k=>0<=k/\k<es.length/\(es.getD k.toNat []).length=sz
 | .osl _ sz' _ n,.int _ k=>sz'=sz/\0<=k/\k<n
 | _,_=>False
def aR2s:AVal->AVal
 | .int _ r=>.str (Utf8.encode r).data.toList
 | _=>.dead
def aIdxG:AVal->AVal->AVal
 | .pin cs,.int _ k=>.pin (cs.drop k.toNat)
 | _,_=>.dead
def okIdxG (n:Nat):AVal->AVal->Prop
 | .pin _,.int _ k=>0<=k/\k<n
 | _,_=>False
def aIdxS:AVal->AVal->AVal
 | .str l,.int _ k=>.int .u8 (l.getD k.toNat 0).toNat
 | _,_=>.dead
def okIdxS:AVal->AVal->Prop
 | .str l,.int _ k=>0<=k/\k<l.length
 | _,_=>False
def aLd0 (h:Z2) (size:Nat) (agg:Bool):AVal->AVal
 | .pin cs=>cutV size agg cs
 | .ptr r i j=>match h r with
   | some o=>cutV size agg ((o.es.getD i []).drop j)
   | none=>.dead
 | _=>.dead
def aLd (h:Z2) (size:Nat) (agg:Bool) (x:AVal):AVal:=aLd0 h size agg (deVp x)
def okLd0 (h:Z2) (size:Nat) (agg:Bool):AVal->Prop
 | .pin cs=>size<=cs.length/\(agg=false->size=1)
 | .ptr r i j=>∃ o,h r=some o/\i<o.es.length/\j+size<=(o.es.getD i []).length/\(agg=false->size=1)
 | _=>False
def okLd (h:Z2) (size:Nat) (agg:Bool) (x:AVal):Prop:=okLd0 h size agg (deVp x)
def X2:Option AVal->Int
 | some (.int _ k)=>k
 | _=>0
def X4 (n:Nat):Option AVal->Int
 | some (.int _ k)=>k
 | _=>n
def okB:Option AVal->Prop
 | some (.int _ _)=>True
 | none=>True
 | _=>False
def aSlS:AVal->Option AVal->Option AVal->AVal
 | .str l,lo,hi=>.str ((l.take (X4 l.length hi).toNat).drop (X2 lo).toNat)
 | _,_,_=>.dead
def okSlS:AVal->Option AVal->Option AVal->Prop
 | .str l,lo,hi=>okB lo/\okB hi/\0<=X2 lo/\X2 lo<=X4 l.length hi/\X4 l.length hi<=l.length
 | _,_,_=>False
def aSlA:AVal->Option AVal->Option AVal->AVal
 | .slc es,lo,hi=>.slc ((es.take (X4 es.length hi).toNat).drop (X2 lo).toNat)
 | .osl r sz i n,lo,hi=>.osl r sz (i+(X2 lo).toNat) ((X4 n hi).toNat-(X2 lo).toNat)
 | .emp,_,_=>.emp
 | _,_,_=>.dead
def okSlA (sz:Nat):AVal->Option AVal->Option AVal->Prop
 | .slc es,lo,hi=>okB lo/\okB hi/\0<=X2 lo/\X2 lo<=X4 es.length hi/\X4 es.length hi<=es.length /\ ∀ e∈es,e.length=sz
 | .osl _ sz' _ n,lo,hi=>sz'=sz/\okB lo/\okB hi/\0<=X2 lo/\X2 lo<=X4 n hi/\X4 n hi<=n
 | .emp,lo,hi=>okB lo/\okB hi/\X2 lo=0/\X4 0 hi=0
 | _,_,_=>False
def nOf:AVal->Nat
 | .slc es=>es.length
 | .osl _ _ _ n=>n
 | .str l=>l.length
 | _=>0
def okSlM:AVal->Option AVal->Option AVal->Option AVal->Prop
 | x,lo,hi,mx=>(match x with | .slc _ | .osl .. | .emp=>True | _=>False)/\okB lo/\okB hi/\okB mx/\0<=X2 lo/\X2 lo<=X4 (nOf x) hi/\X4 (nOf x) hi<=X4 (nOf x) mx/\X4 (nOf x) mx<=nOf x
def aExt (i:Nat):AVal->AVal
 | .tup vs=>vs.getD i .dead
 | _=>.dead
def okExt (i:Nat):AVal->Prop
 | .tup vs=>i<vs.length
 | _=>False
def cellsOf:AVal->List AVal
 | .agg cs=>cs
 | a=>[a]
def isV:AVal->Bool
 | .prim v=>v.oneCell'
 | .tup _=>false
 | .dead=>false
 | _=>true
def Q8 (cells:List AVal):List (Nat×Nat×AVal)->List AVal
 | []=>cells
 | (off,size,v) :: r=>Q8 (cells.take off++cellsOf v++cells.drop (off+size)) r
def Q7 (n:Nat):List (Nat×Nat×AVal)->Prop
 | []=>True
 | (off,size,v) :: r=>isV v=true/\(cellsOf v).length=size/\off+size<=n/\Q7 n r
def aLen:AVal->AVal
 | .slc es=>Y0 es.length
 | .osl _ _ _ n=>Y0 n
 | .emp=>Y0 0
 | _=>.dead
def okLen:AVal->Prop
 | .slc _ | .osl .. | .emp=>True
 | _=>False
def aLenS:AVal->AVal
 | .str l=>Y0 l.length
 | _=>.dead
def okLenS:AVal->Prop
 | .str _=>True
 | _=>False
def aMin:AVal->AVal->AVal
 | .int k a,.int _ b=>.int k (min a b)
 | _,_=>.dead
def aMax:AVal->AVal->AVal
 | .int k a,.int _ b=>.int k (max a b)
 | _,_=>.dead
def ok2i:AVal->AVal->Prop
 | .int k _,.int k' _=>k=k'
 | _,_=>False
def U1:Option IntKind->AVal->Bool
 | some kd,.int k _=>decide (k=kd)
 | none,.str _=>true
 | _,_=>false
def YX:AVal->AVal->Bool
 | .int k a,.int k' b=>decide (k=k')&&(a==b)
 | .str a,.str b=>a==b
 | _,_=>false
def KU (k:AVal):List (AVal×AVal)->Option AVal
 | []=>none
 | p :: r=>if YX p.1 k=true then some p.2 else KU k r
def mPut (k v:AVal):List (AVal×AVal)->List (AVal×AVal)
 | []=>[(k,v)]
 | p :: r=>if YX p.1 k=true then (p.1,v) :: r else p :: mPut k v r
def TY (ok:Bool) (z:AVal):Option AVal->AVal
 | some v=>if ok then .tup [v,.bool true] else v
 | none=>if ok then .tup [z,.bool false] else z
def entsOf:Option AObj->List (AVal×AVal)
 | some o=>o.ty.ents
 | none=>[]
def aLkp (h:Z2) (ok:Bool) (z:AVal):AVal->AVal->AVal
 | .mpr r,k=>TY ok z (KU k (entsOf (h r)))
 | _,_=>.dead
def okLkp (h:Z2) (kt:Option IntKind):AVal->AVal->Prop
 | .mpr r,k=>∃ o,h r=some o/\o.ty.isM=true/\U1 kt k=true/\o.ty.ents.all (fun p=>U1 kt p.1)=true
 | _,_=>False
def fop (si:SI) (e:Env) (h:Z2):AVal:=
 match si with
 | .mv x=>ev e x
 | .pick c a b=>aPick (ev e c) (ev e a) (ev e b)
 | .bin op x y=>QX op (ev e x) (ev e y)
 | .eqs neg _ x y=>aEqs neg (ev e x) (ev e y)
 | .eqb neg x y=>aEqb neg (ev e x) (ev e y)
 | .un op x=>aUn op (ev e x)
 | .cvi k x=>aCvi k (ev e x)
 | .r2s x=>aR2s (ev e x)
 | .idc x=>ev e x
 | .fld off size agg x=>aFld off size agg (ev e x)
 | .fldA off x=>aFldA off (ev e x)
 | .idxA _ x i=>aIdxA (ev e x) (ev e i)
 | .idxG _ x i=>aIdxG (ev e x) (ev e i)
 | .idxS x i=>aIdxS (ev e x) (ev e i)
 | .ld size agg x=>aLd h size agg (ev e x)
 | .ldm _ size agg x=>aLd h size agg (ev e x)
 | .slS x lo hi=>aSlS (ev e x) (evO e lo) (evO e hi)
 | .slA _ x lo hi=>aSlA (ev e x) (evO e lo) (evO e hi)
 | .slM _ _ _ _ _=>.dead
 | .ext x i=>aExt i (ev e x)
 | .bld zero parts=>.agg (Q8 zero (parts.map fun p=>(p.1,p.2.1,ev e p.2.2)))
 | .bldF _ _ parts=>if parts.isEmpty then .emp else .slc (parts.map fun x=>cellsOf (ev e x))
 | .len x=>aLen (ev e x)
 | .lenS x=>aLenS (ev e x)
 | .min2 x y=>aMin (ev e x) (ev e y)
 | .max2 x y=>aMax (ev e x) (ev e y)
 | .mkf f first captured=>.fn f (first.map (ev e)) (captured.map (ev e))
 | .lkp _ ok z m k=>aLkp h ok z (ev e m) (ev e k)
 | _=>.dead
def fok (si:SI) (e:Env) (h:Z2):Prop:=
 match si with
 | .mv _=>True
 | .pick c _ _=>okPick (ev e c)
 | .bin op x y=>V7 op (ev e x) (ev e y)
 | .eqs _ ks x y=>okEqs ks (ev e x) (ev e y)
 | .eqb _ x y=>okEqb (ev e x) (ev e y)
 | .un op x=>okUn op (ev e x)
 | .cvi _ x=>okCvi (ev e x)
 | .r2s x=>okCvi (ev e x)
 | .idc x=>∃ l,ev e x=.str l
 | .fld off size agg x=>okFld off size agg (ev e x)
 | .fldA _ x=>okFldA (ev e x)
 | .idxA sz x i=>okIdxA sz (ev e x) (ev e i)
 | .idxG n x i=>okIdxG n (ev e x) (ev e i)
 | .idxS x i=>okIdxS (ev e x) (ev e i)
 | .ld size agg x=>okLd h size agg (ev e x)
 | .ldm s size agg x=>okLd h size agg (ev e x)/\aLd h size agg (ev e x)=e s
 | .slS x lo hi=>okSlS (ev e x) (evO e lo) (evO e hi)
 | .slA sz x lo hi=>okSlA sz (ev e x) (evO e lo) (evO e hi)
 | .slM _ x lo hi mx=>okSlM (ev e x) (evO e lo) (evO e hi) (evO e mx)
 | .ext x i=>okExt i (ev e x)
 | .bld zero parts=>Q7 zero.length (parts.map fun p=>(p.1,p.2.1,ev e p.2.2))
 | .bldF _ sz parts=>∀ x∈parts,isV (ev e x)=true/\(cellsOf (ev e x)).length=sz
 | .len x=>okLen (ev e x)
 | .lenS x=>okLenS (ev e x)
 | .min2 x y=>ok2i (ev e x) (ev e y)
 | .max2 x y=>ok2i (ev e x) (ev e y)
 | .mkf _ _ _=>True
 | .lkp kt _ _ m k=>okLkp h kt (ev e m) (ev e k)
 | _=>False
def SI.stable:SI->Bool
 | .mv _ | .pick .. | .bin .. | .eqs .. | .eqb .. | .un .. | .cvi .. | .idc .. | .r2s .. | .fld .. | .fldA .. | .idxA .. | .idxG .. | .idxS .. | .ld .. | .ldm .. | .slS .. | .slA .. | .slM .. | .ext .. | .bld .. | .bldF .. | .len .. | .lenS .. | .min2 .. | .max2 .. | .mkf .. | .lkp .. => true
 | _=>false
def ofV1:Value->AVal
 | .int k n=>.int k n
 | .bool b=>.bool b
 | .string s=>.str s.data.toList
 | .slice none 0 0=>.emp
 | v=>.prim v
def ofV:Value->AVal
 | .agg cs=>.agg (cs.toList.map ofV1)
 | v=>ofV1 v
def constOK:Value->Bool
 | .agg cs=>cs.toList.all Value.oneCell'
 | v=>v.oneCell'
def Y5:Operand->Option SX
 | .tmp n=>if n<1000000 then some (.t n) else none
 | .const v=>if constOK v then some (.c (ofV v)) else none
 | .func f=>some (.c (.fn f [] []))
 | .global g=>some (.t (1000000+g))
def JX:Option Operand->Option (Option SX)
 | none=>some none
 | some x=>(Y5 x).map some
def toSXs:List Operand->Option (List SX)
 | []=>some []
 | x :: r=>match Y5 x,toSXs r with
   | some a,some b=>some (a :: b)
   | _,_=>none
def isNilC:Operand->Bool
 | .const (.slice none 0 0) | .const .nilFunc | .const (.pointer none) | .const .nilIface | .const (.map none)=>true
 | _=>false
def nilK (P:Program) (t:TypeId) (y:Operand):Option Nat:=
 match P.underlying t,y with
 | some (.slice _),.const (.slice none 0 0)=>some 0
 | some (.pointer _),.const (.pointer none)=>some 1
 | some (.func _ _ _),.const .nilFunc=>some 2
 | _,_=>none
structure Ann where
 pure:List Nat:=[]
 how:List (Nat×Nat):=[]
 mp:List Nat:=[]
def Ann.at (ann:Ann) (dst:Option Nat):Nat:=
 match dst with
 | some d=>(ann.how.lookup d).getD 0
 | none=>0
def szT (P:Program) (t:TypeId):Option Nat:=(P.info? t).map (·.size)
def bytesT (P:Program) (t:TypeId):Option Nat:=(P.info? t).map (·.bytes)
def XU (P:Program) (t:TypeId):Option (List AVal):=(P.info? t).bind fun i=>i.zero.bind fun z=>if constOK z then some (z.cells.toList.map ofV1) else none
def aggT (P:Program) (t:TypeId):Option Bool:=
 match P.underlying t with
 | some (.struct _)=>some true
 | some (.array _ _)=>some true
 | some _=>some false
 | none=>none
def isBoolT (P:Program) (t:TypeId):Bool:=
 match P.underlying t with
 | some .bool=>true
 | _=>false
def isStrT (P:Program) (t:TypeId):Bool:=
 match P.underlying t with
 | some .string=>true
 | _=>false
def W8 (P:Program) (t:TypeId):Option TypeId:=
 match P.underlying t with
 | some (.slice e)=>some e
 | _=>none
def arrT (P:Program) (t:TypeId):Option (Nat×TypeId):=
 match P.underlying t with
 | some (.array n e)=>some (n,e)
 | _=>none
def fieldT (P:Program) (s:TypeId) (f:Nat):Option Field:=
 match P.underlying s with
 | some (.struct fs)=>fs[f]?
 | _=>none
def isSNil:Operand->Bool
 | .const (.slice none 0 0)=>true
 | _=>false
def toMv (P:Program) (ann:Ann) (o:Oper) (x:Operand):Option SI:=
 if ann.at o.dst=1 then
  (match x with
   | .const (.slice none 0 0)=>(W8 P o.type).bind fun e=>(szT P e).bind fun s=>if 0<s then some (.newnil e s) else none
   | _=>none)
 else if ann.at o.dst=7/\isSNil x=true then some (.mv (.c (.prim (.slice none 0 0))))
 else if ann.at o.dst=8 then (Y5 x).map .frz
 else (Y5 x).map .mv
def scalK (P:Program) (t:TypeId):Option Nat:=
 match P.underlying t with
 | some (.int _)=>some 0
 | some .string=>some 1
 | some .bool=>some 2
 | _=>none
def scalKs (P:Program):Nat->List Field->Option (List Nat)
 | _,[]=>some []
 | k, f :: fs => if f.offset = k /\ f.name ≠ "_" then (scalK P f.type).bind fun x => (scalKs P (k + 1) fs).map (x :: ·) else none
def scalKs2 (P:Program):Nat->List Field->Option (List Nat)
 | _,[]=>some []
 | k, f :: fs => if f.offset = k /\ f.name ≠ "_" then
    (match scalK P f.type with
     | some x=>(scalKs2 P (k+1) fs).map (x :: ·)
     | none=>match P.underlying f.type with
       | some (.struct fs')=>if P.stoodInHeld f.type=false then (scalKs P 0 fs'.toList).bind fun ks1=>if 0<ks1.length/\szT P f.type=some ks1.length then (scalKs2 P (k+ks1.length) fs).map (ks1 ++ ·) else none else none
       | _=>none) else none
def eqTy (P:Program) (t:TypeId):Option (List Nat):=
 match P.underlying t with
 | some (.struct fs)=>if P.stoodInHeld t=false/\P.eqGuardType P.depth t=false then scalKs2 P 0 fs.toList else none
 | _=>none
def toBin (P:Program) (op:BinOp) (t:TypeId) (x y:Operand):Option SI:=
 if isNilC y then (nilK P t y).bind fun k=>(if op=.eql then (Y5 x).map (.isnil k false) else if op=.neq then (Y5 x).map (.isnil k true) else none)
 else if isNilC x then none
 else if aggT P t=some true then
  (if op=.eql then (eqTy P t).bind fun ks=>(Y5 x).bind fun x=>(Y5 y).map (.eqs false ks x)
   else if op=.neq then (eqTy P t).bind fun ks=>(Y5 x).bind fun x=>(Y5 y).map (.eqs true ks x) else none)
 else if isBoolT P t=true then
  (if op=.eql then (Y5 x).bind fun x=>(Y5 y).map (.eqb false x)
   else if op=.neq then (Y5 x).bind fun x=>(Y5 y).map (.eqb true x) else none)
 else (Y5 x).bind fun x=>(Y5 y).map (.bin op x)
def toCv (P:Program) (s d:TypeId) (x:Operand):Option SI:=
 match P.underlying s,P.underlying d with
 | some (.int _),some (.int k)=>(Y5 x).map (.cvi k)
 | some .string,some .string=>(Y5 x).map .idc
 | some (.int _),some .string=>(Y5 x).map .r2s
 | some (.slice el),some .string=>match P.underlying el with
    | some (.int .u8)=>(Y5 x).map .b2s
    | _=>none
 | some .string,some (.slice el)=>match P.underlying el with
    | some (.int .u8)=>(Y5 x).map (.s2b el)
    | _=>none
 | _,_=>none
def toParts (P:Program) (fs:Array Field):List (Nat×Operand)->Option (List (Nat×Nat×SX))
 | []=>some []
 | (i,x) :: r=>fs[i]?.bind fun f=>(szT P f.type).bind fun s=>(Y5 x).bind fun x=>(toParts P fs r).map fun r=>(f.offset,s,x) :: r
def toRow:Nat->List (Nat×Operand)->Option (List SX)
 | _,[]=>some []
 | k,(i,x) :: r=>if i=k then (Y5 x).bind fun x=>(toRow (k+1) r).map fun r=>x :: r else none
def toCall (P:Program) (ann:Ann) (o:Oper) (c:Call):Option SI:=
 match c.callee with
 | .value f=>(toSXs c.args.toList).bind fun args=>
    match f with
    | .func k=>if ann.pure.contains k/\ann.at o.dst≠5 then some (.pcall k args) else some (.call (.c (.fn k [] [])) args)
    | .tmp t=>if t<1000000 then some (.call (.t t) args) else none
    | _=>none
 | .builtin .len=>match c.args.toList,c.argTypes.toList with
    | [x],[t]=>match P.underlying t with
      | some .string=>(Y5 x).map .lenS
      | some (.slice _)=>(Y5 x).map .len
      | _=>none
    | _,_=>none
 | .builtin .min=>match c.args.toList with
    | [x,y]=>(Y5 x).bind fun x=>(Y5 y).map (.min2 x)
    | _=>none
 | .builtin .max=>match c.args.toList with
    | [x,y]=>(Y5 x).bind fun x=>(Y5 y).map (.max2 x)
    | _=>none
 | .builtin .append=>match c.args.toList,c.argTypes.toList with
    | [x,y],[t,u]=>(W8 P t).bind fun e=>(szT P e).bind fun s=>(bytesT P e).bind fun b=>(XU P e).bind fun z=>(Y5 x).bind fun x=>(Y5 y).bind fun y=>
        if 0<s/\z.length=s then
         (if t=u then (if ann.at o.dst=3 then some (.appIn e s x y) else if ann.at o.dst=8 then some (.appF e s b x y) else some (.app e s b x y))
          else if isStrT P u=true/\s=1 then some (.appS e b x y) else none)
        else none
    | _,_=>none
 | .builtin .copy=>match c.args.toList,c.argTypes.toList with
    | [x,y],[t,_]=>(W8 P t).bind fun e=>(szT P e).bind fun s=>(Y5 x).bind fun x=>(Y5 y).map (.copy s x)
    | _,_=>none
 | .builtin .clear=>match c.args.toList,c.argTypes.toList with
    | [x],[t]=>(W8 P t).bind fun e=>(szT P e).bind fun s=>(XU P e).bind fun z=>if 0<s/\z.length=s then (Y5 x).map (.clear s z) else none
    | _,_=>none
 | .builtin .unsafeSliceData=>match c.args.toList,P.underlying o.type with
    | [x],some (.pointer _)=>(Y5 x).map .usd
    | _,_=>none
 | .builtin .unsafeString=>match c.args.toList,c.argTypes.toList with
    | [x,y],[t,_]=>match P.underlying t with
      | some (.pointer el)=>if P.cellsOf el=1 then (Y5 x).bind fun x=>(Y5 y).map (.ustr el x) else none
      | _=>none
    | _,_=>none
 | _=>none
def mapT (P:Program) (t:TypeId):Option (TypeId×TypeId):=
 match P.underlying t with
 | some (.map k e)=>some (k,e)
 | _=>none
def keyT (P:Program) (t:TypeId):Option (Option IntKind):=
 match P.underlying t with
 | some (.int kd)=>some (some kd)
 | some .string=>some none
 | _=>none
def zeroA (P:Program) (t:TypeId):Option AVal:=(P.info? t).bind fun i=>i.zero.bind fun z=>if constOK z then some (ofV z) else none
def toSI (P:Program) (ann:Ann) (o:Oper):Option SI:=
 match o.op with
 | .move x=>toMv P ann o x
 | .assign x=>toMv P ann o x
 | .pick c a b=>(Y5 c).bind fun c=>(Y5 a).bind fun a=>(Y5 b).map (.pick c a)
 | .binOp op t x y _=>toBin P op t x y
 | .unOp op _ x=>(Y5 x).map (.un op)
 | .convert s d x=>toCv P s d x
 | .field t x f=>(fieldT P t f).bind fun fd=>(szT P fd.type).bind fun s=>(aggT P fd.type).bind fun g=>(Y5 x).map (.fld fd.offset s g)
 | .fieldAddr t x f=>(fieldT P t f).bind fun fd=>(szT P fd.type).bind fun s=>if 0<s then (Y5 x).map (.fldA fd.offset) else none
 | .nilCheck x=>(Y5 x).map (.fldA 0)
 | .indexAddr t x i=>match arrT P t with
   | some (n,e)=>if szT P e=some 1 then (Y5 x).bind fun x=>(Y5 i).map (.idxG n x) else none
   | none=>(W8 P t).bind fun e=>(szT P e).bind fun s=>(Y5 x).bind fun x=>(Y5 i).map (.idxA s x)
 | .index t x i=>match P.underlying t with
    | some .string=>(Y5 x).bind fun x=>(Y5 i).map (.idxS x)
    | _=>none
 | .load t x=>(szT P t).bind fun s=>(aggT P t).bind fun g=>(Y5 x).map fun y=>if 1000<=ann.at o.dst then .ldm (ann.at o.dst-1000) s g y else .ld s g y
 | .store t x v=>(szT P t).bind fun s=>(Y5 x).bind fun x=>(Y5 v).map (.st s x)
 | .slice t x lo hi mx=>match P.underlying t with
    | some .string=>if mx.isNone then (Y5 x).bind fun x=>(JX lo).bind fun lo=>(JX hi).map (.slS x lo) else none
    | some (.slice e)=>(szT P e).bind fun s=>(Y5 x).bind fun x=>(JX lo).bind fun lo=>(JX hi).bind fun hi=>
       if mx.isNone then (if ann.at o.dst=4 then some (.slX s x lo hi) else some (.slA s x lo hi)) else if hi.isSome then (JX mx).map (.slM s x lo hi) else none
    | _=>none
 | .extract x i=>(Y5 x).map (.ext · i)
 | .build t parts=>match P.underlying t with
    | some (.struct fs)=>if (fs.toList.mapM fun f=>(P.info? f.type).map fun i=>(f.offset,i.size)).isSome then (XU P t).bind fun z=>(toParts P fs parts.toList).map (.bld z) else none
    | _=>none
 | .buildSlice t n parts=>(W8 P t).bind fun e=>(szT P e).bind fun s=>(toRow 0 parts.toList).bind fun row=>
    if 0<s/\row.length=n/\n*s<=16777216/\((P.info? e).bind (·.zero)).isSome then (if ann.at o.dst=2 then some (.bldR e s row) else some (.bldF e s row)) else none
 | .box t x=>(szT P t).bind fun s=>if 0<s then (Y5 x).map (if ann.at o.dst=6 then .box t s else .boxF t s) else none
 | .alloc t=>(szT P t).bind fun s=>(XU P t).bind fun z=>if 0<s/\z.length=s then some (.new t s z) else if s=0 then some (.boxF t 0 (.c (.agg []))) else none
 | .makeFunc (.func f) first captured=>(toSXs first.toList).bind fun a=>(toSXs captured.toList).map (.mkf f a)
 | .makeSlice t n c=>(W8 P t).bind fun e=>(szT P e).bind fun s=>(bytesT P e).bind fun b=>(XU P e).bind fun z=>(Y5 n).bind fun n=>(Y5 c).bind fun c=>
    if 0<s/\z.length=s then some (.mks e s b z n c) else none
 | .call c=>toCall P ann o c
 | .makeMap t none=>some (.mkm t)
 | .mapUpdate t m k v=>(mapT P t).bind fun q=>(keyT P q.1).bind fun kt=>(Y5 m).bind fun m=>(Y5 k).bind fun k=>(Y5 v).map (.mup kt m k)
 | .range t x=>if isStrT P t=true then (Y5 x).map .rng else none
 | .next x true=>(Y5 x).map .nxt
 | .lookup t m k ok=>(mapT P t).bind fun q=>(keyT P q.1).bind fun kt=>(zeroA P q.2).bind fun z=>(Y5 m).bind fun m=>(Y5 k).map (.lkp kt ok z m)
 | _=>none
theorem VRel.ofV1 (g:Ghost) (w:World) (v:Value):VRel g w v (ofV1 v):=by
 unfold Sim.ofV1
 split
 ·exact .int _ _
 ·exact .bool _
 ·exact .str _
 ·exact .emp0
 ·exact .prim _
theorem VRel.ofV (g:Ghost) (w:World) (v:Value) (h:constOK v=true):VRel g w v (ofV v):=by
 unfold Sim.ofV
 split
 ·rename_i cs
  refine .agg cs _ (by simp) (fun j u hu=>?_) (fun j u c hu hc=>?_)
  ·simp only [constOK,List.all_eq_true] at h
   exact h u (Array.mem_toList_iff.2 (Array.mem_of_getElem? hu))
  ·rw [List.getElem?_map,Array.getElem?_toList,hu] at hc
   simp at hc
   subst hc
   exact .ofV1 g w u
 ·exact .ofV1 g w _
theorem J1 {n:Nat} {e:Env} {g:Ghost} {w:World} {a:Act} (E:ERel n e g w a) {x:Operand} {sx:SX} (h:Y5 x=some sx):VRel g w (a.eval x) (ev e sx):=by
 cases x with
 | tmp t=>
   simp only [Y5] at h
   split at h
   ·rename_i ht;cases h;exact E.slot t ht
   ·cases h
 | const v=>
   simp only [Y5] at h
   split at h
   ·rename_i hc
    simp at h;subst h
    exact .ofV g w v hc
   ·cases h
 | func f=>
   simp [Y5] at h;subst h
   exact .fn f #[] #[] [] [] rfl rfl (by simp) (by simp)
 | global gl=>simp [Y5] at h;subst h;exact E.glo gl
section inv
variable {g:Ghost} {w:World} {v:Value}
theorem VRel.vp_inv {v:Value} {r j:Nat} (h:VRel g w v (.vp r j)):r<g.nxt/\(g.bo r=0/\g.cap r=1)/\v=.pointer (some ⟨g.eta r,j,none⟩):=by
 cases h with
 | vp r j hr hb hc=>exact ⟨hr,⟨hb,hc⟩,rfl⟩
theorem VRel.int_inv {k:IntKind} {n:Int} (h:VRel g w v (.int k n)):v=.int k n:=by cases h;rfl
theorem VRel.bool_inv {b:Bool} (h:VRel g w v (.bool b)):v=.bool b:=by cases h;rfl
theorem VRel.str_inv {l:List UInt8} (h:VRel g w v (.str l)):∃ s:ByteArray,v=.string s/\s.data.toList=l:=by cases h;exact ⟨_,rfl,rfl⟩
theorem VRel.str' (l:List UInt8):VRel g w (.string ⟨l.toArray⟩) (.str l):=VRel.str ⟨l.toArray⟩
theorem VRel.int_inv' {k:IntKind} {n:Int} (V:VRel g w v (.int k n)):v=.int k n:=by cases V;rfl
theorem VRel.str_inv' {l:List UInt8} (h:VRel g w v (.str l)):v=.string ⟨⟨l⟩⟩:=by cases h;rfl
end inv
theorem VRel.str_mk (g:Ghost) (w:World) (l:List UInt8):VRel g w (.string ⟨⟨l⟩⟩) (.str l):=.str ⟨⟨l⟩⟩
def U4 (P:Program) (o:Oper) (a:Act) (w:World) (g:Ghost) (r:AVal):Prop:=
 ∃ v,(execOp a.eval o).run P w=.ok (.value v) w/\VRel g w v r
section
variable {P:Program} {o:Oper} {a:Act} {w:World} {g:Ghost} {h:Z2} {n:Nat} {e:Env}
theorem s_mv {x:Operand} {sx:SX} (ho:o.op=.move x\/o.op=.assign x) (hx:Y5 x=some sx) (E:ERel n e g w a):U4 P o a w g (ev e sx):=by
 rcases ho with h | h <;> exact ⟨a.eval x,by simp [execOp,h],J1 E hx⟩
theorem s_pick {c x y:Operand} {sc sx sy:SX} (ho:o.op=.pick c x y) (hc:Y5 c=some sc) (hx:Y5 x=some sx) (hy:Y5 y=some sy) (E:ERel n e g w a)
 (hk:okPick (ev e sc)):U4 P o a w g (aPick (ev e sc) (ev e sx) (ev e sy)):=by
 have h1:=J1 E hc
 revert h1 hk
 cases ev e sc <;> intro hk h1 <;> try exact hk.elim
 rename_i b
 refine ⟨if b then a.eval x else a.eval y,?_,?_⟩
 ·simp [execOp,ho,h1.bool_inv,asBool]
 ·cases b
  ·exact J1 E hy
  ·exact J1 E hx
theorem run_binOp_int (op:BinOp) (k k':IntKind) (x y:Int) (t:TypeId) (hk:okI op k k' y) :
 ∃ v,(binOp op t (.int k x) (.int k' y)).run P w=.ok v w/\VRel g w v (binI op k x y):=by
 cases op <;> simp only [okI] at hk
 case quo=>obtain ⟨rfl,h0⟩:=hk;exact ⟨_,by simp [binOp,Op.intDiv,h0],.int _ _⟩
 case rem=>obtain ⟨rfl,h0⟩:=hk;exact ⟨_,by simp [binOp,Op.intDiv,h0],.int _ _⟩
 case shl=>exact ⟨_,by simp [binOp,Op.shift,Int.not_lt.2 hk],.int _ _⟩
 case shr=>exact ⟨_,by simp [binOp,Op.shift,Int.not_lt.2 hk],.int _ _⟩
 all_goals subst hk
 case add=>exact ⟨_,by simp [binOp,Op.intArith],.int _ _⟩
 case sub=>exact ⟨_,by simp [binOp,Op.intArith],.int _ _⟩
 case mul=>exact ⟨_,by simp [binOp,Op.intArith],.int _ _⟩
 case and=>exact ⟨.int k (QK .and k x y),by simp only [binOp,ne_eq,not_true_eq_false,↓reduceIte,Op.intBits,Sem.run_pure,QK],.int _ _⟩
 case or=>exact ⟨.int k (QK .or k x y),by simp only [binOp,ne_eq,not_true_eq_false,↓reduceIte,Op.intBits,Sem.run_pure,QK],.int _ _⟩
 case xor=>exact ⟨.int k (QK .xor k x y),by simp only [binOp,ne_eq,not_true_eq_false,↓reduceIte,Op.intBits,Sem.run_pure,QK],.int _ _⟩
 case andNot=>exact ⟨.int k (QK .andNot k x y),by simp only [binOp,ne_eq,not_true_eq_false,↓reduceIte,Op.intBits,Sem.run_pure,QK],.int _ _⟩
 case eql=>exact ⟨_,by simp [binOp,Op.intCmp],.bool _⟩
 case neq=>exact ⟨_,by simp [binOp,Op.intCmp],.bool _⟩
 case lss=>exact ⟨_,by simp [binOp,Op.intCmp],.bool _⟩
 case leq=>exact ⟨_,by simp [binOp,Op.intCmp],.bool _⟩
 case gtr=>exact ⟨_,by simp [binOp,Op.intCmp],.bool _⟩
 case geq=>exact ⟨_,by simp [binOp,Op.intCmp],.bool _⟩
theorem K9 (s:ByteArray):s.size=s.data.toList.length:=by rw [Array.length_toList];rfl
theorem append_toList (s u:ByteArray):(s++u).data.toList=s.data.toList++u.data.toList:=by simp
theorem run_binOp_str (op:BinOp) (s u:ByteArray) (t:TypeId) (hk:okS op s.data.toList u.data.toList) :
 ∃ v,(binOp op t (.string s) (.string u)).run P w=.ok v w/\VRel g w v (binS op s.data.toList u.data.toList):=by
 cases op <;> simp only [okS] at hk
 case add=>
  refine ⟨.string (s++u),?_,?_⟩
  ·have h1:¬ (((s.size+u.size:Nat):Int) > IntKind.i64.max):=by
    rw [K9,K9]
    have:IntKind.i64.max=9223372036854775807:=by decide
    omega
   simp only [binOp,Op.stringOp,if_neg h1,Sem.run_pure]
  ·have:=VRel.str (g:=g) (w:=w) (s++u)
   rw [append_toList] at this
   exact this
 case eql=>exact ⟨.bool (s.data.toList==u.data.toList),by simp only [binOp,Op.stringOp,ByteArray.toList_eq,Sem.run_pure],.bool _⟩
 case neq=>exact ⟨.bool (s.data.toList != u.data.toList),by simp only [binOp,Op.stringOp,ByteArray.toList_eq,Sem.run_pure];rfl,.bool _⟩
 case lss=>exact ⟨.bool (Op.bytesLess s.data.toList u.data.toList),by simp only [binOp,Op.stringOp,ByteArray.toList_eq,Sem.run_pure],.bool _⟩
 case geq=>exact ⟨.bool (!Op.bytesLess s.data.toList u.data.toList),by simp only [binOp,Op.stringOp,ByteArray.toList_eq,Sem.run_pure],.bool _⟩
 case gtr=>exact ⟨.bool (!(Op.bytesLess s.data.toList u.data.toList||s.data.toList==u.data.toList)),by simp only [binOp,Op.stringOp,ByteArray.toList_eq,Sem.run_pure],.bool _⟩
 case leq=>exact ⟨.bool (Op.bytesLess s.data.toList u.data.toList||s.data.toList==u.data.toList),by simp only [binOp,Op.stringOp,ByteArray.toList_eq,Sem.run_pure],.bool _⟩
theorem s_bin {op:BinOp} {t t':TypeId} {x y:Operand} {sx sy:SX} (ho:o.op=.binOp op t x y t') (hx:Y5 x=some sx) (hy:Y5 y=some sy) (E:ERel n e g w a)
 (hk:V7 op (ev e sx) (ev e sy)):U4 P o a w g (QX op (ev e sx) (ev e sy)):=by
 have h1:=J1 E hx
 have h2:=J1 E hy
 have key:∃ v,(binOp op t (a.eval x) (a.eval y)).run P w=.ok v w/\VRel g w v (QX op (ev e sx) (ev e sy))/\(eqGuard op t x y (a.eval x) (a.eval y)).run P w=.ok () w:=by
  revert h1 h2 hk
  cases ev e sx <;> cases ev e sy <;> intro hk h1 h2 <;> try exact hk.elim
  ·rw [h1.int_inv,h2.int_inv]
   obtain ⟨v,hr,hv⟩:=run_binOp_int (P:=P) (w:=w) (g:=g) op _ _ _ _ t hk
   exact ⟨v,hr,hv,by simp [eqGuard]⟩
  ·obtain ⟨s,hs,rfl⟩:=h1.str_inv
   obtain ⟨u,hu,rfl⟩:=h2.str_inv
   rw [hs,hu]
   obtain ⟨v,hr,hv⟩:=run_binOp_str (P:=P) (w:=w) (g:=g) op s u t hk
   exact ⟨v,hr,hv,by simp [eqGuard]⟩
 obtain ⟨v,hr,hv,hg⟩:=key
 exact ⟨v,by simp [execOp,ho,hg,hr],hv⟩
theorem isBoolT_out {t:TypeId} (h:isBoolT P t=true):P.underlying t=some .bool:=by
 unfold isBoolT at h
 split at h
 ·assumption
 ·cases h
theorem s_eqb {op:BinOp} {t t':TypeId} {x y:Operand} {sx sy:SX} {neg:Bool} (ho:o.op=.binOp op t x y t') (ht:isBoolT P t=true) (hop:op=.eql/\neg=false\/op=.neq/\neg=true)
 (hx:Y5 x=some sx) (hy:Y5 y=some sy) (E:ERel n e g w a)
 (hk:okEqb (ev e sx) (ev e sy)):U4 P o a w g (aEqb neg (ev e sx) (ev e sy)):=by
 have h1:=J1 E hx
 have h2:=J1 E hy
 have htt:=isBoolT_out ht
 revert h1 h2 hk
 cases ev e sx <;> cases ev e sy <;> intro hk h1 h2 <;> try exact hk.elim
 rename_i b c
 have hg:(eqGuard op t x y (a.eval x) (a.eval y)).run P w=.ok () w:=by rw [h1.bool_inv,h2.bool_inv];simp [eqGuard]
 rcases hop with ⟨rfl,rfl⟩ | ⟨rfl,rfl⟩
 ·refine ⟨.bool (b==c),?_,?_⟩
  ·have hr:=run_eql_bool (P:=P) w t b c htt
   rw [<-h1.bool_inv,<-h2.bool_inv] at hr
   simp [execOp,ho,hg,hr]
  ·simp only [aEqb,Bool.false_bne];exact .bool _
 ·refine ⟨.bool (!(b==c)),?_,?_⟩
  ·have hr:=run_neq_bool (P:=P) w t b c htt
   rw [<-h1.bool_inv,<-h2.bool_inv] at hr
   simp [execOp,ho,hg,hr]
  ·simp only [aEqb,Bool.true_xor];exact .bool _
theorem s_un {op:UnOp} {t:TypeId} {x:Operand} {sx:SX} (ho:o.op=.unOp op t x) (hx:Y5 x=some sx) (E:ERel n e g w a)
 (hk:okUn op (ev e sx)):U4 P o a w g (aUn op (ev e sx)):=by
 have h1:=J1 E hx
 revert h1 hk
 cases ev e sx <;> intro hk h1 <;> try exact hk.elim
 ·simp only [okUn] at hk
  rcases hk with rfl | rfl
  ·exact ⟨_,by simp [execOp,ho,h1.int_inv,Op.unary,Op.intArith],.int _ _⟩
  ·rename_i k x
   exact ⟨.int k (QK .xor k (if k.signed then -1 else k.max) x),by simp only [execOp,ho,h1.int_inv,Op.unary,Op.intBits,QK];simp,.int _ _⟩
 ·simp only [okUn] at hk
  subst hk
  exact ⟨_,by simp [execOp,ho,h1.bool_inv,Op.unary],.bool _⟩
theorem s_cvi {k k0:IntKind} {s d:TypeId} {x:Operand} {sx:SX} (ho:o.op=.convert s d x) (hs:P.underlying s=some (.int k0)) (hd:P.underlying d=some (.int k)) (hx:Y5 x=some sx) (E:ERel n e g w a)
 (hk:okCvi (ev e sx)):U4 P o a w g (aCvi k (ev e sx)):=by
 have h1:=J1 E hx
 revert h1 hk
 cases ev e sx <;> intro hk h1 <;> try exact hk.elim
 exact ⟨_,by simp [execOp,ho,h1.int_inv,convert,run_underlying hs,run_underlying hd,Conv.intToInt],.int _ _⟩
theorem s_r2s {k0:IntKind} {s d:TypeId} {x:Operand} {sx:SX} (ho:o.op=.convert s d x) (hs:P.underlying s=some (.int k0)) (hd:P.underlying d=some .string) (hx:Y5 x=some sx) (E:ERel n e g w a)
 (hk:okCvi (ev e sx)):U4 P o a w g (aR2s (ev e sx)):=by
 have h1:=J1 E hx
 revert h1 hk
 cases ev e sx <;> intro hk h1 <;> try exact hk.elim
 exact ⟨_,by simp [execOp,ho,h1.int_inv,convert,run_underlying hs,run_underlying hd,Conv.intToString],.str _⟩
theorem s_idc {s d:TypeId} {x:Operand} {sx:SX} (ho:o.op=.convert s d x) (hs:P.underlying s=some .string) (hd:P.underlying d=some .string) (hx:Y5 x=some sx) (E:ERel n e g w a)
 (hk:∃ l,ev e sx=.str l):U4 P o a w g (ev e sx):=by
 have h1:=J1 E hx
 obtain ⟨l,hl⟩:=hk
 rw [hl] at h1 ⊢
 obtain ⟨u,hu,rfl⟩:=h1.str_inv
 exact ⟨_,by simp [execOp,ho,hu,convert,run_underlying hs,run_underlying hd],.str _⟩
theorem szT_out {t:TypeId} {s:Nat} (hs:szT P t=some s):∃ i,P.info? t=some i/\i.size=s:=by
 unfold szT at hs
 cases hi:P.info? t with
 | none=>rw [hi] at hs;cases hs
 | some i=>rw [hi] at hs;exact ⟨i,rfl,by simpa using hs⟩
theorem X1 {t:TypeId} {s:Nat} (hs:szT P t=some s) (w:World):(Go.sizeOf t).run P w=.ok s w:=by
 obtain ⟨i,hi,rfl⟩:=szT_out hs
 simp [Go.sizeOf,typeInfo,hi]
theorem T7 {t:TypeId} {b:Bool} (hs:aggT P t=some b) (w:World):(isAgg t).run P w=.ok b w:=by
 unfold aggT at hs
 split at hs <;> simp at hs <;> subst hs
 ·rename_i h;simp [isAgg,run_underlying h]
 ·rename_i h;simp [isAgg,run_underlying h]
 ·rename_i d h1 h2 h; 
  simp only [isAgg,Sem.run_bind,run_underlying h,Result.andThen_ok]
  cases d <;> first | rfl | (exact absurd rfl (h1 _)) | (exact absurd rfl (h2 _ _))
theorem fieldT_out {t:TypeId} {f:Nat} {fd:Field} (hs:fieldT P t f=some fd):∃ fs,P.underlying t=some (.struct fs)/\fs[f]? = some fd:=by
 unfold fieldT at hs
 split at hs
 ·rename_i fs h;exact ⟨fs,h,hs⟩
 ·cases hs
theorem W0 {t e:TypeId} (hs:W8 P t=some e):P.underlying t=some (.slice e):=by
 unfold W8 at hs
 split at hs
 ·rename_i h;simp at hs;subst hs;exact h
 ·cases hs
theorem VRel.agg_inv {v:Value} {cs:List AVal} (h:VRel g w v (.agg cs)):∃ vs:Array Value,v=.agg vs/\vs.size=cs.length/\(∀ (j:Nat) (u:Value),vs[j]? = some u->u.oneCell'=true) /\ ∀ (j:Nat) (u:Value) (c:AVal),vs[j]? = some u->cs[j]? = some c->VRel g w u c:=by
 cases h;exact ⟨_,rfl,by assumption,by assumption,by assumption⟩
theorem headD_getElem? {α:Type} (l:List α) (d:α) (h:0<l.length):l[0]? = some (l.headD d):=by
 cases l with
 | nil=>simp at h
 | cons x r=>rfl
theorem s_fld {t:TypeId} {f s:Nat} {b:Bool} {fd:Field} {x:Operand} {sx:SX} (ho:o.op=.field t x f) (hf:fieldT P t f=some fd) (hs:szT P fd.type=some s) (hb:aggT P fd.type=some b)
 (hx:Y5 x=some sx) (E:ERel n e g w a) (hk:okFld fd.offset s b (ev e sx)):U4 P o a w g (aFld fd.offset s b (ev e sx)):=by
 have h1:=J1 E hx
 obtain ⟨fs,hu,hfs⟩:=fieldT_out hf
 revert h1 hk
 cases ev e sx <;> intro hk h1 <;> try exact hk.elim
 rename_i cs
 obtain ⟨vs,hv,hl,h2,h3⟩:=h1.agg_inv
 obtain ⟨hle,h1s⟩:=hk
 cases b with
 | true=>
   refine ⟨.agg (vs.extract fd.offset (fd.offset+s)),?_,?_⟩
   ·simp [execOp,ho,Instr.field,run_underlying hu,hfs,hv,asAgg,part,T7 hb,X1 hs]
   ·simp only [aFld,cutV,if_true]
    refine .agg _ _ ?_ (fun j u hj=>?_) (fun j u c hj hc=>?_)
    ·simp;omega
    ·simp only [Array.getElem?_extract] at hj
     split at hj
     ·exact h2 _ _ hj
     ·cases hj
    ·simp only [Array.getElem?_extract] at hj
     split at hj
     ·rw [List.getElem?_take] at hc
      split at hc
      ·rw [List.getElem?_drop] at hc
       exact h3 _ _ _ hj hc
      ·cases hc
     ·cases hj
 | false=>
   have hs1:=h1s rfl
   subst hs1
   have hlt:fd.offset<vs.size:=by omega
   refine ⟨vs[fd.offset],?_,?_⟩
   ·simp [execOp,ho,Instr.field,run_underlying hu,hfs,hv,asAgg,part,T7 hb,hlt]
   ·simp only [aFld,cutV,Bool.false_eq_true,if_false]
    have h0:(cs.drop fd.offset)[0]? = some ((cs.drop fd.offset).headD .dead):=headD_getElem? _ _ (by simp;omega)
    rw [List.getElem?_drop] at h0
    exact h3 _ _ _ (Array.getElem?_eq_getElem hlt) h0
theorem VRel.pin_inv {v:Value} {cs:List AVal} (h:VRel g w v (.pin cs)):∃ ad:Addr,v=.pointer (some ad)/\ad.spot=none/\g.fz ad.block /\
 ∀ (j:Nat) (c:AVal),cs[j]? = some c -> ∃ u,w.cell? (ad.add j)=some u/\u.oneCell'=true/\VRel g w u c:=by
 cases h with
 | pin ad cs us hs hf h1 h2 h3=>exact ⟨ad,rfl,hs,hf,fun j c hc=>⟨us j,h1 j c hc,h2 j c hc,h3 j c hc⟩⟩
theorem VRel.pin_mk {ad:Addr} {cs:List AVal} (hs:ad.spot=none) (hf:g.fz ad.block) (hh:∀ (j:Nat) (c:AVal),cs[j]? = some c -> ∃ u,w.cell? (ad.add j)=some u/\u.oneCell'=true/\VRel g w u c) :
 VRel g w (.pointer (some ad)) (.pin cs):=
 .pin ad cs (fun j=>(w.cell? (ad.add j)).getD undef) hs hf
  (fun j c hc=>by obtain ⟨u,hu,_,_⟩:=hh j c hc;simp [hu]) (fun j c hc=>by obtain ⟨u,hu,h1,_⟩:=hh j c hc;simp [hu,h1]) (fun j c hc=>by obtain ⟨u,hu,_,h2⟩:=hh j c hc;simpa [hu] using h2)
theorem VRel.ptr_inv {v:Value} {r i j:Nat} (h:VRel g w v (.ptr r i j)):r<g.nxt/\v=.pointer (some ⟨g.eta r,g.bo r+i*g.sz r+j,none⟩):=by
 cases h;exact ⟨by assumption,rfl⟩
theorem s_fldA {t:TypeId} {f s:Nat} {fd:Field} {x:Operand} {sx:SX} (ho:o.op=.fieldAddr t x f) (hf:fieldT P t f=some fd) (hs:szT P fd.type=some s) (h0:0<s)
 (hx:Y5 x=some sx) (E:ERel n e g w a) (hk:okFldA (ev e sx)):U4 P o a w g (aFldA fd.offset (ev e sx)):=by
 have h1:=J1 E hx
 obtain ⟨fs,hu,hfs⟩:=fieldT_out hf
 have hs0:s≠0:=by omega
 revert h1 hk
 cases ev e sx <;> intro hk h1 <;> try exact hk.elim
 ·rename_i r i j
  obtain ⟨hr,hv⟩:=h1.ptr_inv
  refine ⟨.pointer (some ⟨g.eta r,g.bo r+i*g.sz r+(j+fd.offset),none⟩),?_,.ptr r i _ hr⟩
  simp [execOp,ho,Instr.fieldAt,run_underlying hu,hfs,hv,Instr.sureAddr,fieldPlace,X1 hs,hs0,Addr.add_lit,Nat.add_assoc]
 ·rename_i cs
  obtain ⟨ad,hv,hsp,hfz,hc⟩:=h1.pin_inv
  refine ⟨.pointer (some (ad.add fd.offset)),?_,.pin_mk ?_ ?_ fun j c hj=>?_⟩
  ·simp [execOp,ho,Instr.fieldAt,run_underlying hu,hfs,hv,Instr.sureAddr,fieldPlace,X1 hs,hs0]
  ·unfold Addr.add;split <;> simp [hsp]
  ·rw [Addr.block_add];exact hfz
  ·rw [List.getElem?_drop] at hj
   rw [Addr.add_add']
   exact hc _ _ hj
 ·rename_i r j
  obtain ⟨hr,hb,hv⟩:=h1.vp_inv
  refine ⟨.pointer (some ⟨g.eta r,j+fd.offset,none⟩),?_,.vp r _ hr hb.1 hb.2⟩
  simp [execOp,ho,Instr.fieldAt,run_underlying hu,hfs,hv,Instr.sureAddr,fieldPlace,X1 hs,hs0,Addr.add_lit]
theorem s_nck {x:Operand} {sx:SX} (ho:o.op=.nilCheck x) (hx:Y5 x=some sx) (E:ERel n e g w a) (hk:okFldA (ev e sx)):U4 P o a w g (aFldA 0 (ev e sx)):=by
 have h1:=J1 E hx
 revert h1 hk
 cases ev e sx <;> intro hk h1 <;> try exact hk.elim
 ·rename_i r i j
  obtain ⟨hr,hv⟩:=h1.ptr_inv
  refine ⟨.pointer (some ⟨g.eta r,g.bo r+i*g.sz r+j,none⟩),?_,.ptr r i _ hr⟩
  simp [execOp,ho,hv]
 ·rename_i cs
  obtain ⟨ad,hv,hsp,hfz,hc⟩:=h1.pin_inv
  refine ⟨.pointer (some ad),?_,.pin_mk hsp hfz fun j c hj=>hc _ _ (by simpa using hj)⟩
  simp [execOp,ho,hv]
 ·rename_i r j
  obtain ⟨hr,hb,hv⟩:=h1.vp_inv
  refine ⟨.pointer (some ⟨g.eta r,j,none⟩),?_,.vp r _ hr hb.1 hb.2⟩
  simp [execOp,ho,hv]
theorem VRel.slc_inv {v:Value} {es:List (List AVal)} (h:VRel g w v (.slc es)):∃ A c,v=.slice A es.length c/\(0<es.length->es.length<=c /\ ∃ (ad:Addr) (sz:Nat),A=some ad/\ad.spot=none/\g.fz ad.block/\(∀ e∈es,e.length=sz) /\
 ∀ (i j:Nat) (e:List AVal) (x:AVal),es[i]? = some e->e[j]? = some x -> ∃ u,w.cell? (ad.add (i*sz+j))=some u/\u.oneCell'=true/\VRel g w u x):=by
 cases h with
 | slc0 A c=>exact ⟨A,c,rfl,fun h=>absurd h (by simp)⟩
 | slc ad n c sz es us hn hc hsz hs hf h1 h2 h3=>
   subst hn
   exact ⟨some ad,c,rfl,fun _=>⟨hc,ad,sz,rfl,hs,hf,hsz,fun i j e x he hx=>⟨us i j,h1 i j e x he hx,h2 i j e x he hx,h3 i j e x he hx⟩⟩⟩
theorem VRel.slc_mk {ad:Addr} {c sz:Nat} {es:List (List AVal)} (hc:es.length<=c) (hsz:∀ e∈es,e.length=sz) (hs:ad.spot=none) (hf:g.fz ad.block)
 (hh:∀ (i j:Nat) (e:List AVal) (x:AVal),es[i]? = some e->e[j]? = some x -> ∃ u,w.cell? (ad.add (i*sz+j))=some u/\u.oneCell'=true/\VRel g w u x) :
 VRel g w (.slice (some ad) es.length c) (.slc es):=
 .slc ad es.length c sz es (fun i j=>(w.cell? (ad.add (i*sz+j))).getD undef) rfl hc hsz hs hf
  (fun i j e x he hx=>by obtain ⟨u,hu,_,_⟩:=hh i j e x he hx;simp [hu]) (fun i j e x he hx=>by obtain ⟨u,hu,h1,_⟩:=hh i j e x he hx;simp [hu,h1])
  (fun i j e x he hx=>by obtain ⟨u,hu,_,h2⟩:=hh i j e x he hx;simpa [hu] using h2)
theorem VRel.osl_inv {v:Value} {r sz i n:Nat} (h:VRel g w v (.osl r sz i n)):r<g.nxt/\g.sz r=sz/\((v=.slice none 0 0/\i=0/\n=0/\g.cap r=0) \/
 ∃ cap off,v=.slice (some ⟨g.eta r,off,none⟩) n cap/\n<=cap/\cap<=maxLen/\i+cap=g.cap r/\(0<cap->off=g.bo r+i*sz)):=by
 cases h with
 | osl0 r sz hr hc hz=>exact ⟨hr,hz,.inl ⟨rfl,rfl,rfl,hc⟩⟩
 | osl r sz i n cap off hr hz hc hm hi ho=>exact ⟨hr,hz,.inr ⟨cap,off,rfl,hc,hm,hi,ho⟩⟩
theorem VRel.emp_inv {v:Value} (h:VRel g w v .emp):∃ A:Option Addr,v=.slice A 0 0 /\ ∀ ad,A=some ad->ad.spot=none:=by
 cases h with
 | emp0=>exact ⟨none,rfl,by simp⟩
 | empS ad hs=>exact ⟨some ad,rfl,by rintro _ ⟨⟩;exact hs⟩
theorem U6 {α:Type} (l:List α) (k:Nat) (d:α) (h:k<l.length):l[k]? = some (l.getD k d):=by
 rw [List.getElem?_eq_getElem h,List.getD_eq_getElem?_getD,List.getElem?_eq_getElem h,Option.getD_some]
theorem s_idxA {t el:TypeId} {s:Nat} {x i:Operand} {sx sy:SX} (ho:o.op=.indexAddr t x i) (ht:W8 P t=some el) (hs:szT P el=some s)
 (hx:Y5 x=some sx) (hy:Y5 i=some sy) (E:ERel n e g w a) (hk:okIdxA s (ev e sx) (ev e sy)):U4 P o a w g (aIdxA (ev e sx) (ev e sy)):=by
 have h1:=J1 E hx
 have h2:=J1 E hy
 have hu:=W0 ht
 revert h1 h2 hk
 cases ev e sx <;> cases ev e sy <;> intro hk h1 h2 <;> try exact hk.elim
 ·rename_i es kk k
  obtain ⟨h0,hlt,hsz⟩:=hk
  obtain ⟨A,c,hv,hin⟩:=h1.slc_inv
  have hkl:k.toNat<es.length:=by omega
  obtain ⟨_,ad,sz,rfl,hsp,hfz,hszs,hc⟩:=hin (by omega)
  have hel:=U6 es k.toNat [] hkl
  have hss:sz=s:=(hszs _ (List.mem_of_getElem? hel)).symm.trans hsz
  subst hss
  refine ⟨.pointer (some (ad.add (k.toNat*sz))),?_,.pin_mk ?_ ?_ fun j c hj=>?_⟩
  ·simp [execOp,ho,Instr.indexAt,h2.int_inv,asIntOf,run_underlying hu,hv,h0,hlt,X1 hs]
  ·unfold Addr.add;split <;> simp [hsp]
  ·rw [Addr.block_add];exact hfz
  ·rw [Addr.add_add']
   exact hc _ _ _ _ hel hj
 ·rename_i r sz ii nn kk k
  obtain ⟨rfl,h0,hlt⟩:=hk
  obtain ⟨hr,hsz,hc⟩:=h1.osl_inv
  rcases hc with ⟨_,_,rfl,_⟩ | ⟨cap,off,hv,hnc,_,hi,hoff⟩
  ·omega
  ·have hof:=hoff (by omega)
   refine ⟨.pointer (some ⟨g.eta r,off+k.toNat*sz,none⟩),?_,?_⟩
   ·simp [execOp,ho,Instr.indexAt,h2.int_inv,asIntOf,run_underlying hu,hv,h0,hlt,X1 hs,Addr.add_lit]
   ·have:=VRel.ptr (g:=g) (w:=w) r (ii+k.toNat) 0 hr
    rw [hof,<-hsz]
    simp only [aIdxA]
    rw [show g.bo r+ii*g.sz r+k.toNat*g.sz r=g.bo r+(ii+k.toNat)*g.sz r+0 by rw [Nat.add_mul];omega]
    exact this
theorem arrT_out {t e:TypeId} {m:Nat} (hs:arrT P t=some (m,e)):P.underlying t=some (.array m e):=by
 unfold arrT at hs
 split at hs
 ·rename_i h;cases hs;exact h
 ·cases hs
theorem s_idxG {t el:TypeId} {m:Nat} {x i:Operand} {sx sy:SX} (ho:o.op=.indexAddr t x i) (ht:arrT P t=some (m,el)) (hs:szT P el=some 1)
 (hx:Y5 x=some sx) (hy:Y5 i=some sy) (E:ERel n e g w a) (hk:okIdxG m (ev e sx) (ev e sy)):U4 P o a w g (aIdxG (ev e sx) (ev e sy)):=by
 have h1:=J1 E hx
 have h2:=J1 E hy
 have hu:=arrT_out ht
 revert h1 h2 hk
 cases ev e sx <;> cases ev e sy <;> intro hk h1 h2 <;> try exact hk.elim
 rename_i cs kk k
 obtain ⟨h0,hlt⟩:=hk
 obtain ⟨ad,hv,hsp,hfz,hc⟩:=h1.pin_inv
 refine ⟨.pointer (some (ad.add (k.toNat*1))),?_,.pin_mk ?_ ?_ fun j c hj=>?_⟩
 ·simp [execOp,ho,Instr.indexAt,h2.int_inv,asIntOf,run_underlying hu,hv,Instr.sureAddr,h0,hlt,X1 hs]
 ·unfold Addr.add;split <;> simp [hsp]
 ·rw [Addr.block_add];exact hfz
 ·rw [Addr.add_add',Nat.mul_one]
  exact hc _ _ (by rw [List.getElem?_drop] at hj;exact hj)
theorem s_idxS {t:TypeId} {x i:Operand} {sx sy:SX} (ho:o.op=.index t x i) (hu:P.underlying t=some .string)
 (hx:Y5 x=some sx) (hy:Y5 i=some sy) (E:ERel n e g w a) (hk:okIdxS (ev e sx) (ev e sy)):U4 P o a w g (aIdxS (ev e sx) (ev e sy)):=by
 have h1:=J1 E hx
 have h2:=J1 E hy
 revert h1 h2 hk
 cases ev e sx <;> cases ev e sy <;> intro hk h1 h2 <;> try exact hk.elim
 rename_i l kk k
 obtain ⟨s,hv,rfl⟩:=h1.str_inv
 obtain ⟨h0,hlt⟩:=hk
 have hlt':k.toNat<s.size:=by rw [K9];omega
 refine ⟨.int .u8 (s[k.toNat]).toNat,?_,?_⟩
 ·simp [execOp,ho,Instr.index,h2.int_inv,asIntOf,run_underlying hu,hv,h0,hlt']
 ·have hb:s.data.toList.getD k.toNat 0=s[k.toNat]:=by
   rw [List.getD_eq_getElem?_getD,List.getElem?_eq_getElem (by omega),Option.getD_some]
   rfl
  simp only [aIdxS,hb]
  exact .int _ _
theorem run_loadCells_of (w:World) (ad:Addr) (s:Nat) (hh:∀ j,j<s -> ∃ u,w.cell? (ad.add j)=some u) :
 ∃ vs:Array Value,(loadCells ad s).run P w=.ok vs w/\vs.size=s /\ ∀ (j:Nat) (u:Value),vs[j]? = some u->j<s/\w.cell? (ad.add j)=some u:=by
 have hr:=run_loadCells (P:=P) w ad s (fun j=>(w.cell? (ad.add j)).getD undef) (fun j hj=>by obtain ⟨u,hu⟩:=hh j hj;simp [hu])
 refine ⟨_,hr,by simp,fun j u hj=>?_⟩
 have hjs:j<s:=by
  rcases Nat.lt_or_ge j s with h | h
  ·exact h
  ·simp [h] at hj
 refine ⟨hjs,?_⟩
 obtain ⟨u',hu'⟩:=hh j hjs
 simp [hjs,hu'] at hj
 rw [hu',hj]
theorem load_cells {t:TypeId} {s:Nat} {b:Bool} (hs:szT P t=some s) (hb:aggT P t=some b) (ad:Addr) (cs:List AVal) (hle:s<=cs.length) (h1s:b=false->s=1)
 (hh:∀ (j:Nat) (c:AVal),cs[j]? = some c -> ∃ u,w.cell? (ad.add j)=some u/\u.oneCell'=true/\VRel g w u c) :
 ∃ v,(loadVar t ad).run P w=.ok v w/\VRel g w v (cutV s b cs):=by
 have hh':∀ j,j<cs.length -> ∃ u,w.cell? (ad.add j)=some u/\u.oneCell'=true/\VRel g w u (cs.getD j .dead):=fun j hj=>hh j _ (U6 cs j .dead hj)
 cases b with
 | true=>
   obtain ⟨vs,hr,hsz,hvs⟩:=run_loadCells_of (P:=P) w ad s (fun j hj=>by obtain ⟨u,hu,_⟩:=hh' j (by omega);exact ⟨u,hu⟩)
   refine ⟨.agg vs,?_,?_⟩
   ·simp [loadVar,T7 hb,X1 hs,hr]
   ·simp only [cutV,if_true]
    refine .agg _ _ (by simp;omega) (fun j u hj=>?_) (fun j u c hj hc=>?_)
    ·obtain ⟨hjs,hc⟩:=hvs j u hj
     obtain ⟨u',hu',h1,_⟩:=hh' j (by omega)
     rw [hu'] at hc;cases hc;exact h1
    ·obtain ⟨hjs,hcc⟩:=hvs j u hj
     rw [List.getElem?_take,if_pos hjs] at hc
     obtain ⟨u',hu',_,h2⟩:=hh j c hc
     rw [hu'] at hcc;cases hcc;exact h2
 | false=>
   have hs1:=h1s rfl
   subst hs1
   have h0:=headD_getElem? cs .dead (by omega)
   obtain ⟨u,hu,_,h2⟩:=hh 0 _ h0
   have hu':w.cell? ad=some u:=by simpa [Addr.add] using hu
   refine ⟨u,?_,by simpa [cutV] using h2⟩
   simp [loadVar,T7 hb,hu']
theorem ORel.cells {r:Nat} {ob:AObj} (H:ORel g w r ob) {i:Nat} (hi:i<ob.es.length) (j:Nat):∀ (k:Nat) (c:AVal),((ob.es.getD i []).drop j)[k]? = some c ->
 ∃ u,w.cell? ((⟨g.eta r,g.bo r+i*g.sz r+j,none⟩:Addr).add k)=some u/\u.oneCell'=true/\VRel g w u c:=by
 intro k c hc
 have hel:=U6 ob.es i [] hi
 rcases H.block with h0 | ⟨_,_,cur,hcur,_,hh⟩
 ·have:=H.le;omega
 ·rw [List.getElem?_drop] at hc
  obtain ⟨u,hu,h1,h2⟩:=hh _ _ _ _ hel hc
  refine ⟨u,?_,h1,h2⟩
  rw [Addr.add_lit,hcur.cell,H.sz,<-hu]
  congr 1
  omega
theorem s_ld {t:TypeId} {s:Nat} {b:Bool} {x:Operand} {sx:SX} (ho:o.op=.load t x) (hs:szT P t=some s) (hb:aggT P t=some b)
 (hx:Y5 x=some sx) (E:ERel n e g w a) (H:HRel h g w) (hk:okLd h s b (ev e sx)):U4 P o a w g (aLd h s b (ev e sx)):=by
 have h1:=(J1 E hx).deVp
 unfold okLd at hk
 unfold aLd
 revert h1 hk
 cases deVp (ev e sx) <;> intro hk h1 <;> try exact hk.elim
 ·rename_i r i j
  obtain ⟨ob,hob,hi,hj,h1s⟩:=hk
  obtain ⟨hr,hv⟩:=h1.ptr_inv
  obtain ⟨v,hrun,hrel⟩:=load_cells (P:=P) (w:=w) (g:=g) hs hb ⟨g.eta r,g.bo r+i*g.sz r+j,none⟩ ((ob.es.getD i []).drop j) (by simp only [List.length_drop];omega) h1s ((H.obj r ob hob).cells hi j)
  exact ⟨v,by simp [execOp,ho,Instr.loadAt,hv,Instr.sureAddr,hrun],by simpa [aLd0,hob] using hrel⟩
 ·rename_i cs
  obtain ⟨hle,h1s⟩:=hk
  obtain ⟨ad,hv,_,_,hc⟩:=h1.pin_inv
  obtain ⟨v,hrun,hrel⟩:=load_cells (P:=P) (w:=w) (g:=g) hs hb ad cs hle h1s hc
  exact ⟨v,by simp [execOp,ho,Instr.loadAt,hv,Instr.sureAddr,hrun],hrel⟩
def VO (g:Ghost) (w:World):Option Value->Option AVal->Prop
 | none,none=>True
 | some v,some x=>VRel g w v x
 | _,_=>False
theorem QQ (E:ERel n e g w a) {x:Option Operand} {sx:Option SX} (hx:JX x=some sx):VO g w (x.map a.eval) (evO e sx):=by
 cases x with
 | none=>simp [JX] at hx;subst hx;trivial
 | some y=>
   simp only [JX,Option.map_eq_some_iff] at hx
   obtain ⟨s,hs,rfl⟩:=hx
   exact J1 E hs
theorem V6 (w:World) {v:Value} {x:AVal} (h:VRel g w v x) (hb:okB (some x)) (y:Nat) (c:BoundsCode) (h0:0<=X2 (some x)) (h1:X2 (some x)<=y) :
 (Instr.sliceBound v y c).run P w=.ok (X2 (some x)).toNat w:=by
 cases x <;> try exact hb.elim
 rw [h.int_inv]
 exact run_sliceBound (P:=P) w _ _ _ _ h0 h1
theorem loOf_hiOf {x:AVal} (hb:okB (some x)) (m:Nat):X4 m (some x)=X2 (some x):=by cases x <;> first | rfl | exact hb.elim
theorem run_bounds (w:World) (isS:Bool) (len cap:Nat) {lo hi:Option Value} {la ha:Option AVal} (hl:VO g w lo la) (hh:VO g w hi ha) (bl:okB la) (bh:okB ha)
 (h0:0<=X2 la) (h1:X2 la<=X4 len ha) (h2:X4 len ha<=cap) :
 (Instr.sliceBounds isS len cap lo hi none).run P w=.ok ((X2 la).toNat,(X4 len ha).toNat,cap) w:=by
 have hhi:∀ (c:BoundsCode),∀ v x,hi=some v->ha=some x->(Instr.sliceBound v cap c).run P w=.ok (X4 len ha).toNat w:=by
  intro c v x hv hx
  subst hv hx
  rw [loOf_hiOf bh] at h1 h2 ⊢
  exact V6 w hh bh cap c (by omega) h2
 have hlo:∀ (c:BoundsCode),∀ v x,lo=some v->la=some x->(Instr.sliceBound v (X4 len ha).toNat c).run P w=.ok (X2 la).toNat w:=by
  intro c v x hv hx
  subst hv hx
  exact V6 w hl bl _ c h0 (by omega)
 cases hi with
 | none=>
   cases ha with
   | some x=>exact hh.elim
   | none=>
     cases lo with
     | none=>
       cases la with
       | some x=>exact hl.elim
       | none=>simp [Instr.sliceBounds,X2,X4]
     | some v=>
       cases la with
       | none=>exact hl.elim
       | some x=>
         have:=hlo .sliceB v x rfl rfl
         simp only [X4,Int.toNat_natCast] at this
         simp [Instr.sliceBounds,this,X4]
 | some u=>
   cases ha with
   | none=>exact hh.elim
   | some y=>
     have hu:=hhi (if isS=true then BoundsCode.sliceAcap else BoundsCode.sliceAlen) u y rfl rfl
     cases lo with
     | none=>
       cases la with
       | some x=>exact hl.elim
       | none=>simp [Instr.sliceBounds,hu,X2]
     | some v=>
       cases la with
       | none=>exact hl.elim
       | some x=>
         have:=hlo .sliceB v x rfl rfl
         simp [Instr.sliceBounds,hu,this]
theorem s_slS {t:TypeId} {x:Operand} {lo hi:Option Operand} {sx:SX} {sl sh:Option SX} (ho:o.op=.slice t x lo hi none) (hu:P.underlying t=some .string)
 (hx:Y5 x=some sx) (hl:JX lo=some sl) (hh:JX hi=some sh) (E:ERel n e g w a) (hk:okSlS (ev e sx) (evO e sl) (evO e sh)):U4 P o a w g (aSlS (ev e sx) (evO e sl) (evO e sh)):=by
 have h1:=J1 E hx
 have h2:=QQ E hl
 have h3:=QQ E hh
 revert h1 hk
 cases ev e sx <;> intro hk h1 <;> try exact hk.elim
 rename_i l
 obtain ⟨s,hv,rfl⟩:=h1.str_inv
 obtain ⟨bl,bh,h0,hlh,hhl⟩:=hk
 rw [<-K9] at hlh hhl
 have hr:=run_bounds (P:=P) w false s.size s.size h2 h3 bl bh h0 hlh hhl
 refine ⟨.string (s.extract (X2 (evO e sl)).toNat (X4 s.size (evO e sh)).toNat),?_,?_⟩
 ·simp [execOp,ho,Instr.sliceAt,Instr.slice,run_underlying hu,hv,hr]
 ·have hd:(s.extract (X2 (evO e sl)).toNat (X4 s.size (evO e sh)).toNat).data.toList=(s.data.toList.take (X4 s.data.toList.length (evO e sh)).toNat).drop (X2 (evO e sl)).toNat:=by
   rw [<-K9]
   simp [ByteArray.data_extract,List.drop_take]
  simp only [aSlS,<-hd]
  exact .str _
theorem s_slA {t el:TypeId} {s:Nat} {x:Operand} {lo hi:Option Operand} {sx:SX} {sl sh:Option SX} (ho:o.op=.slice t x lo hi none) (hu:P.underlying t=some (.slice el)) (hs:szT P el=some s)
 (hx:Y5 x=some sx) (hl:JX lo=some sl) (hh:JX hi=some sh) (E:ERel n e g w a) (hk:okSlA s (ev e sx) (evO e sl) (evO e sh)):U4 P o a w g (aSlA (ev e sx) (evO e sl) (evO e sh)):=by
 have h1:=J1 E hx
 have h2:=QQ E hl
 have h3:=QQ E hh
 have run:∀ (A:Option Addr) (len cap:Nat),a.eval x=.slice A len cap->okB (evO e sl)->okB (evO e sh)->0<=X2 (evO e sl)->X2 (evO e sl)<=X4 len (evO e sh)->X4 len (evO e sh)<=cap ->
  (execOp a.eval o).run P w=.ok (.value (.slice (if cap=(X2 (evO e sl)).toNat then A else A.map (·.add ((X2 (evO e sl)).toNat*s))) ((X4 len (evO e sh)).toNat-(X2 (evO e sl)).toNat) (cap-(X2 (evO e sl)).toNat))) w:=by
  intro A len cap hv bl bh h0 hlh hhl
  have hr:=run_bounds (P:=P) w true len cap h2 h3 bl bh h0 hlh hhl
  simp [execOp,ho,Instr.sliceAt,Instr.slice,run_underlying hu,hv,hr,X1 hs]
 revert h1 hk
 cases ev e sx <;> intro hk h1 <;> try exact hk.elim
 ·rename_i es
  obtain ⟨bl,bh,h0,hlh,hhl,hsz⟩:=hk
  obtain ⟨A,c,hv,hin⟩:=h1.slc_inv
  by_cases hpos:0<es.length
  ·obtain ⟨hec,ad,sz,rfl,hsp,hfz,hszs,hc⟩:=hin hpos
   have hss:sz=s:=by
    obtain ⟨x0,hx0⟩:∃ x0,x0∈es:=List.exists_mem_of_length_pos hpos
    exact (hszs _ hx0).symm.trans (hsz _ hx0)
   subst hss
   have hrun:=run _ _ _ hv bl bh h0 hlh (by omega)
   refine ⟨_,hrun,?_⟩
   simp only [aSlA]
   by_cases hz:(X4 es.length (evO e sh)).toNat-(X2 (evO e sl)).toNat=0
   ·have hnil:(es.take (X4 es.length (evO e sh)).toNat).drop (X2 (evO e sl)).toNat=[]:=by
     apply List.drop_eq_nil_of_le;simp;omega
    rw [hnil,hz]
    exact .slc0 _ _
   ·have hne:c≠(X2 (evO e sl)).toNat:=by omega
    rw [if_neg hne]
    have hlen:((es.take (X4 es.length (evO e sh)).toNat).drop (X2 (evO e sl)).toNat).length=(X4 es.length (evO e sh)).toNat-(X2 (evO e sl)).toNat:=by
     simp;omega
    rw [<-hlen]
    refine .slc_mk (sz:=sz) (by rw [hlen];omega) (fun x hx=>hsz x (List.mem_of_mem_take (List.mem_of_mem_drop hx))) ?_ ?_ fun i j el x hi hj=>?_
    ·unfold Addr.add;split <;> simp [hsp]
    ·rw [Addr.block_add];exact hfz
    ·rw [Addr.add_add']
     rw [List.getElem?_drop,List.getElem?_take] at hi
     split at hi
     ·obtain ⟨u,hu,r1,r2⟩:=hc _ _ _ _ hi hj
      refine ⟨u,?_,r1,r2⟩
      rw [<-hu];congr 2;rw [Nat.add_mul];omega
     ·cases hi
  ·have hnil:es=[]:=List.eq_nil_of_length_eq_zero (by omega)
   subst hnil
   simp only [List.length_nil] at hlh hhl hv
   refine ⟨_,run _ _ _ hv bl bh h0 hlh (by omega),?_⟩
   have hz:(X4 0 (evO e sh)).toNat-(X2 (evO e sl)).toNat=0:=by omega
   rw [hz]
   simp only [aSlA,List.take_nil,List.drop_nil]
   exact .slc0 _ _
 ·obtain ⟨bl,bh,h0,hhi⟩:=hk
  obtain ⟨A,hv,hsp⟩:=h1.emp_inv
  refine ⟨_,run _ _ _ hv bl bh (by omega) (by omega) (by omega),?_⟩
  simp only [h0,hhi,Int.toNat_zero,if_true,Nat.sub_zero,aSlA]
  rw [hv] at h1;exact h1
 ·rename_i r sz i m
  obtain ⟨rfl,bl,bh,h0,hlh,hhl⟩:=hk
  obtain ⟨hr,hsz,hc⟩:=h1.osl_inv
  rcases hc with ⟨hv,rfl,rfl,hcap⟩ | ⟨cap,off,hv,hnc,hm,hi,hoff⟩
  ·refine ⟨_,run _ _ _ hv bl bh h0 hlh (by omega),?_⟩
   have e1:(X2 (evO e sl)).toNat=0:=by omega
   have e2:(X4 0 (evO e sh)).toNat=0:=by omega
   simp only [aSlA,e1,e2,Nat.sub_zero,Nat.add_zero,if_true]
   exact .osl0 r sz hr hcap hsz
  ·refine ⟨_,run _ _ _ hv bl bh h0 hlh (by omega),?_⟩
   simp only [aSlA]
   by_cases hcl:cap=(X2 (evO e sl)).toNat
   ·rw [if_pos hcl]
    exact .osl r sz _ _ _ off hr hsz (by omega) (by omega) (by omega) (fun h=>by omega)
   ·rw [if_neg hcl]
    simp only [Option.map_some,Addr.add_lit]
    exact .osl r sz _ _ _ _ hr hsz (by omega) (by omega) (by omega) (fun h=>by rw [hoff (by omega),Nat.add_mul];omega)
theorem run_bounds_mx (w:World) (len cap:Nat) {lo hi mx:Option Value} {la ha ma:Option AVal} (hl:VO g w lo la) (hh:VO g w hi ha) (hm:VO g w mx ma) (bl:okB la) (bh:okB ha) (bm:okB ma)
 (hhs:hi.isSome=true) (hms:mx.isSome=true) (h0:0<=X2 la) (h1:X2 la<=X4 len ha) (h2:X4 len ha<=X4 len ma) (h3:X4 len ma<=cap) :
 ∃ r,(Instr.sliceBounds true len cap lo hi mx).run P w=.ok r w:=by
 cases hi with
 | none=>cases hhs
 | some u=>
 cases mx with
 | none=>cases hms
 | some m=>
 cases ha with
 | none=>exact hh.elim
 | some y=>
 cases ma with
 | none=>exact hm.elim
 | some z=>
 rw [loOf_hiOf bh] at h1 h2
 rw [loOf_hiOf bm] at h2 h3
 have r1:=V6 (P:=P) w hm bm cap .slice3Acap (by omega) h3
 have r2:=V6 (P:=P) w hh bh (X2 (some z)).toNat .slice3B (by omega) (by omega)
 cases lo with
 | none=>
   cases la with
   | some x=>exact hl.elim
   | none=>exact ⟨_,by simp [Instr.sliceBounds,r1,r2];rfl⟩
 | some v=>
   cases la with
   | none=>exact hl.elim
   | some x=>
     have r3:=V6 (P:=P) w hl bl (X2 (some y)).toNat .slice3C h0 (by omega)
     exact ⟨_,by simp [Instr.sliceBounds,r1,r2,r3];rfl⟩
theorem s_slM {t el:TypeId} {s:Nat} {x:Operand} {lo hi mx:Option Operand} {sx:SX} {sl sh sm:Option SX} (ho:o.op=.slice t x lo hi mx) (hu:P.underlying t=some (.slice el)) (hs:szT P el=some s)
 (hx:Y5 x=some sx) (hl:JX lo=some sl) (hh:JX hi=some sh) (hm:JX mx=some sm) (hhs:hi.isSome=true) (hms:mx.isSome=true) (E:ERel n e g w a)
 (hk:okSlM (ev e sx) (evO e sl) (evO e sh) (evO e sm)):U4 P o a w g .dead:=by
 have h1:=J1 E hx
 have h2:=QQ E hl
 have h3:=QQ E hh
 have h4:=QQ E hm
 have key:∃ A c,a.eval x=.slice A (nOf (ev e sx)) c/\nOf (ev e sx)<=c\/(∃ A c,a.eval x=.slice A 0 c/\nOf (ev e sx)=0):=by
  obtain ⟨hk,_⟩:=hk
  revert h1 hk
  cases ev e sx <;> intro h1 hk <;> try exact hk.elim
  ·rename_i es
   obtain ⟨A,c,hv,hin⟩:=h1.slc_inv
   by_cases hp:0<es.length
   ·exact ⟨A,c,.inl ⟨hv,(hin hp).1⟩⟩
   ·have hnil:es=[]:=List.eq_nil_of_length_eq_zero (by omega)
    subst hnil
    exact ⟨none,0,.inr ⟨A,c,hv,rfl⟩⟩
  ·obtain ⟨A,hv,_⟩:=h1.emp_inv
   exact ⟨none,0,.inr ⟨A,0,hv,rfl⟩⟩
  ·obtain ⟨_,_,hc⟩:=h1.osl_inv
   rcases hc with ⟨hv,_,rfl,_⟩ | ⟨cap,off,hv,hnc,_⟩
   ·exact ⟨none,0,.inr ⟨_,_,hv,rfl⟩⟩
   ·exact ⟨_,_,.inl ⟨hv,hnc⟩⟩
 obtain ⟨_,bl,bh,bm,h0,hlh,hhm,hmn⟩:=hk
 obtain ⟨A,c,⟨hv,hc⟩ | ⟨A,c,hv,hz⟩⟩:=key
 ·obtain ⟨⟨l,h',m⟩,hr⟩:=run_bounds_mx (P:=P) w (nOf (ev e sx)) c h2 h3 h4 bl bh bm (by cases hi <;> simp_all) (by cases mx <;> simp_all) h0 hlh hhm (by omega)
  exact ⟨_,by simp [execOp,ho,Instr.sliceAt,Instr.slice,run_underlying hu,hv,hr,X1 hs];rfl,.dead _⟩
 ·rw [hz] at hlh hhm hmn
  obtain ⟨⟨l,h',m⟩,hr⟩:=run_bounds_mx (P:=P) w 0 c h2 h3 h4 bl bh bm (by cases hi <;> simp_all) (by cases mx <;> simp_all) h0 hlh hhm (by omega)
  exact ⟨_,by simp [execOp,ho,Instr.sliceAt,Instr.slice,run_underlying hu,hv,hr,X1 hs];rfl,.dead _⟩
theorem VRel.tup_inv {v:Value} {as:List AVal} (h:VRel g w v (.tup as)):∃ vs:Array Value,v=.tuple vs/\vs.size=as.length /\ ∀ (j:Nat) (u:Value) (x:AVal),vs[j]? = some u->as[j]? = some x->VRel g w u x:=by
 cases h;exact ⟨_,rfl,by assumption,by assumption⟩
theorem s_ext {x:Operand} {i:Nat} {sx:SX} (ho:o.op=.extract x i) (hx:Y5 x=some sx) (E:ERel n e g w a) (hk:okExt i (ev e sx)):U4 P o a w g (aExt i (ev e sx)):=by
 have h1:=J1 E hx
 revert h1 hk
 cases ev e sx <;> intro hk h1 <;> try exact hk.elim
 rename_i as
 obtain ⟨vs,hv,hl,hh⟩:=h1.tup_inv
 have hlt:i<vs.size:=by rw [hl];exact hk
 refine ⟨vs[i],?_,hh i _ _ (Array.getElem?_eq_getElem hlt) (U6 as i .dead hk)⟩
 simp [execOp,ho,Instr.extract,hv,hlt]
theorem s_lenS {x:Operand} {sx:SX} {t:TypeId} {c:Call} (ho:o.op=.call c) (hc:c.callee=.builtin .len) (ha:c.args.toList=[x]) (ht:c.argTypes.toList=[t])
 (hu:P.underlying t=some .string) (hx:Y5 x=some sx) (E:ERel n e g w a) (hk:okLenS (ev e sx)):U4 P o a w g (aLenS (ev e sx)):=by
 have h1:=J1 E hx
 obtain ⟨cal,ar,at'⟩:=c
 simp only at hc ha ht
 subst hc
 obtain rfl:ar = #[x]:=by apply Array.ext';simpa using ha
 obtain rfl:at' = #[t]:=by apply Array.ext';simpa using ht
 have run:∀ (v:Value) ,(Builtin.len_ #[t] o.type #[a.eval x]).run P w=.ok v w->(execOp a.eval o).run P w=.ok (.value v) w:=by
  intro v hv
  simp [execOp,ho,resolve,invoke,builtin,hv]
 revert h1 hk
 cases ev e sx <;> intro hk h1 <;> try exact hk.elim
 obtain ⟨s,hv,rfl⟩:=h1.str_inv
 refine ⟨_,run _ (by simp [Builtin.len_,run_underlying hu,hv];rfl),?_⟩
 simp only [aLenS,Y0,goInt,K9]
 exact .int _ _
theorem s_len {x:Operand} {sx:SX} {t el:TypeId} {c:Call} (ho:o.op=.call c) (hc:c.callee=.builtin .len) (ha:c.args.toList=[x]) (ht:c.argTypes.toList=[t])
 (hu:P.underlying t=some (.slice el)) (hx:Y5 x=some sx) (E:ERel n e g w a) (hk:okLen (ev e sx)):U4 P o a w g (aLen (ev e sx)):=by
 have h1:=J1 E hx
 obtain ⟨cal,ar,at'⟩:=c
 simp only at hc ha ht
 subst hc
 obtain rfl:ar = #[x]:=by apply Array.ext';simpa using ha
 obtain rfl:at' = #[t]:=by apply Array.ext';simpa using ht
 have run:∀ (v:Value) ,(Builtin.len_ #[t] o.type #[a.eval x]).run P w=.ok v w->(execOp a.eval o).run P w=.ok (.value v) w:=by
  intro v hv
  simp [execOp,ho,resolve,invoke,builtin,hv]
 revert h1 hk
 cases ev e sx <;> intro hk h1 <;> try exact hk.elim
 ·obtain ⟨A,c,hv,_⟩:=h1.slc_inv
  exact ⟨_,run _ (by simp [Builtin.len_,run_underlying hu,hv];rfl),.int _ _⟩
 ·obtain ⟨A,hv,_⟩:=h1.emp_inv
  exact ⟨_,run _ (by simp [Builtin.len_,run_underlying hu,hv];rfl),.int _ _⟩
 ·obtain ⟨_,_,hc⟩:=h1.osl_inv
  rcases hc with ⟨hv,_,rfl,_⟩ | ⟨cap,off,hv,_⟩
  ·exact ⟨_,run _ (by simp [Builtin.len_,run_underlying hu,hv];rfl),.int _ _⟩
  ·exact ⟨_,run _ (by simp [Builtin.len_,run_underlying hu,hv];rfl),.int _ _⟩
theorem s_min2 {x y:Operand} {sx sy:SX} {c:Call} (ho:o.op=.call c) (hc:c.callee=.builtin .min) (ha:c.args.toList=[x,y]) 
 (hx:Y5 x=some sx) (hy:Y5 y=some sy) (E:ERel n e g w a) (hk:ok2i (ev e sx) (ev e sy)):U4 P o a w g (aMin (ev e sx) (ev e sy)):=by
 have h1:=J1 E hx
 have h2:=J1 E hy
 obtain ⟨cal,ar,at'⟩:=c
 simp only at hc ha
 subst hc
 obtain rfl:ar = #[x,y]:=by apply Array.ext';simpa using ha
 revert h1 h2 hk
 cases ev e sx <;> cases ev e sy <;> intro hk h1 h2 <;> try exact hk.elim
 rename_i k p k' q
 refine ⟨.int k (min p q),?_,.int _ _⟩
 have hm:(if q<p then q else p)=min p q:=by omega
 simp [execOp,ho,resolve,invoke,builtin,Builtin.min_,Builtin.min2,h1.int_inv,h2.int_inv,hm]
theorem s_max2 {x y:Operand} {sx sy:SX} {c:Call} (ho:o.op=.call c) (hc:c.callee=.builtin .max) (ha:c.args.toList=[x,y]) 
 (hx:Y5 x=some sx) (hy:Y5 y=some sy) (E:ERel n e g w a) (hk:ok2i (ev e sx) (ev e sy)):U4 P o a w g (aMax (ev e sx) (ev e sy)):=by
 have h1:=J1 E hx
 have h2:=J1 E hy
 obtain ⟨cal,ar,at'⟩:=c
 simp only at hc ha
 subst hc
 obtain rfl:ar = #[x,y]:=by apply Array.ext';simpa using ha
 revert h1 h2 hk
 cases ev e sx <;> cases ev e sy <;> intro hk h1 h2 <;> try exact hk.elim
 rename_i k p k' q
 refine ⟨.int k (max p q),?_,.int _ _⟩
 have hm:(if p<q then q else p)=max p q:=by omega
 simp [execOp,ho,resolve,invoke,builtin,Builtin.max_,Builtin.max2,h1.int_inv,h2.int_inv,hm]
theorem evs_sound (E:ERel n e g w a):∀ {xs:List Operand} {ss:List SX},toSXs xs=some ss->xs.length=ss.length /\ ∀ (j:Nat) (x:Operand) (s:SX),xs[j]? = some x->ss[j]? = some s->VRel g w (a.eval x) (ev e s)
 | [],ss,h=>by simp [toSXs] at h;subst h;exact ⟨rfl,by simp⟩
 | x :: r,ss,h=>by
   simp only [toSXs] at h
   split at h
   ·rename_i s0 ss0 h0 hr
    simp at h;subst h
    obtain ⟨hl,hh⟩:=evs_sound E hr
    refine ⟨by simp [hl],fun j x' s' hx' hs'=>?_⟩
    cases j with
    | zero=>simp at hx' hs';subst hx' hs';exact J1 E h0
    | succ j=>simp at hx' hs';exact hh j x' s' hx' hs'
   ·cases h
theorem evs_rel (E:ERel n e g w a) {xs:Array Operand} {ss:List SX} (h:toSXs xs.toList=some ss):VRelL g w (xs.map a.eval) (ss.map (ev e)):=by
 obtain ⟨hl,hh⟩:=evs_sound E h
 refine ⟨by simp [<-hl],fun j u x hu hx=>?_⟩
 simp only [Array.getElem?_map,Option.map_eq_some_iff,List.getElem?_map] at hu hx
 obtain ⟨y,hy,rfl⟩:=hu
 obtain ⟨s,hs,rfl⟩:=hx
 exact hh j y s (by simpa using hy) hs
theorem s_mkf {f:Nat} {first captured:Array Operand} {sf sc:List SX} (ho:o.op=.makeFunc (.func f) first captured) (hf:toSXs first.toList=some sf) (hc:toSXs captured.toList=some sc) (E:ERel n e g w a) :
 U4 P o a w g (.fn f (sf.map (ev e)) (sc.map (ev e))):=by
 have h1:=evs_rel E hf
 have h2:=evs_rel E hc
 exact ⟨_,by simp [execOp,ho,Instr.makeFunc],.fn f _ _ _ _ h1.1 h2.1 h1.2 h2.2⟩
theorem okEq_nil {x:Nat} {ks:List Nat} {as bs:List AVal} (h:Q1 (x :: ks) as bs):as≠[]/\bs≠[]:=by
 refine ⟨fun e=>?_,fun e=>?_⟩ <;> subst e
 ·rcases x with _ | _ | _ | x <;> exact h.elim
 ·cases as with
  | nil=>rcases x with _ | _ | _ | x <;> exact h.elim
  | cons a as=>cases a <;> (rcases x with _ | _ | _ | x <;> exact h.elim)
theorem eqField_scal (d:Nat) {as bs:List AVal} {xs ys:Array Value} (hx:∀ (j:Nat) (u:Value) (c:AVal),xs[j]? = some u->as[j]? = some c->VRel g w u c) (hy:∀ (j:Nat) (u:Value) (c:AVal),ys[j]? = some u->bs[j]? = some c->VRel g w u c)
 (lx:xs.size=as.length) (ly:ys.size=bs.length) {f:Field} {k x:Nat} {ks':List Nat} (hoff:f.offset=k) (hx0:scalK P f.type=some x) (hk:Q1 (x :: ks') (as.drop k) (bs.drop k)) :
 ∃ (r:Bool) (vx vy:Value),(part f.type xs f.offset).run P w=.ok vx w/\(part f.type ys f.offset).run P w=.ok vy w/\(Op.equalIn (d+1) f.type vx vy).run P w=.ok r w/\Q1 ks' (as.drop (k+1)) (bs.drop (k+1)) /\
   Q4 (as.drop k) (bs.drop k)=(r&&Q4 (as.drop (k+1)) (bs.drop (k+1))):=by
 obtain ⟨na,nb⟩:=okEq_nil hk
 have hka:k<as.length:=Nat.lt_of_not_le fun h=>na (List.drop_eq_nil_of_le h)
 have hkb:k<bs.length:=Nat.lt_of_not_le fun h=>nb (List.drop_eq_nil_of_le h)
 have hxk:=hx k _ _ (Array.getElem?_eq_getElem (by omega:k<xs.size)) (List.getElem?_eq_getElem hka)
 have hyk:=hy k _ _ (Array.getElem?_eq_getElem (by omega:k<ys.size)) (List.getElem?_eq_getElem hkb)
 rw [List.drop_eq_getElem_cons hka,List.drop_eq_getElem_cons hkb] at hk ⊢
 have hagg:aggT P f.type=some false:=by
  unfold scalK at hx0
  unfold aggT
  revert hx0
  cases P.underlying f.type with
  | none=>intro h;cases h
  | some dd=>cases dd <;> intro h <;> first | rfl | cases h
 have px:(part f.type xs f.offset).run P w=.ok xs[k] w:=by simp [part,T7 hagg,hoff,(by omega:k<xs.size)]
 have py:(part f.type ys f.offset).run P w=.ok ys[k] w:=by simp [part,T7 hagg,hoff,(by omega:k<ys.size)]
 unfold scalK at hx0
 revert hk hxk hyk hx0
 cases hA:as[k] <;> cases hB:bs[k] <;> intro hx0 hk hxk hyk <;> (try (cases x with
  | zero=>exact hk.elim
  | succ x=>cases x with
    | zero=>exact hk.elim
    | succ x=>cases x <;> exact hk.elim))
 ·rename_i k1 n1 k2 n2
  cases x with
  | succ x=>cases x with
    | zero=>exact hk.elim
    | succ x=>cases x <;> exact hk.elim
  | zero=>
    split at hx0 <;> simp at hx0
    rename_i kk hu
    obtain ⟨rfl,hk⟩:=hk
    rw [hxk.int_inv] at px
    rw [hyk.int_inv] at py
    exact ⟨_,_,_,px,py,run_equalIn_int (P:=P) w d f.type k1 kk n1 n2 hu,hk,rfl⟩
 ·rename_i b1 b2
  cases x with
  | zero=>exact hk.elim
  | succ x=>cases x with
    | zero=>exact hk.elim
    | succ x=>cases x with
      | succ x=>exact hk.elim
      | zero=>
        split at hx0 <;> simp at hx0
        rename_i hu
        rw [hxk.bool_inv] at px
        rw [hyk.bool_inv] at py
        exact ⟨_,_,_,px,py,run_equalIn_bool' (P:=P) w d f.type b1 b2 hu,hk,rfl⟩
 ·rename_i l1 l2
  cases x with
  | zero=>exact hk.elim
  | succ x=>cases x with
    | succ x=>cases x <;> exact hk.elim
    | zero=>
      split at hx0 <;> simp at hx0
      rename_i hu
      obtain ⟨s1,hs1,rfl⟩:=hxk.str_inv
      obtain ⟨s2,hs2,rfl⟩:=hyk.str_inv
      rw [hs1] at px
      rw [hs2] at py
      have hq:=run_equalIn_string (P:=P) w d f.type s1 s2 hu
      rw [ByteArray.toList_eq,ByteArray.toList_eq] at hq
      exact ⟨_,_,_,px,py,hq,hk,rfl⟩
theorem eqFields_run (d:Nat) (as bs:List AVal) (xs ys:Array Value) (hx:∀ (j:Nat) (u:Value) (c:AVal),xs[j]? = some u->as[j]? = some c->VRel g w u c) (hy:∀ (j:Nat) (u:Value) (c:AVal),ys[j]? = some u->bs[j]? = some c->VRel g w u c)
 (lx:xs.size=as.length) (ly:ys.size=bs.length):∀ (fs:List Field) (k:Nat) (ks:List Nat),scalKs P k fs=some ks->Q1 ks (as.drop k) (bs.drop k) ->
 (Op.eqFields (d+1) xs ys fs).run P w=.ok (Q4 (as.drop k) (bs.drop k)) w
 | [],k,ks,h,hk=>by
   simp [scalKs] at h;subst h
   revert hk
   cases as.drop k <;> cases bs.drop k <;> intro hk <;> first | exact hk.elim | simp [Op.eqFields,Q4]
 | f :: fs,k,ks,h,hk=>by
   simp only [scalKs] at h
   split at h
   ·rename_i hc
    obtain ⟨hoff,hname⟩:=hc
    simp only [Option.bind_eq_some_iff,Option.map_eq_some_iff] at h
    obtain ⟨x,hx0,ks',hks,rfl⟩:=h
    obtain ⟨r,vx,vy,px,py,hr,hk',he⟩:=eqField_scal (P:=P) d hx hy lx ly hoff hx0 hk
    have ih:=eqFields_run d as bs xs ys hx hy lx ly fs (k+1) ks' hks hk'
    rw [he]
    cases r <;> simp [Op.eqFields,hname,px,py,hr,ih]
   ·cases h
theorem okEq_app:∀ (ks1:List Nat) {ks2:List Nat} {as bs:List AVal},Q1 (ks1++ks2) as bs->ks1.length<=as.length/\ks1.length<=bs.length/\Q1 ks1 (as.take ks1.length) (bs.take ks1.length)/\Q1 ks2 (as.drop ks1.length) (bs.drop ks1.length) /\
 Q4 as bs=(Q4 (as.take ks1.length) (bs.take ks1.length)&&Q4 (as.drop ks1.length) (bs.drop ks1.length))
 | [],ks2,as,bs,h=>⟨Nat.zero_le _,Nat.zero_le _,trivial,h,by simp [Q4]⟩
 | x :: ks1,ks2,as,bs,h=>by
   obtain ⟨na,nb⟩:=okEq_nil (x:=x) (ks:=ks1++ks2) h
   cases as with
   | nil=>exact absurd rfl na
   | cons a as=>
     cases bs with
     | nil=>exact absurd rfl nb
     | cons b bs=>
       have key:Q1 (ks1++ks2) as bs:=by
        revert h
        rcases x with _ | _ | _ | x <;> cases a <;> cases b <;> intro h <;> first | exact h.elim | exact h.2 | exact h
       obtain ⟨g1,g2,g3,g4,g5⟩:=okEq_app ks1 key
       refine ⟨by simp;omega,by simp;omega,?_,g4,?_⟩
       ·revert h
        simp only [List.length_cons,List.take_succ_cons]
        rcases x with _ | _ | _ | x <;> cases a <;> cases b <;> intro h <;> first | exact h.elim | exact ⟨h.1,g3⟩ | exact g3
       ·simp only [List.length_cons,List.take_succ_cons,List.drop_succ_cons]
        revert h
        rcases x with _ | _ | _ | x <;> cases a <;> cases b <;> intro h <;> first | exact h.elim | (simp only [Q4,g5,Bool.and_assoc])
theorem VZ (d:Nat) (as bs:List AVal) (xs ys:Array Value) (hx:∀ (j:Nat) (u:Value) (c:AVal),xs[j]? = some u->as[j]? = some c->VRel g w u c) (hy:∀ (j:Nat) (u:Value) (c:AVal),ys[j]? = some u->bs[j]? = some c->VRel g w u c)
 (lx:xs.size=as.length) (ly:ys.size=bs.length):∀ (fs:List Field) (k:Nat) (ks:List Nat),scalKs2 P k fs=some ks->Q1 ks (as.drop k) (bs.drop k) ->
 (Op.eqFields (d+2) xs ys fs).run P w=.ok (Q4 (as.drop k) (bs.drop k)) w
 | [],k,ks,h,hk=>by
   simp [scalKs2] at h;subst h
   revert hk
   cases as.drop k <;> cases bs.drop k <;> intro hk <;> first | exact hk.elim | simp [Op.eqFields,Q4]
 | f :: fs,k,ks,h,hk=>by
   simp only [scalKs2] at h
   split at h
   case isFalse=>cases h
   rename_i hc
   obtain ⟨hoff,hname⟩:=hc
   split at h
   ·rename_i x hx0
    simp only [Option.map_eq_some_iff] at h
    obtain ⟨ks',hks,rfl⟩:=h
    obtain ⟨r,vx,vy,px,py,hr,hk',he⟩:=eqField_scal (P:=P) (d+1) hx hy lx ly hoff hx0 hk
    have ih:=VZ d as bs xs ys hx hy lx ly fs (k+1) ks' hks hk'
    rw [he]
    cases r <;> simp [Op.eqFields,hname,px,py,hr,ih]
   ·split at h
    ·rename_i fs' hu
     split at h
     case isFalse=>cases h
     rename_i hst
     simp only [Option.bind_eq_some_iff] at h
     obtain ⟨ks1,hks1,h⟩:=h
     split at h
     case isFalse=>cases h
     rename_i hsz0
     obtain ⟨hpos,hsz⟩:=hsz0
     simp only [Option.map_eq_some_iff] at h
     obtain ⟨ks',hks,rfl⟩:=h
     obtain ⟨g1,g2,g3,g4,g5⟩:=okEq_app ks1 hk
     rw [List.length_drop] at g1 g2
     have hagg:aggT P f.type=some true:=by unfold aggT;rw [hu]
     have px:(part f.type xs f.offset).run P w=.ok (.agg (xs.extract k (k+ks1.length))) w:=by simp [part,T7 hagg,X1 hsz,hoff]
     have py:(part f.type ys f.offset).run P w=.ok (.agg (ys.extract k (k+ks1.length))) w:=by simp [part,T7 hagg,X1 hsz,hoff]
     have hf:P.fieldsOf f.type=fs':=by simp [Program.fieldsOf,hu]
     have hu':P.underlying f.type=some (.struct (P.fieldsOf f.type)):=by rw [hf];exact hu
     have hq:=run_equalIn_agg (P:=P) w (d+1) f.type (xs.extract k (k+ks1.length)) (ys.extract k (k+ks1.length)) hu' hst
     rw [hf] at hq
     ·have ex:∀ (zs:Array Value) (cs:List AVal),zs.size=cs.length->k+ks1.length<=zs.size->(∀ (j:Nat) (u:Value) (c:AVal),zs[j]? = some u->cs[j]? = some c->VRel g w u c) ->
       (zs.extract k (k+ks1.length)).size=((cs.drop k).take ks1.length).length /\ ∀ (j:Nat) (u:Value) (c:AVal),(zs.extract k (k+ks1.length))[j]? = some u->((cs.drop k).take ks1.length)[j]? = some c->VRel g w u c:=by
       intro zs cs hl hle hz
       refine ⟨by simp;omega,fun j u c hu hc=>?_⟩
       rw [Array.getElem?_extract] at hu
       rw [List.getElem?_take] at hc
       split at hc
       ·rw [List.getElem?_drop] at hc
        split at hu
        ·exact hz _ u c hu hc
        ·cases hu
       ·cases hc
      obtain ⟨ex1,ex2⟩:=ex xs as lx (by omega) hx
      obtain ⟨ey1,ey2⟩:=ex ys bs ly (by omega) hy
      have hr:=eqFields_run (P:=P) d ((as.drop k).take ks1.length) ((bs.drop k).take ks1.length) _ _ ex2 ey2 ex1 ey1 fs'.toList 0 ks1 hks1 (by simpa using g3)
      simp only [List.drop_zero] at hr
      rw [hr] at hq
      have ih:=VZ d as bs xs ys hx hy lx ly fs (k+ks1.length) ks' hks (by rw [List.drop_drop,List.drop_drop] at g4;exact g4)
      rw [g5,List.drop_drop,List.drop_drop]
      generalize Q4 ((as.drop k).take ks1.length) ((bs.drop k).take ks1.length)=r at hq
      cases r <;> simp [Op.eqFields,hname,px,py,hq,ih]
    ·cases h
theorem s_eqs {op:BinOp} {t t':TypeId} {x y:Operand} {sx sy:SX} {neg:Bool} {ks:List Nat} (ho:o.op=.binOp op t x y t') (ht:eqTy P t=some ks) (hop:op=.eql/\neg=false\/op=.neq/\neg=true)
 (hx:Y5 x=some sx) (hy:Y5 y=some sy) (E:ERel n e g w a)
 (hk:okEqs ks (ev e sx) (ev e sy)):U4 P o a w g (aEqs neg (ev e sx) (ev e sy)):=by
 have h1:=J1 E hx
 have h2:=J1 E hy
 unfold eqTy at ht
 split at ht
 ·rename_i fs hu
  split at ht
  ·rename_i hc
   obtain ⟨hst,hgt⟩:=hc
   revert h1 h2 hk
   cases ev e sx <;> cases ev e sy <;> intro hk h1 h2 <;> try exact hk.elim
   rename_i as bs
   obtain ⟨xs,hxv,lx,_,rx⟩:=h1.agg_inv
   obtain ⟨ys,hyv,ly,_,ry⟩:=h2.agg_inv
   have hf:P.fieldsOf t=fs:=by simp [Program.fieldsOf,hu]
   have hu':P.underlying t=some (.struct (P.fieldsOf t)):=by rw [hf];exact hu
   have hr:=VZ (P:=P) 9997 as bs xs ys rx ry lx ly fs.toList 0 ks ht (by simpa [okEqs] using hk)
   have hq:=run_equalIn_agg (P:=P) w 9999 t xs ys hu' hst
   rw [hf] at hq
   simp only [Nat.reduceAdd,List.drop_zero] at hr hq
   rw [hr] at hq
   have hg:=run_eqGuard_agg (P:=P) w op t x y xs ys hgt
   rcases hop with ⟨rfl,rfl⟩ | ⟨rfl,rfl⟩
   ·refine ⟨.bool (Q4 as bs),?_,?_⟩
    ·simp [execOp,ho,hxv,hyv,hg,run_eql_struct,hq]
    ·simp only [aEqs,Bool.false_bne];exact .bool _
   ·refine ⟨.bool (!Q4 as bs),?_,?_⟩
    ·simp [execOp,ho,hxv,hyv,hg,run_neq_struct,hq]
    ·simp only [aEqs,Bool.true_xor];exact .bool _
  ·cases ht
 ·cases ht
end
end Go.Sim
end
section
namespace Go.Sim
open Go
def CRel (g:Ghost) (w:World) (cs:Array Value) (as:List AVal):Prop:=
 cs.size=as.length/\(∀ (j:Nat) (u:Value),cs[j]? = some u->u.oneCell'=true) /\ ∀ (j:Nat) (u:Value) (x:AVal),cs[j]? = some u->as[j]? = some x->VRel g w u x
section
variable {P:Program} {o:Oper} {a:Act} {w:World} {g:Ghost} {h:Z2} {n:Nat} {e:Env}
theorem cells_one {v:Value} (h:v.oneCell'=true):v.cells = #[v]:=by
 cases v <;> first | rfl | cases h
theorem CRel.one {v:Value} {x:AVal} (h:VRel g w v x) (h1:v.oneCell'=true):CRel g w v.cells [x]:=by
 rw [cells_one h1]
 refine ⟨rfl,fun j u hu=>?_,fun j u y hu hy=>?_⟩
 ·cases j with
  | zero=>simp at hu;subst hu;exact h1
  | succ j=>simp at hu
 ·cases j with
  | zero=>simp at hu hy;subst hu hy;exact h
  | succ j=>simp at hu
theorem CRel.of {v:Value} {x:AVal} (h:VRel g w v x) (hv:isV x=true):CRel g w v.cells (cellsOf x):=by
 cases h with
 | agg vs cs hl h1 hh=>exact ⟨hl,h1,hh⟩
 | prim v=>exact CRel.one (.prim v) hv
 | tup=>cases hv
 | dead=>cases hv
 | int k n=>exact CRel.one (.int k n) rfl
 | bool b=>exact CRel.one (.bool b) rfl
 | str s=>exact CRel.one (.str s) rfl
 | slc0 A c=>exact CRel.one (.slc0 A c) rfl
 | slc ad n c sz es us hn hc hsz hs hf h1 h2 h3=>exact CRel.one (.slc ad n c sz es us hn hc hsz hs hf h1 h2 h3) rfl
 | emp0=>exact CRel.one .emp0 rfl
 | empS ad hs hf hc=>exact CRel.one (.empS ad hs hf hc) rfl
 | osl0 r sz hr hc hz=>exact CRel.one (.osl0 r sz hr hc hz) rfl
 | osl r sz i n cap off hr hz hc hm hi ho=>exact CRel.one (.osl r sz i n cap off hr hz hc hm hi ho) rfl
 | ptr r i j hr=>exact CRel.one (.ptr r i j hr) rfl
 | vp r j hr hb hc=>exact CRel.one (.vp r j hr hb hc) rfl
 | mpr r hr=>exact CRel.one (.mpr r hr) rfl
 | anyp q=>exact CRel.one (.anyp q) rfl
 | pin ad cs us hs hf h1 h2 h3=>exact CRel.one (.pin ad cs us hs hf h1 h2 h3) rfl
 | fn f fs cs as bs hf hc h1 h2=>exact CRel.one (.fn f fs cs as bs hf hc h1 h2) rfl
theorem ZW {t:TypeId} {z:List AVal} (hz:XU P t=some z):∃ i zv,P.info? t=some i/\i.zero=some zv/\CRel g w zv.cells z:=by
 simp only [XU,Option.bind_eq_some_iff] at hz
 obtain ⟨i,hi,zv,hzv,hc⟩:=hz
 split at hc
 ·rename_i hok
  simp at hc
  subst hc
  refine ⟨i,zv,hi,hzv,by simp,fun j u hu=>?_,fun j u x hu hx=>?_⟩
  ·have:∀ x∈zv.cells.toList,x.oneCell'=true:=by
    cases zv with
    | agg cs=>simp only [constOK,List.all_eq_true] at hok;exact hok
    | _=>intro x hx;simp [Value.cells] at hx;subst hx;exact hok
   exact this u (Array.mem_toList_iff.2 (Array.mem_of_getElem? hu))
  ·rw [List.getElem?_map,Array.getElem?_toList,hu] at hx
   simp at hx;subst hx
   exact .ofV1 g w u
 ·cases hc
theorem fill_step (place:Nat->Option (Nat×Nat)) (cells:Array Value) (i off size:Nat) (v:Value) (r:List (Nat×Value)) (hp:place i=some (off,size)) (hv:v.cells.size=size) (hle:off+size<=cells.size) :
 ∃ cells',Instr.fill place cells ((i,v) :: r)=Instr.fill place cells' r/\cells'.size=cells.size /\ ∀ k,cells'[k]? = if off<=k/\k<off+size then v.cells[k-off]? else cells[k]? := by
 obtain ⟨g1,g2⟩:=Go.Great.foldl_set off v.cells.toList 0 cells
 refine ⟨_,?_,g1,fun k=>?_⟩
 ·conv=>lhs;unfold Instr.fill
  simp only [hp,hv]
  rw [if_neg (by simp;omega)]
  congr 1
  rw [<-Array.foldl_toList,Array.toList_zipIdx]
 ·rw [g2 k]
  simp only [Nat.add_zero,Array.length_toList,hv,Array.getElem?_toList]
  by_cases hk:off<=k/\k<off+size
  ·rw [if_pos hk,if_pos (by omega)]
  ·rw [if_neg hk,if_neg (by omega)]
theorem CRel.splice {cells cells':Array Value} {as bs:List AVal} {v:Array Value} {off size:Nat} (hc:CRel g w cells as) (hv:CRel g w v bs) (hb:bs.length=size) (hle:off+size<=as.length)
 (hs:cells'.size=cells.size) (hk:∀ k,cells'[k]? = if off<=k/\k<off+size then v[k-off]? else cells[k]?):CRel g w cells' (as.take off++bs++as.drop (off+size)):=by
 refine ⟨?_,fun j u hu=>?_,fun j u x hu hx=>?_⟩
 ·rw [hs,hc.1];simp;omega
 ·rw [hk] at hu
  split at hu
  ·exact hv.2.1 _ _ hu
  ·exact hc.2.1 _ _ hu
 ·rw [hk] at hu
  rw [List.append_assoc,List.getElem?_append] at hx
  simp only [List.length_take] at hx
  split at hu
  ·rename_i hin
   rw [if_neg (by omega),List.getElem?_append_left (by omega)] at hx
   rw [show j-min off as.length=j-off by omega] at hx
   exact hv.2.2 _ _ _ hu hx
  ·rename_i hout
   split at hx
   ·rw [List.getElem?_take,if_pos (by omega)] at hx
    exact hc.2.2 _ _ _ hu hx
   ·rw [List.getElem?_append_right (by omega),List.getElem?_drop] at hx
    rw [show off+size+(j-min off as.length-bs.length)=j by omega] at hx
    exact hc.2.2 _ _ _ hu hx
theorem mapM_get {fs:List Field} {places:List (Nat×Nat)} (hm:fs.mapM (fun f=>(P.info? f.type).map fun i=>(f.offset,i.size))=some places) :
 ∀ (i:Nat) (f:Field) (s:Nat),fs[i]? = some f->szT P f.type=some s->places[i]? = some (f.offset,s):=by
 induction fs generalizing places with
 | nil=>intro i f s hi;simp at hi
 | cons f0 fs ih=>
   intro i f s hi hs
   simp only [List.mapM_cons,Option.bind_eq_bind,Option.pure_def,Option.bind_eq_some_iff,Option.map_eq_some_iff,Option.some.injEq] at hm
   obtain ⟨p,⟨inf,hinf,rfl⟩,ps,hps,rfl⟩:=hm
   cases i with
   | zero=>
     simp at hi;subst hi
     obtain ⟨i',hi',rfl⟩:=szT_out hs
     rw [hinf] at hi';cases hi'
     simp
   | succ i=>simp at hi ⊢; exact ih hps i f s hi hs
theorem fill_parts (place:Nat->Option (Nat×Nat)) (fs:Array Field) (hplace:∀ (i:Nat) (f:Field) (s:Nat),fs[i]? = some f->szT P f.type=some s->place i=some (f.offset,s)) (E:ERel n e g w a) :
 ∀ (ps:List (Nat×Operand)) (qs:List (Nat×Nat×SX)) (cells:Array Value) (as:List AVal),toParts P fs ps=some qs->CRel g w cells as->Q7 as.length (qs.map fun p=>(p.1,p.2.1,ev e p.2.2)) ->
 ∃ r,Instr.fill place cells (ps.map fun (i,x)=>(i,a.eval x))=some r/\CRel g w r (Q8 as (qs.map fun p=>(p.1,p.2.1,ev e p.2.2)))
 | [],qs,cells,as,hq,hc,_=>by
   simp [toParts] at hq;subst hq
   exact ⟨cells,by simp [Instr.fill],by simpa [Q8] using hc⟩
 | (i,x) :: ps,qs,cells,as,hq,hc,hok=>by
   simp only [toParts,Option.bind_eq_some_iff,Option.map_eq_some_iff] at hq
   obtain ⟨f,hf,s,hs,sx,hx,qs',hqs,rfl⟩:=hq
   simp only [List.map_cons,Q7] at hok
   obtain ⟨hv,hl,hle,hok⟩:=hok
   have hv':=CRel.of (J1 E hx) hv
   obtain ⟨cells',hfill,hsz,hk⟩:=fill_step place cells i f.offset s (a.eval x) (ps.map fun (i,x)=>(i,a.eval x)) (hplace i f s hf hs) (by rw [hv'.1,hl]) (by rw [hc.1];exact hle)
   have hc':=CRel.splice hc hv' hl hle hsz hk
   have hlen:(as.take f.offset++cellsOf (ev e sx)++as.drop (f.offset+s)).length=as.length:=by simp;omega
   obtain ⟨r,hr,hrr⟩:=fill_parts place fs hplace E ps qs' cells' _ hqs hc' (by rw [hlen];exact hok)
   exact ⟨r,by simp only [List.map_cons];rw [hfill,hr],by simpa [Q8] using hrr⟩
theorem s_bld {t:TypeId} {parts:Array (Nat×Operand)} {fs:Array Field} {z:List AVal} {qs:List (Nat×Nat×SX)} (ho:o.op=.build t parts) (hu:P.underlying t=some (.struct fs))
 (hm:(fs.toList.mapM fun f=>(P.info? f.type).map fun i=>(f.offset,i.size)).isSome=true) (hz:XU P t=some z) (hq:toParts P fs parts.toList=some qs) (E:ERel n e g w a)
 (hk:Q7 z.length (qs.map fun p=>(p.1,p.2.1,ev e p.2.2))):U4 P o a w g (.agg (Q8 z (qs.map fun p=>(p.1,p.2.1,ev e p.2.2)))):=by
 obtain ⟨i,zv,hi,hzv,hzc⟩:=ZW (g:=g) (w:=w) hz
 obtain ⟨places,hp⟩:=Option.isSome_iff_exists.1 hm
 obtain ⟨r,hr,hrr⟩:=fill_parts (P:=P) (fun x=>places.toArray[x]?) fs (fun i f s hf hs=>by simpa using mapM_get hp i f s (by simpa using hf) hs) E parts.toList qs zv.cells z hq hzc hk
 have hb:P.built t (parts.map fun (i,x)=>(i,a.eval x)).toList=some r:=by
  unfold Program.built
  simp only [hi,hu,hzv,hp]
  rw [Array.toList_map]
  exact hr
 refine ⟨.agg r,?_,.agg r _ hrr.1 hrr.2.1 hrr.2.2⟩
 simp only [execOp,ho]
 have:=run_build (P:=P) w t (parts.map fun (i,x)=>(i,a.eval x)) r hb
 simp only [Sem.run_bind,this,Result.andThen_ok,Sem.run_pure]
theorem heap_push_old (w:World) (ob:Obj) (b:Nat) (hb:b<w.heap.size):(w.alloc ob).heap[b]? = w.heap[b]? := by
 simp only [World.alloc,Array.getElem?_push]
 rw [if_neg (by omega)]
theorem K3 (w:World) (ob:Obj):(w.alloc ob).heap[w.heap.size]? = some ob:=by
 simp only [World.alloc,Array.getElem?_push]
 simp
def Ghost.add (g:Ghost) (blk bo cap sz:Nat):Ghost:=
 { eta:=upd g.eta g.nxt blk,bo:=upd g.bo g.nxt bo,cap:=upd g.cap g.nxt cap,sz:=upd g.sz g.nxt sz,nxt:=g.nxt+1,fz:=g.fz }
def Ghost.frz (g:Ghost) (b:Nat):Ghost:={ g with fz:=fun x=>g.fz x\/x=b }
def del (h:Z2) (r:Nat):Z2:=fun t=>if t=r then none else h t
theorem GStep.add (g:Ghost) (w:World) (blk bo cap sz:Nat):GStep g w (g.add blk bo cap sz) w where
 nxt:=Nat.le_succ _
 eta r hr:=by simp [Ghost.add,upd,Nat.ne_of_lt hr]
 bo r hr:=by simp [Ghost.add,upd,Nat.ne_of_lt hr]
 cap r hr:=by simp [Ghost.add,upd,Nat.ne_of_lt hr]
 sz r hr:=by simp [Ghost.add,upd,Nat.ne_of_lt hr]
 fz _ h:=h
 keep _ _:=rfl
 os:=rfl
 tape:=rfl
 output:=rfl
 size:=Nat.le_refl _
theorem GStep.frz (g:Ghost) (w:World) (b:Nat):GStep g w (g.frz b) w where
 nxt:=Nat.le_refl _
 eta _ _:=rfl
 bo _ _:=rfl
 cap _ _:=rfl
 sz _ _:=rfl
 fz _ h:=.inl h
 keep _ _:=rfl
 os:=rfl
 tape:=rfl
 output:=rfl
 size:=Nat.le_refl _
theorem GStep.world {w':World} (hk:∀ b,g.fz b->w'.heap[b]? = w.heap[b]?) (h1:w'.os=w.os) (h2:w'.tape=w.tape) (h3:w'.output=w.output) (h4:w.heap.size<=w'.heap.size):GStep g w g w' where
 nxt:=Nat.le_refl _
 eta _ _:=rfl
 bo _ _:=rfl
 cap _ _:=rfl
 sz _ _:=rfl
 fz _ h:=h
 keep:=hk
 os:=h1
 tape:=h2
 output:=h3
 size:=h4
theorem GS.world {w':World} (hk:∀ b,g.fz b->w'.heap[b]? = w.heap[b]?) (h1:w'.os=w.os) (h2:w'.tape=w.tape) (h3:w'.output=w.output) (h4:w.heap.size<=w'.heap.size)
 (ho:∀ b,b<w.heap.size->(¬ Own g b\/V8 w b)->w'.heap[b]? = w.heap[b]?):GS g w g w':=
 ⟨GStep.world hk h1 h2 h3 h4,ho,fun _ _ h=>h,fun _ _ _ h=>h,fun _ h=>.inl h⟩
theorem GS.addTo {w':World} (S:GS g w g w') (blk bo cap sz:Nat) (hb:w.heap.size<=blk\/Own g blk\/cap=0):GS g w (g.add blk bo cap sz) w':=by
 refine ⟨S.toGStep.trans (GStep.add g w' blk bo cap sz),S.own,fun b hlt ⟨r,hr,hc,he⟩=>?_,fun b h1 h2 h3=>S.fzn b h1 h2 h3,fun b h=>S.fzc b h⟩
 by_cases hrn:r=g.nxt
 ·subst hrn
  simp only [Ghost.add,Z9] at hc he
  subst he
  rcases hb with h | h | h
  ·omega
  ·exact h
  ·exact absurd h hc
 ·have hlt':r<g.nxt:=by simp only [Ghost.add] at hr;omega
  simp only [Ghost.add,J7 _ _ hrn] at hc he
  exact ⟨r,hlt',hc,he⟩
theorem GS.frzTo {w':World} (S:GS g w g w') (b:Nat) (hb:w.heap.size<=b\/Own g b) (hcl:∃ cur t f,w'.heap[b]? = some (.cells cur t f)):GS g w (g.frz b) w':=
 ⟨S.toGStep.trans (GStep.frz g w' b),S.own,fun _ _ h=>h,fun x h1 h2 h3=>by
   rcases h3 with h3 | rfl
   ·exact S.fzn x h1 h2 h3
   ·rcases hb with h | h
    ·omega
    ·exact absurd h h2,fun x h3=>by
   rcases h3 with h3 | rfl
   ·exact S.fzc x h3
   ·obtain ⟨cur,t,f,hcl⟩:=hcl
    exact .inr fun ⟨o,ho,hc⟩=>by rw [hcl] at ho;cases ho;cases hc⟩
theorem ORel.step {g':Ghost} {w':World} {r:Nat} {ob:AObj} (hs:GStep g w g' w') (hb:g.cap r≠0->w'.heap[g.eta r]? = w.heap[g.eta r]?) (hf:g.cap r≠0->¬ g'.fz (g.eta r)) (H:ORel g w r ob):ORel g' w' r ob where
 lt:=Nat.lt_of_lt_of_le H.lt hs.nxt
 sz:=(hs.sz r H.lt).trans H.sz
 pos:=H.pos
 len:=H.len
 le:=by rw [hs.cap r H.lt];exact H.le
 block:=by
  rw [hs.cap r H.lt,hs.eta r H.lt,hs.bo r H.lt]
  rcases H.block with h0 | ⟨h1,h2,cur,hc,hsz,hh⟩
  ·exact .inl h0
  ·by_cases h0:g.cap r=0
   ·exact .inl h0
   ·refine .inr ⟨Nat.lt_of_lt_of_le h1 hs.size,hf h0,cur,hc.of (hb h0),hsz,fun i j e x he hx=>?_⟩
    obtain ⟨u,hu,h1,h2⟩:=hh i j e x he hx
    exact ⟨u,hu,h1,h2.step hs⟩
theorem HRel.ext {w':World} (H:HRel h g w) (hk:∀ b,b<w.heap.size->w'.heap[b]? = w.heap[b]?) (h1:w'.os=w.os) (h2:w'.tape=w.tape) (h3:w'.output=w.output) (h4:w.heap.size<=w'.heap.size) :
 GS g w g w'/\HRel h g w':=by
 have hs:GS g w g w':=GS.world (fun b hb=>hk b (H.fz b hb)) h1 h2 h3 h4 (fun b hb _=>hk b hb)
 have ow:∀ b,Own g b -> ∃ cur t f,w'.heap[b]? = some (.cells cur t f):=fun b hb=>by
  obtain ⟨cur,t,f,hc⟩:=H.ow b hb
  exact ⟨cur,t,f,(hk b (Array.getElem?_eq_some_iff.1 hc).1).trans hc⟩
 refine ⟨hs,fun r ob hr=>?_,H.inj,fun b hb=>Nat.lt_of_lt_of_le (H.fz b hb) h4,ow,H.mob.step hs fun _ _ _ h=>h⟩
 have O:=H.obj r ob hr
 refine O.step hs (fun h0=>?_) (fun h0=>?_)
 ·rcases O.block with h' | ⟨hl,_⟩
  ·exact absurd h' h0
  ·exact hk _ hl
 ·rcases O.block with h' | ⟨_,hf,_⟩
  ·exact absurd h' h0
  ·exact hf
theorem HRel.alloc (H:HRel h g w) (ob:Obj):GS g w g (w.alloc ob)/\HRel h g (w.alloc ob):=
 H.ext (fun b hb=>heap_push_old w ob b hb) rfl rfl rfl (by simp)
theorem HRel.drew (H:HRel h g w):GS g w g w.drew/\HRel h g w.drew:=
 H.ext (fun _ _=>rfl) rfl rfl rfl (Nat.le_refl _)
theorem MOb.frz (M:MOb h g w) {b:Nat} (hcl:∃ cur t f,w.heap[b]? = some (.cells cur t f)):MOb h (g.frz b) w:=by
 refine ⟨fun r n es hr=>?_,M.two⟩
 have R:=M.one r n es hr
 obtain ⟨o,hb,hB⟩:=R.block
 refine ⟨R.lt,R.own,fun hf=>?_,R.bo,o,hb,hB.step (GStep.frz g w b)⟩
 rcases hf with hf | hf
 ·exact R.fz hf
 ·obtain ⟨cur,t,f,hcl⟩:=hcl
  rw [show (g.frz b).eta r=g.eta r from rfl] at hf
  rw [hf,hcl] at hb;cases hb;exact hB.cells
theorem HRel.frz (H:HRel h g w) {b:Nat} (hb:b<w.heap.size) (hn:∀ r ob,h r=some ob->g.cap r≠0->g.eta r≠b) (hcl:∃ cur t f,w.heap[b]? = some (.cells cur t f)):HRel h (g.frz b) w:=by
 refine ⟨fun r ob hr=>?_,H.inj,fun x hx=>?_,H.ow,H.mob.frz hcl⟩
 ·have O:=H.obj r ob hr
  refine O.step (GStep.frz g w b) (fun _=>rfl) (fun h0=>?_)
  rintro (hf | he)
  ·rcases O.block with h' | ⟨_,hf',_⟩
   ·exact h0 h'
   ·exact hf' hf
  ·exact hn r ob hr h0 he
 ·rcases hx with hx | rfl
  ·exact H.fz x hx
  ·exact hb
theorem HRel.del (H:HRel h g w) (r:Nat):HRel (del h r) g w:=by
 have hd:∀ t o,Sim.del h r t=some o->t≠r/\h t=some o:=by
  intro t o ht
  unfold Sim.del at ht
  split at ht
  ·cases ht
  ·exact ⟨by assumption,ht⟩
 exact ⟨fun t o ht=>H.obj t o (hd t o ht).2,fun t t' o o' ht ht'=>H.inj t t' o o' (hd t o ht).2 (hd t' o' ht').2,H.fz,H.ow,H.mob.step (GS.refl g w) fun _ _ _ ⟨sz,cs,ht⟩=>⟨sz,cs,(hd _ _ ht).2⟩⟩
theorem HRel.le {h':Z2} (H:HRel h g w) (hle:∀ t o,h' t=some o->h t=some o):HRel h' g w:=
 ⟨fun t o ht=>H.obj t o (hle t o ht),fun t t' o o' ht ht'=>H.inj t t' o o' (hle t o ht) (hle t' o' ht'),H.fz,H.ow,H.mob.step (GS.refl g w) fun _ _ _ ⟨sz,cs,ht⟩=>⟨sz,cs,hle _ _ ht⟩⟩
theorem HRel.addO (H:HRel h g w) {blk bo cap sz:Nat} {ty:OTy} (hty:ty.isM=false) {es:List (List AVal)} (hpos:0<sz) (hlen:∀ e∈es,e.length=sz) (hle:es.length<=cap)
 (hb:cap=0\/(blk<w.heap.size/\¬ g.fz blk/\(∀ r ob,h r=some ob->g.cap r≠0->g.eta r≠blk) /\ ∃ cur:Array Value,CellsAt w blk cur ty/\bo+cap*sz=cur.size /\
   ∀ (i j:Nat) (e:List AVal) (x:AVal),es[i]? = some e->e[j]? = some x -> ∃ u:Value,cur[bo+(i*sz+j)]? = some u/\u.oneCell'=true/\VRel g w u x)) :
 HRel (upd h g.nxt (some ⟨ty,sz,es⟩)) (g.add blk bo cap sz) w:=by
 have hs:=GStep.add g w blk bo cap sz
 have hE:∀ t o,upd h g.nxt (some ⟨ty,sz,es⟩) t=some o->t=g.nxt/\o=⟨ty,sz,es⟩\/t<g.nxt/\h t=some o:=by
  intro t o ht
  unfold upd at ht
  split at ht
  ·rename_i hh;exact .inl ⟨hh,by cases ht;rfl⟩
  ·exact .inr ⟨(H.obj t o ht).lt,ht⟩
 have en:(g.add blk bo cap sz).eta g.nxt=blk:=by simp [Ghost.add]
 have bn:(g.add blk bo cap sz).bo g.nxt=bo:=by simp [Ghost.add]
 have cn:(g.add blk bo cap sz).cap g.nxt=cap:=by simp [Ghost.add]
 have sn:(g.add blk bo cap sz).sz g.nxt=sz:=by simp [Ghost.add]
 have ow:∀ b,Own (g.add blk bo cap sz) b -> ∃ cur t f,w.heap[b]? = some (.cells cur t f):=by
  rintro b ⟨r,hr,hc,he⟩
  by_cases hrn:r=g.nxt
  ·subst hrn
   rw [en] at he;rw [cn] at hc;subst he
   rcases hb with h0 | ⟨_,_,_,cur,hcur,_⟩
   ·exact absurd h0 hc
   ·obtain ⟨fr,hq⟩:=hcur.ex
    exact ⟨cur,ty.id,fr,hq⟩
  ·have hlt':r<g.nxt:=by simp only [Ghost.add] at hr;omega
   rw [hs.eta r hlt'] at he;rw [hs.cap r hlt'] at hc
   exact H.ow b ⟨r,hlt',hc,he⟩
 have mob:MOb (upd h g.nxt (some ⟨ty,sz,es⟩)) (g.add blk bo cap sz) w:=by
  refine ⟨fun r n es' hr=>?_,fun r r' n n' es1 es2 hr hr' he=>?_⟩
  ·have hr:=(hr.updO hty).2
   have R:=H.mob.one r n es' hr
   obtain ⟨o,hblk,hB⟩:=R.block
   refine ⟨Nat.lt_of_lt_of_le R.lt hs.nxt,fun ho=>?_,?_,(hs.bo r R.lt).trans R.bo,o,by rw [hs.eta r R.lt];exact hblk,hB.step hs⟩
   ·obtain ⟨cur,t,f,hc⟩:=ow _ ho
    rw [hs.eta r R.lt,hblk] at hc;cases hc;exact hB.cells
   ·rw [hs.eta r R.lt];exact R.fz
  ·have q:=(hr.updO hty).2
   have q':=(hr'.updO hty).2
   rw [hs.eta r (H.mob.one _ _ _ q).lt,hs.eta r' (H.mob.one _ _ _ q').lt] at he
   exact H.mob.two _ _ _ _ _ _ q q' he
 refine ⟨fun t o ht=>?_,fun t t' o o' ht ht' hc hc' he=>?_,H.fz,ow,mob⟩
 ·rcases hE t o ht with ⟨rfl,rfl⟩ | ⟨hlt,ht⟩
  ·refine ⟨Nat.lt_succ_self _,sn,hpos,hlen,by rw [cn];exact hle,?_⟩
   rw [en,bn,cn]
   rcases hb with h0 | ⟨h1,h2,_,cur,hcur,hsz,hh⟩
   ·exact .inl h0
   ·refine .inr ⟨h1,h2,cur,hcur,hsz,fun i j e x he hx=>?_⟩
    obtain ⟨u,hu,h3,h4⟩:=hh i j e x he hx
    exact ⟨u,hu,h3,h4.step hs⟩
  ·have O:=H.obj t o ht
   refine O.step hs (fun _=>rfl) (fun h0=>?_)
   rcases O.block with h' | ⟨_,hf,_⟩
   ·exact absurd h' h0
   ·exact hf
 ·rcases hE t o ht with ⟨rfl,rfl⟩ | ⟨hlt,ht⟩ <;> rcases hE t' o' ht' with ⟨rfl,rfl⟩ | ⟨hlt',ht'⟩
  ·rfl
  ·rw [en,hs.eta t' hlt'] at he
   rw [cn] at hc
   rw [hs.cap t' hlt'] at hc'
   rcases hb with h0 | ⟨_,_,hn,_⟩
   ·exact absurd h0 hc
   ·exact absurd he.symm (hn t' o' ht' hc')
  ·rw [en,hs.eta t hlt] at he
   rw [cn] at hc'
   rw [hs.cap t hlt] at hc
   rcases hb with h0 | ⟨_,_,hn,_⟩
   ·exact absurd h0 hc'
   ·exact absurd he (hn t o ht hc)
  ·rw [hs.eta t hlt,hs.eta t' hlt'] at he
   rw [hs.cap t hlt] at hc
   rw [hs.cap t' hlt'] at hc'
   exact H.inj t t' o o' ht ht' hc hc' he
theorem HRel.add (H:HRel h g w) {blk bo cap sz:Nat} {ty:TypeId} {es:List (List AVal)} (hpos:0<sz) (hlen:∀ e∈es,e.length=sz) (hle:es.length<=cap)
 (hb:cap=0\/(blk<w.heap.size/\¬ g.fz blk/\(∀ r ob,h r=some ob->g.cap r≠0->g.eta r≠blk) /\ ∃ cur:Array Value,CellsAt w blk cur ty/\bo+cap*sz=cur.size /\
   ∀ (i j:Nat) (e:List AVal) (x:AVal),es[i]? = some e->e[j]? = some x -> ∃ u:Value,cur[bo+(i*sz+j)]? = some u/\u.oneCell'=true/\VRel g w u x)) :
 HRel (upd h g.nxt (some ⟨ty,sz,es⟩)) (g.add blk bo cap sz) w:=H.addO (ty:=.t ty) rfl hpos hlen hle hb
theorem HRel.freeze (H:HRel h g w) {r:Nat} {ob:AObj} (hr:h r=some ob) (hc:g.cap r≠0):GS g w (g.frz (g.eta r)) w/\HRel (Sim.del h r) (g.frz (g.eta r)) w:=by
 refine ⟨(GS.refl g w).frzTo _ (.inr ⟨r,(H.obj r ob hr).lt,hc,rfl⟩) (H.ow _ ⟨r,(H.obj r ob hr).lt,hc,rfl⟩),(H.del r).frz ?_ (fun t o ht h0 he=>?_) (H.ow _ ⟨r,(H.obj r ob hr).lt,hc,rfl⟩)⟩
 ·rcases (H.obj r ob hr).block with h0 | ⟨h1,_⟩
  ·exact absurd h0 hc
  ·exact h1
 ·unfold Sim.del at ht
  split at ht
  ·cases ht
  ·rename_i hne
   exact hne (H.inj t r o ob ht hr h0 hc he)
end
end Go.Sim
end
section
namespace Go.Sim
open Go
def StepW (P:Program) (o:Oper) (a:Act) (w:World) (g:Ghost) (K:AVal->Z2->Prop):Prop:=
 ∃ v w' g' r h',((execOp a.eval o).run P w=.ok (.value v) w'\/(execOp a.eval o).run P w=.ok .skip w'/\v=undef)/\GS g w g' w'/\HRel h' g' w'/\VRel g' w' v r/\K r h'
def FlatRel (g:Ghost) (w:World) (news:List Value) (sz:Nat) (es:List (List AVal)):Prop:=
 news.length=es.length*sz/\(∀ e∈es,e.length=sz)/\(∀ u∈news,u.oneCell'=true) /\
 ∀ (i j:Nat) (e:List AVal) (x:AVal),es[i]? = some e->e[j]? = some x -> ∃ u,news[i*sz+j]? = some u/\VRel g w u x
def Rd (h:Z2) (sz:Nat):AVal->List (List AVal)->Prop
 | .slc es,l=>l=es /\ ∀ e∈es,e.length=sz
 | .emp,l=>l=[]
 | .osl r sz' i n,l=>sz'=sz /\ ∃ o,h r=some o/\i+n<=o.es.length/\l=(o.es.drop i).take n
 | _,_=>False
section
variable {P:Program} {o:Oper} {a:Act} {w:World} {g:Ghost} {h:Z2} {n:Nat} {e:Env}
theorem FlatRel.nil (sz:Nat):FlatRel g w [] sz []:=⟨by simp,by simp,by simp,by simp⟩
theorem FlatRel.append {xs ys:List Value} {sz:Nat} {es fs:List (List AVal)} (F:FlatRel g w xs sz es) (G:FlatRel g w ys sz fs):FlatRel g w (xs++ys) sz (es++fs):=by
 refine ⟨by rw [List.length_append,List.length_append,F.1,G.1,Nat.add_mul],fun e he=>?_,fun u hu=>?_,fun i j e x he hx=>?_⟩
 ·rcases List.mem_append.1 he with h | h
  ·exact F.2.1 e h
  ·exact G.2.1 e h
 ·rcases List.mem_append.1 hu with h | h
  ·exact F.2.2.1 u h
  ·exact G.2.2.1 u h
 ·rw [List.getElem?_append] at he
  split at he
  ·rename_i hi
   obtain ⟨u,hu,hv⟩:=F.2.2.2 i j e x he hx
   exact ⟨u,by rw [List.getElem?_append_left (List.getElem?_eq_some_iff.1 hu).1];exact hu,hv⟩
  ·rename_i hi
   obtain ⟨u,hu,hv⟩:=G.2.2.2 _ j e x he hx
   refine ⟨u,?_,hv⟩
   have:xs.length<=i*sz:=by rw [F.1];exact Nat.mul_le_mul_right _ (by omega)
   rw [List.getElem?_append_right (by omega),<-hu,F.1]
   congr 1
   rw [Nat.sub_mul]
   have:es.length*sz<=i*sz:=Nat.mul_le_mul_right _ (by omega)
   omega
theorem div_lt_len {k n sz:Nat} (hk:k<n*sz):k / sz<n:=Nat.div_lt_of_lt_mul (by rw [Nat.mul_comm];exact hk)
theorem flat_of_cells (ad:Addr) (sz:Nat) (es:List (List AVal)) (hsz:∀ e∈es,e.length=sz)
 (hc:∀ (i j:Nat) (e:List AVal) (x:AVal),es[i]? = some e->e[j]? = some x -> ∃ u,w.cell? (ad.add (i*sz+j))=some u/\u.oneCell'=true/\VRel g w u x) :
 ∃ news,FlatRel g w news sz es /\ ∀ (j:Nat) (u:Value),news[j]? = some u->w.cell? (ad.add j)=some u:=by
 have at':∀ k,k<es.length*sz -> ∃ (e:List AVal) (x:AVal),es[k / sz]? = some e/\e[k % sz]? = some x:=by
  intro k hk
  have h0:0<sz:=by
   rcases Nat.eq_zero_or_pos sz with h | h
   ·subst h;simp at hk
   ·exact h
  have h1:=div_lt_len hk
  have he:(es[k / sz]).length=sz:=hsz _ (List.getElem_mem h1)
  exact ⟨_,_,List.getElem?_eq_getElem h1,List.getElem?_eq_getElem (by rw [he];exact Nat.mod_lt _ h0)⟩
 refine ⟨(List.range (es.length*sz)).map fun k=>(w.cell? (ad.add k)).getD undef,⟨by simp,hsz,fun u hu=>?_,fun i j e x he hx=>?_⟩,fun j u hu=>?_⟩
 ·obtain ⟨k,hk,rfl⟩:=List.mem_map.1 hu
  have hk':=List.mem_range.1 hk
  obtain ⟨e,x,he,hx⟩:=at' k hk'
  obtain ⟨u,hu,h1,_⟩:=hc _ _ e x he hx
  rw [Nat.div_add_mod'] at hu
  simpa [hu] using h1
 ·obtain ⟨u,hu,_,h2⟩:=hc i j e x he hx
  have hi:=(List.getElem?_eq_some_iff.1 he).1
  have hj:j<sz:=by
   have:=(List.getElem?_eq_some_iff.1 hx).1
   rw [hsz e (List.mem_of_getElem? he)] at this
   exact this
  have hlt:i*sz+j<es.length*sz:=by
   have:(i+1)*sz<=es.length*sz:=Nat.mul_le_mul_right _ hi
   rw [Nat.add_mul,Nat.one_mul] at this
   omega
  exact ⟨u,by simp [hlt,hu],h2⟩
 ·rw [List.getElem?_map,Option.map_eq_some_iff] at hu
  obtain ⟨k,hk,rfl⟩:=hu
  have hk1:=List.getElem?_eq_some_iff.1 hk
  obtain ⟨hj,hkj⟩:=hk1
  simp at hj hkj
  subst hkj
  obtain ⟨e,x,he,hx⟩:=at' j hj
  obtain ⟨u,hu,_,_⟩:=hc _ _ e x he hx
  rw [Nat.div_add_mod'] at hu
  simp [hu]
theorem ZZ {α:Type} (l:List α) (i n k:Nat) (x:α) (h:((l.drop i).take n)[k]? = some x):k<n/\l[i+k]? = some x:=by
 rw [List.getElem?_take] at h
 split at h
 ·rw [List.getElem?_drop] at h;exact ⟨by assumption,h⟩
 ·cases h
theorem Rd.cells {sz:Nat} {v:Value} {x:AVal} {es:List (List AVal)} (hv:VRel g w v x) (H:HRel h g w) (hr:Rd h sz x es) :
 (es=[] /\ ∃ A c,v=.slice A 0 c) \/ ∃ (ad:Addr) (c:Nat) (news:List Value),v=.slice (some ad) es.length c/\es.length<=c/\FlatRel g w news sz es/\(∀ (j:Nat) (u:Value),news[j]? = some u->w.cell? (ad.add j)=some u)/\0<es.length:=by
 cases x <;> try exact hr.elim
 ·rename_i es'
  obtain ⟨rfl,hsz⟩:=hr
  obtain ⟨A,c,rfl,hin⟩:=hv.slc_inv
  by_cases hp:0<es.length
  ·obtain ⟨hc,ad,sz',rfl,_,_,hsz',hcell⟩:=hin hp
   have hss:sz'=sz:=by
    obtain ⟨x0,hx0⟩:∃ x0,x0∈es:=List.exists_mem_of_length_pos hp
    exact (hsz' _ hx0).symm.trans (hsz _ hx0)
   subst hss
   obtain ⟨news,F,hn⟩:=flat_of_cells ad sz' es hsz' hcell
   exact .inr ⟨ad,c,news,rfl,hc,F,hn,hp⟩
  ·have hnil:es=[]:=List.eq_nil_of_length_eq_zero (by omega)
   subst hnil
   exact .inl ⟨rfl,A,c,rfl⟩
 ·obtain rfl:es=[]:=hr
  obtain ⟨A,rfl,_⟩:=hv.emp_inv
  exact .inl ⟨rfl,A,0,rfl⟩
 ·rename_i r sz' i m
  obtain ⟨rfl,ob,hob,hle,rfl⟩:=hr
  obtain ⟨hrl,hsz,hc⟩:=hv.osl_inv
  have O:=H.obj r ob hob
  have hlen:((ob.es.drop i).take m).length=m:=by simp;omega
  rcases hc with ⟨rfl,rfl,rfl,_⟩ | ⟨cap,off,rfl,hnc,hm,hi,hoff⟩
  ·exact .inl ⟨by simp,none,0,rfl⟩
  ·by_cases hm0:m=0
   ·subst hm0
    exact .inl ⟨by simp,_,_,rfl⟩
   ·rw [hlen]
    have ho:=hoff (by omega)
    obtain ⟨news,F,hn⟩:=flat_of_cells (g:=g) (w:=w) ⟨g.eta r,off,none⟩ sz' ((ob.es.drop i).take m) (fun e he=>by rw [O.len e (List.mem_of_mem_drop (List.mem_of_mem_take he)),<-O.sz,hsz]) (fun k j e x he hx=>by
     obtain ⟨hk,he'⟩:=ZZ _ _ _ _ _ he
     rcases O.block with h0 | ⟨_,_,cur,hcur,_,hh⟩
     ·have:=O.le;omega
     ·obtain ⟨u,hu,h1,h2⟩:=hh _ _ _ _ he' hx
      refine ⟨u,?_,h1,h2⟩
      rw [Addr.add_lit,hcur.cell,<-hu,ho,<-O.sz,hsz,Nat.add_mul]
      congr 1;omega)
    exact .inr ⟨_,cap,news,rfl,hnc,F,hn,by omega⟩
theorem toRow_out:∀ (k:Nat) (ps:List (Nat×Operand)) (row:List SX),toRow k ps=some row->ps=((ps.map (·.2)).zipIdx k).map (fun x=>(x.2,x.1))/\ps.length=row.length /\
 ∀ (j:Nat) (p:Nat×Operand) (s:SX),ps[j]? = some p->row[j]? = some s->Y5 p.2=some s
 | _,[],row,h=>by simp [toRow] at h;subst h;exact ⟨rfl,rfl,by simp⟩
 | k,(i,x) :: r,row,h=>by
   simp only [toRow] at h
   split at h
   ·rename_i hik
    subst hik
    simp only [Option.bind_eq_some_iff,Option.map_eq_some_iff] at h
    obtain ⟨sx,hx,row',hr,rfl⟩:=h
    obtain ⟨h1,h2,h3⟩:=toRow_out (i+1) r row' hr
    refine ⟨by simp only [List.map_cons,List.zipIdx_cons];rw [<-h1],by simp [h2],fun j p s hp hs=>?_⟩
    cases j with
    | zero=>simp at hp hs;subst hp hs;exact hx
    | succ j=>simp at hp hs;exact h3 j p s hp hs
   ·cases h
theorem run_lit {t el:TypeId} {m s:Nat} {parts:Array (Nat×Operand)} {row:List SX} (hel:W8 P t=some el) (hs:szT P el=some s) (hs0:0<s) (hrow:toRow 0 parts.toList=some row) (hm:row.length=m) (hsm:m*s<=16777216)
 (hz:((P.info? el).bind (·.zero)).isSome=true) (ho:o.op=.buildSlice t m parts) (E:ERel n e g w a) (hk:∀ x∈row,isV (ev e x)=true/\(cellsOf (ev e x)).length=s) :
 ∃ cells:Array Value,(execOp a.eval o).run P w=.ok (.value (.slice (some ⟨w.heap.size,0,none⟩) m m)) (w.alloc (.cells cells el))/\cells.size=m*s/\FlatRel g w cells.toList s (row.map fun x=>cellsOf (ev e x)):=by
 obtain ⟨inf,hinf,rfl⟩:=szT_out hs
 have hu:=W0 hel
 obtain ⟨h1,h2,h3⟩:=toRow_out 0 parts.toList row hrow
 have hlen:parts.size=m:=by rw [<-hm,<-h2];simp
 by_cases hm0:m=0
 ·subst hm0
  obtain rfl:row=[]:=List.eq_nil_of_length_eq_zero hm
  obtain rfl:parts = #[]:=Array.eq_empty_of_size_eq_zero hlen
  refine ⟨#[],?_,by simp,by simpa using FlatRel.nil (g:=g) (w:=w) inf.size⟩
  have hr0:Array.range 0 = #[]:=rfl
  simp [execOp,ho,Instr.buildSlice,run_underlying hu,Go.sizeOf,typeInfo,hinf,newRow,Instr.fill,hr0]
 ·rw [hinf] at hz
  obtain ⟨z,hz'⟩:=Option.isSome_iff_exists.1 hz
  simp only [Option.bind_some] at hz'
  have hvs:∀ (j:Nat) (x:SX),row[j]? = some x -> ∃ p,parts.toList[j]? = some p/\CRel g w (a.eval p.2).cells (cellsOf (ev e x))/\(cellsOf (ev e x)).length=inf.size:=by
   intro j x hx
   have hj:j<parts.toList.length:=by rw [h2];exact (List.getElem?_eq_some_iff.1 hx).1
   have hp:=List.getElem?_eq_getElem hj
   obtain ⟨h4,h5⟩:=hk x (List.mem_of_getElem? hx)
   exact ⟨_,hp,CRel.of (J1 E (h3 j _ x hp hx)) h4,h5⟩
  have hsz:∀ v∈(parts.toList.map (·.2)).map a.eval,v.cells.size=inf.size:=by
   intro v hv
   obtain ⟨x,hx,rfl⟩:=List.mem_map.1 hv
   obtain ⟨p,hp,rfl⟩:=List.mem_map.1 hx
   obtain ⟨j,hj⟩:=List.mem_iff_getElem?.1 hp
   have hjr:j<row.length:=by rw [<-h2];exact (List.getElem?_eq_some_iff.1 hj).1
   obtain ⟨p',hp',hc,hl⟩:=hvs j _ (List.getElem?_eq_getElem hjr)
   rw [hj] at hp';cases hp'
   rw [hc.1,hl]
  obtain ⟨cells,hfill,hcs,hck⟩:=Go.Great.fill_dense hs0 ((parts.toList.map (·.2)).map a.eval) 0 ((Array.range (m*inf.size)).map (z.cells[· % z.cells.size]!)) hsz (by simp [hlen])
  have hparts:(parts.map fun (i,x)=>(i,a.eval x)).toList=(((parts.toList.map (·.2)).map a.eval).zipIdx 0).map fun x=>(x.2,x.1):=by
   rw [Array.toList_map]
   conv=>lhs;rw [h1]
   generalize (parts.toList.map (·.2))=xs
   rw [List.zipIdx_map,List.map_map,List.map_map]
   rfl
  refine ⟨cells,?_,by rw [hcs];simp,?_⟩
  ·have hr:=Go.run_buildSlice (P:=P) w t el m (parts.map fun (i,x)=>(i,a.eval x)) cells inf z hu hinf hz' (by omega) (by
    have:=Nat.mul_pos (Nat.pos_of_ne_zero hm0) hs0;omega) (by rw [hparts];exact hfill)
   simp only [execOp,ho,Sem.run_bind,hr,Result.andThen_ok,Sem.run_pure]
  ·have hcl:∀ (i j:Nat) (c:List AVal) (x:AVal),(row.map fun x=>cellsOf (ev e x))[i]? = some c->c[j]? = some x -> ∃ u,cells.toList[i*inf.size+j]? = some u/\u.oneCell'=true/\VRel g w u x:=by
    intro i j c x hc hx
    rw [List.getElem?_map,Option.map_eq_some_iff] at hc
    obtain ⟨sx,hsx,rfl⟩:=hc
    obtain ⟨p,hp,hcr,hl⟩:=hvs i sx hsx
    have hj:j<inf.size:=by rw [<-hl];exact (List.getElem?_eq_some_iff.1 hx).1
    have hi:i<m:=by rw [<-hm];exact (List.getElem?_eq_some_iff.1 hsx).1
    have hlt:i*inf.size+j<m*inf.size:=by
     have:(i+1)*inf.size<=m*inf.size:=Nat.mul_le_mul_right _ hi
     rw [Nat.add_mul,Nat.one_mul] at this
     omega
    have hd:(i*inf.size+j) / inf.size=i:=by
     rw [Nat.mul_comm,Nat.mul_add_div hs0,Nat.div_eq_of_lt hj,Nat.add_zero]
    have hmm:(i*inf.size+j) % inf.size=j:=by
     rw [Nat.mul_comm,Nat.mul_add_mod,Nat.mod_eq_of_lt hj]
    have hju:j<(a.eval p.2).cells.size:=by rw [hcr.1,hl];exact hj
    refine ⟨(a.eval p.2).cells[j],?_,hcr.2.1 j _ (Array.getElem?_eq_getElem hju),hcr.2.2 j _ x (Array.getElem?_eq_getElem hju) hx⟩
    rw [Array.getElem?_toList,hck,if_pos (by simp [hlen];exact hlt),hd,hmm,Nat.sub_zero]
    simp only [List.getElem?_map,hp,Option.map_some,Option.bind_some]
    exact Array.getElem?_eq_getElem hju
   refine ⟨by simp [hcs,hm],?_,fun u hu=>?_,fun i j c x hc hx=>by obtain ⟨u,hu,_,hv⟩:=hcl i j c x hc hx;exact ⟨u,hu,hv⟩⟩
   ·intro c hc
    obtain ⟨x,hx,rfl⟩:=List.mem_map.1 hc
    exact (hk x hx).2
   ·obtain ⟨k,hk'⟩:=List.mem_iff_getElem?.1 hu
    have hkl:k<m*inf.size:=by
     have:=(List.getElem?_eq_some_iff.1 hk').1
     simpa [hcs] using this
    have hi:k / inf.size<row.length:=by rw [hm];exact div_lt_len hkl
    obtain ⟨p,hp,hcr,hl⟩:=hvs _ _ (List.getElem?_eq_getElem hi)
    have hj:k % inf.size<(cellsOf (ev e row[k / inf.size])).length:=by rw [hl];exact Nat.mod_lt _ hs0
    obtain ⟨u',hu',h1',_⟩:=hcl (k / inf.size) (k % inf.size) _ _ (by rw [List.getElem?_map,List.getElem?_eq_getElem hi];rfl) (List.getElem?_eq_getElem hj)
    rw [Nat.div_add_mod'] at hu'
    rw [hk'] at hu';cases hu';exact h1'
theorem cell_alloc_flat (cells:Array Value) (ty:TypeId) (j:Nat):(w.alloc (.cells cells ty)).cell? ((⟨w.heap.size,0,none⟩:Addr).add j)=cells[j]? := by
 rw [Addr.add_lit,cell_of_row _ _ _ cells ty (0,0) (K3 w _),Nat.zero_add]
theorem s_bldF {t el:TypeId} {m s:Nat} {parts:Array (Nat×Operand)} {row:List SX} (hel:W8 P t=some el) (hs:szT P el=some s) (hs0:0<s) (hrow:toRow 0 parts.toList=some row) (hm:row.length=m) (hsm:m*s<=16777216)
 (hz:((P.info? el).bind (·.zero)).isSome=true) (ho:o.op=.buildSlice t m parts) (E:ERel n e g w a) (H:HRel h g w) (hk:∀ x∈row,isV (ev e x)=true/\(cellsOf (ev e x)).length=s) :
 ∃ v w' g',(execOp a.eval o).run P w=.ok (.value v) w'/\GS g w g' w'/\HRel h g' w'/\VRel g' w' v (if row.isEmpty then .emp else .slc (row.map fun x=>cellsOf (ev e x))):=by
 obtain ⟨cells,hr,hcs,F⟩:=run_lit hel hs hs0 hrow hm hsm hz ho E hk
 obtain ⟨S1,H1⟩:=H.alloc (.cells cells el)
 have S2:=S1.frzTo w.heap.size (.inl (Nat.le_refl _)) ⟨_,_,_,K3 w _⟩
 have H2:HRel h (g.frz w.heap.size) (w.alloc (.cells cells el)):=H1.frz (by simp) (fun r ob hr h0 he=>by
  rcases (H.obj r ob hr).block with h' | ⟨hl,_⟩
  ·exact h0 h'
  ·omega) ⟨_,_,_,K3 w _⟩
 refine ⟨_,_,_,hr,S2,H2,?_⟩
 by_cases he:row=[]
 ·subst he
  simp at hm;subst hm
  simpa using VRel.empS (g:=g.frz w.heap.size) (w:=w.alloc (.cells cells el)) ⟨w.heap.size,0,none⟩ rfl (.inr rfl) ⟨_,_,_,K3 w _⟩
 ·have hne:row.isEmpty=false:=by simpa using he
  rw [hne]
  have hlen:(row.map fun x=>cellsOf (ev e x)).length=m:=by simp [hm]
  have key:=VRel.slc_mk (g:=g.frz w.heap.size) (w:=w.alloc (.cells cells el)) (ad:=⟨w.heap.size,0,none⟩) (c:=m) (sz:=s) (es:=row.map fun x=>cellsOf (ev e x)) (by rw [hlen];exact Nat.le_refl _) F.2.1 rfl (.inr rfl)
   (fun i j c x hc hx=>by
     obtain ⟨u,hu,hv⟩:=F.2.2.2 i j c x hc hx
     rw [Array.getElem?_toList] at hu
     exact ⟨u,by rw [cell_alloc_flat];exact hu,F.2.2.1 u (Array.mem_toList_iff.2 (Array.mem_of_getElem? hu)),hv.step S2.toGStep⟩)
  rw [hlen] at key
  simpa using key
theorem WK (H:HRel h g w) (cells:Array Value) {ty:TypeId} {sz cap:Nat} {es:List (List AVal)} (hpos:0<sz) (hcs:cells.size=cap*sz) (hle:es.length<=cap) (hlen:∀ e∈es,e.length=sz)
 (hh:∀ (i j:Nat) (e:List AVal) (x:AVal),es[i]? = some e->e[j]? = some x -> ∃ u:Value,cells[i*sz+j]? = some u/\u.oneCell'=true/\VRel g w u x) :
 GS g w (g.add w.heap.size 0 cap sz) (w.alloc (.cells cells ty))/\HRel (upd h g.nxt (some ⟨ty,sz,es⟩)) (g.add w.heap.size 0 cap sz) (w.alloc (.cells cells ty)):=by
 obtain ⟨S1,H1⟩:=H.alloc (.cells cells ty)
 refine ⟨S1.addTo _ _ _ _ (.inl (Nat.le_refl _)),H1.add hpos hlen hle (.inr ⟨by simp,fun hf=>?_,fun r ob hr h0 he=>?_,cells,.mk0 (K3 w _),by omega,fun i j e x he hx=>?_⟩)⟩
 ·have:=H.fz _ hf;omega
 ·rcases (H.obj r ob hr).block with h' | ⟨hl,_⟩
  ·exact h0 h'
  ·omega
 ·obtain ⟨u,hu,h1,h2⟩:=hh i j e x he hx
  exact ⟨u,by rw [Nat.zero_add];exact hu,h1,h2.step S1⟩
theorem s_bldR {t el:TypeId} {m s:Nat} {parts:Array (Nat×Operand)} {row:List SX} (hel:W8 P t=some el) (hs:szT P el=some s) (hs0:0<s) (hrow:toRow 0 parts.toList=some row) (hm:row.length=m) (hsm:m*s<=16777216)
 (hz:((P.info? el).bind (·.zero)).isSome=true) (ho:o.op=.buildSlice t m parts) (E:ERel n e g w a) (H:HRel h g w) (hk:∀ x∈row,isV (ev e x)=true/\(cellsOf (ev e x)).length=s)
 {K:AVal->Z2->Prop} (hK:∀ r,h r=none->K (.osl r s 0 row.length) (upd h r (some ⟨el,s,row.map fun x=>cellsOf (ev e x)⟩))):StepW P o a w g K:=by
 obtain ⟨cells,hr,hcs,F⟩:=run_lit hel hs hs0 hrow hm hsm hz ho E hk
 obtain ⟨S,H'⟩:=WK H cells (ty:=el) (cap:=m) hs0 hcs (es:=row.map fun x=>cellsOf (ev e x)) (by simp [hm]) F.2.1 (fun i j c x hc hx=>by
  obtain ⟨u,hu,hv⟩:=F.2.2.2 i j c x hc hx
  rw [Array.getElem?_toList] at hu
  exact ⟨u,hu,F.2.2.1 u (Array.mem_toList_iff.2 (Array.mem_of_getElem? hu)),hv⟩)
 refine ⟨_,_,_,.osl g.nxt s 0 row.length,_,.inl hr,S,H',?_,hK _ H.none_nxt⟩
 have hml:m<=maxLen:=by
  have:m*1<=m*s:=Nat.mul_le_mul_left _ hs0
  simp only [maxLen];omega
 rw [hm]
 have:=VRel.osl (g:=g.add w.heap.size 0 m s) (w:=w.alloc (.cells cells el)) g.nxt s 0 m m 0 (Nat.lt_succ_self _) (by simp [Ghost.add]) (Nat.le_refl _) hml (by simp [Ghost.add]) (fun _=>by simp [Ghost.add])
 simpa [Ghost.add] using this
end
end Go.Sim
end
section
namespace Go.Sim
open Go
def Z0 (e:List AVal) (j:Nat) (cs:List AVal):List AVal:=e.take j++cs++e.drop (j+cs.length)
theorem CellsAt.setRow {w:World} {b:Nat} {cur cur':Array Value} {t:OTy} (h:CellsAt w b cur t) (hs:cur'.size=cur.size):CellsAt (w.setRow b cur') b cur' t:=by
 obtain ⟨lo,hi,h,k⟩:=h
 exact ⟨lo,hi,setRow_heap w b cur cur' t.id _ h,by rw [hs];exact k⟩
theorem U9 (P:Program) (g o:Nat) (t:OTy):∀ (vs:List Value) (i:Nat) (cur:Array Value) (w:World),CellsAt w g cur t->o+i+vs.length<=cur.size->(∀ v∈vs,v.oneCell'=true) ->
 (storeCells ⟨g,o,none⟩ vs i).run P w=.ok () (w.setRow g (cur.toList.take (o+i)++vs++cur.toList.drop (o+i+vs.length)).toArray)
 | [],i,cur,w,hc,_,_=>by
   obtain ⟨lo,hi,hg,_⟩:=hc
   simp only [storeCells,List.append_nil,List.length_nil,Nat.add_zero,List.take_append_drop,Array.toArray_toList]
   rw [setRow_self w g cur t.id _ hg]
   rfl
 | v :: rest,i,cur,w,hc,hl,h1=>by
   have hi:o+i<cur.size:=by simp at hl;omega
   have hadd:(⟨g,o,none⟩:Addr).add i=⟨g,o+i,none⟩:=by unfold Addr.add;split <;> simp_all
   have ih:=U9 P g o t rest (i+1) (cur.setIfInBounds (o+i) v) (w.setRow g (cur.setIfInBounds (o+i) v)) (hc.setRow (by simp)) (by simp at hl ⊢; omega) (fun x hx=>h1 x (by simp [hx]))
   obtain ⟨lo,hi',hg,hk⟩:=hc
   have hcell:w.cell? ⟨g,o+i,none⟩=some cur[o+i]:=by simp [World.cell?,hg,hi]
   have hfro:w.frozen? ⟨g,o+i,none⟩=false:=by
    simp only [World.frozen?,hg,Bool.and_eq_false_iff,decide_eq_false_iff_not]
    omega
   have hst:(store ((⟨g,o,none⟩:Addr).add i) v).run P w=.ok () (w.setRow g (cur.setIfInBounds (o+i) v)):=by
    rw [hadd,run_store P w _ v _ (h1 v (by simp)),hcell]
    simp [hfro,setCell_eq_setRow w g (o+i) cur t.id _ v hg]
   simp only [storeCells,Sem.run_bind,hst,Result.andThen_ok,ih,setRow_setRow]
   congr 3
   have e:=list_seg_step cur.toList (o+i) v rest (by simp at hl ⊢; omega)
   simpa [Array.toList_setIfInBounds,Nat.add_assoc] using e
section
variable {P:Program} {o:Oper} {a:Act} {w:World} {g:Ghost} {h:Z2} {n:Nat} {e:Env}
theorem root_world (H:HRel h g w) {r:Nat} {ob:AObj} (hr:h r=some ob) (h0:g.cap r≠0) (cur':Array Value):GS g w g (w.setRow (g.eta r) cur')/\HRel (del h r) g (w.setRow (g.eta r) cur'):=by
 have hnf:¬ g.fz (g.eta r):=by
  rcases (H.obj r ob hr).block with h' | ⟨_,hf,_⟩
  ·exact absurd h' h0
  ·exact hf
 have S:GS g w g (w.setRow (g.eta r) cur'):=GS.world (fun b hb=>setRow_other w _ b _ (fun e=>hnf (e ▸ hb))) rfl rfl rfl (by simp) (fun b _ ho=>setRow_other w _ b _ (fun e=>by
  rcases ho with ho | ⟨o,ho,hc⟩
  ·exact ho ⟨r,(H.obj r ob hr).lt,h0,e.symm⟩
  ·rcases (H.obj r ob hr).block with h' | ⟨_,_,cur,hcur,_⟩
   ·exact h0 h'
   ·obtain ⟨fr,hq⟩:=hcur.ex
    rw [e,hq] at ho;cases ho;cases hc))
 refine ⟨S,fun t o' ht=>?_,(H.del r).inj,fun b hb=>by rw [size_setRow];exact H.fz b hb,fun b hb=>?_,(H.del r).mob.step S fun _ _ _ h=>h⟩
 case refine_2=>
  obtain ⟨cur,t,f,hc⟩:=H.ow b hb
  by_cases e:b=g.eta r
  ·subst e;exact ⟨cur',t,f,setRow_heap w _ cur cur' _ _ hc⟩
  ·exact ⟨cur,t,f,(setRow_other w _ _ _ e).trans hc⟩
 unfold Sim.del at ht
 split at ht
 ·cases ht
 ·rename_i hne
  refine (H.obj t o' ht).step S (fun hc=>?_) (fun hc=>?_)
  ·exact setRow_other w _ _ _ (fun he=>hne (H.inj t r o' ob ht hr hc h0 he))
  ·rcases (H.obj t o' ht).block with h' | ⟨_,hf,_⟩
   ·exact absurd h' hc
   ·exact hf
theorem root_write (H:HRel h g w) {r:Nat} {ob:AObj} (hr:h r=some ob) {cur:Array Value} (hcur:CellsAt w (g.eta r) cur ob.ty) (h0:g.cap r≠0) (cur':Array Value) (hsz:cur'.size=cur.size)
 {es':List (List AVal)} (hlen:∀ e∈es',e.length=ob.sz) (hle:es'.length<=g.cap r)
 (hh:∀ (i j:Nat) (e:List AVal) (x:AVal),es'[i]? = some e->e[j]? = some x -> ∃ u,cur'[g.bo r+(i*ob.sz+j)]? = some u/\u.oneCell'=true/\VRel g w u x) :
 GS g w g (w.setRow (g.eta r) cur')/\HRel (upd h r (some { ob with es:=es' })) g (w.setRow (g.eta r) cur'):=by
 obtain ⟨S,H'⟩:=root_world H hr h0 cur'
 have O:=H.obj r ob hr
 refine ⟨S,fun t o' ht=>?_,fun t t' o1 o2 ht ht' hc hc' he=>?_,H'.fz,H'.ow,H.mob.step S fun t n es h=>h.updE hr⟩
 ·unfold upd at ht
  split at ht
  ·rename_i htr
   subst htr
   cases ht
   refine ⟨O.lt,O.sz,O.pos,hlen,hle,.inr ?_⟩
   rcases O.block with h' | ⟨h1,h2,cur0,hcur0,hsz0,_⟩
   ·exact absurd h' h0
   ·obtain rfl:=hcur.inj hcur0
    refine ⟨by rw [size_setRow];exact h1,h2,cur',hcur.setRow hsz,by rw [hsz];exact hsz0,fun i j e x he hx=>?_⟩
    obtain ⟨u,hu,h3,h4⟩:=hh i j e x he hx
    exact ⟨u,hu,h3,h4.step S⟩
  ·rename_i htr
   exact H'.obj t o' (by unfold Sim.del;rw [if_neg htr];exact ht)
 ·have g1:∀ x y,upd h r (some { ob with es:=es' }) x=some y -> ∃ y',h x=some y':=by
   intro x y hx
   unfold upd at hx
   split at hx
   ·rename_i hxr;subst hxr;exact ⟨ob,hr⟩
   ·exact ⟨y,hx⟩
  obtain ⟨y1,hy1⟩:=g1 t o1 ht
  obtain ⟨y2,hy2⟩:=g1 t' o2 ht'
  exact H.inj t t' y1 y2 hy1 hy2 hc hc' he
theorem s_box {t:TypeId} {s:Nat} {x:Operand} {sx:SX} (ho:o.op=.box t x) (_hs:szT P t=some s) (hs0:0<s) (hx:Y5 x=some sx) (E:ERel n e g w a) (H:HRel h g w)
 (hv:isV (ev e sx)=true) (hl:(cellsOf (ev e sx)).length=s) {K:AVal->Z2->Prop} (hK:∀ r,h r=none->K (.vp r 0) (upd h r (some ⟨t,s,[cellsOf (ev e sx)]⟩))):StepW P o a w g K:=by
 have hc:=CRel.of (J1 E hx) hv
 obtain ⟨S,H'⟩:=WK H (a.eval x).cells (ty:=t) (sz:=s) (cap:=1) (es:=[cellsOf (ev e sx)]) hs0 (by rw [hc.1,hl,Nat.one_mul]) (by simp) (by simpa using hl) (fun i j c y hc' hy=>by
  cases i with
  | succ i=>simp at hc'
  | zero=>
    simp at hc';subst hc'
    have hj:=(List.getElem?_eq_some_iff.1 hy).1
    have hju:j<(a.eval x).cells.size:=by rw [hc.1];exact hj
    exact ⟨_,by rw [Nat.zero_mul,Nat.zero_add];exact Array.getElem?_eq_getElem hju,hc.2.1 j _ (Array.getElem?_eq_getElem hju),hc.2.2 j _ y (Array.getElem?_eq_getElem hju) hy⟩)
 refine ⟨.pointer (some ⟨w.heap.size,0,none⟩),_,_,.vp g.nxt 0,_,.inl ?_,S,H',?_,hK _ H.none_nxt⟩
 ·simp [execOp,ho,Instr.box,newVar,newRow]
 ·have:=VRel.vp (g:=g.add w.heap.size 0 1 s) (w:=w.alloc (.cells (a.eval x).cells t)) g.nxt 0 (Nat.lt_succ_self _) (by simp [Ghost.add]) (by simp [Ghost.add])
  simpa [Ghost.add] using this
theorem s_boxF {t:TypeId} {s:Nat} {x:Operand} {sx:SX} (ho:o.op=.box t x) (hx:Y5 x=some sx) (E:ERel n e g w a) (H:HRel h g w)
 (hv:isV (ev e sx)=true) (_hl:(cellsOf (ev e sx)).length=s) {K:AVal->Z2->Prop} (hK:K (.pin (cellsOf (ev e sx))) h):StepW P o a w g K:=by
 have hc:=CRel.of (J1 E hx) hv
 obtain ⟨S1,H1⟩:=H.alloc (.cells (a.eval x).cells t)
 have S2:=S1.frzTo w.heap.size (.inl (Nat.le_refl _)) ⟨_,_,_,K3 w _⟩
 have H2:HRel h (g.frz w.heap.size) (w.alloc (.cells (a.eval x).cells t)):=H1.frz (by simp) (fun r ob hr h0 he=>by
  rcases (H.obj r ob hr).block with h' | ⟨hl,_⟩
  ·exact h0 h'
  ·omega) ⟨_,_,_,K3 w _⟩
 refine ⟨.pointer (some ⟨w.heap.size,0,none⟩),_,_,.pin _,h,.inl ?_,S2,H2,?_,hK⟩
 ·simp [execOp,ho,Instr.box,newVar,newRow]
 ·refine VRel.pin_mk rfl (.inr rfl) fun k b hb=>?_
  have hj:=(List.getElem?_eq_some_iff.1 hb).1
  have hju:k<(a.eval x).cells.size:=by rw [hc.1];exact hj
  exact ⟨_,by rw [cell_alloc_flat];exact Array.getElem?_eq_getElem hju,hc.2.1 k _ (Array.getElem?_eq_getElem hju),(hc.2.2 k _ b (Array.getElem?_eq_getElem hju) hb).step S2.toGStep⟩
theorem s_new {t:TypeId} {s:Nat} {z:List AVal} (ho:o.op=.alloc t) (_hs:szT P t=some s) (hz:XU P t=some z) (hs0:0<s) (hzl:z.length=s) (H:HRel h g w)
 {K:AVal->Z2->Prop} (hK:∀ r,h r=none->K (.vp r 0) (upd h r (some ⟨t,s,[z]⟩))):StepW P o a w g K:=by
 obtain ⟨i,zv,hi,hzv,hc⟩:=ZW (g:=g) (w:=w) hz
 obtain ⟨S,H'⟩:=WK H zv.cells (ty:=t) (sz:=s) (cap:=1) (es:=[z]) hs0 (by rw [hc.1,hzl,Nat.one_mul]) (by simp) (by simpa using hzl) (fun i j c y hc' hy=>by
  cases i with
  | succ i=>simp at hc'
  | zero=>
    simp at hc';subst hc'
    have hj:=(List.getElem?_eq_some_iff.1 hy).1
    have hju:j<zv.cells.size:=by rw [hc.1];exact hj
    exact ⟨_,by rw [Nat.zero_mul,Nat.zero_add];exact Array.getElem?_eq_getElem hju,hc.2.1 j _ (Array.getElem?_eq_getElem hju),hc.2.2 j _ y (Array.getElem?_eq_getElem hju) hy⟩)
 refine ⟨.pointer (some ⟨w.heap.size,0,none⟩),_,_,.vp g.nxt 0,_,.inl ?_,S,H',?_,hK _ H.none_nxt⟩
 ·simp [execOp,ho,Instr.alloc,zeroValue,typeInfo,hi,hzv,newVar,newRow]
 ·have:=VRel.vp (g:=g.add w.heap.size 0 1 s) (w:=w.alloc (.cells zv.cells t)) g.nxt 0 (Nat.lt_succ_self _) (by simp [Ghost.add]) (by simp [Ghost.add])
  simpa [Ghost.add] using this
theorem s_new0 {t:TypeId} {z:List AVal} (ho:o.op=.alloc t) (hz:XU P t=some z) (H:HRel h g w) {K:AVal->Z2->Prop} (hK:K (.pin []) h):StepW P o a w g K:=by
 obtain ⟨i,zv,hi,hzv,hc⟩:=ZW (g:=g) (w:=w) hz
 obtain ⟨S1,H1⟩:=H.alloc (.cells zv.cells t)
 have S2:=S1.frzTo w.heap.size (.inl (Nat.le_refl _)) ⟨_,_,_,K3 w _⟩
 have H2:HRel h (g.frz w.heap.size) (w.alloc (.cells zv.cells t)):=H1.frz (by simp) (fun r ob hr h0 he=>by
  rcases (H.obj r ob hr).block with h' | ⟨hl,_⟩
  ·exact h0 h'
  ·omega) ⟨_,_,_,K3 w _⟩
 refine ⟨.pointer (some ⟨w.heap.size,0,none⟩),_,_,.pin _,h,.inl ?_,S2,H2,?_,hK⟩
 ·simp [execOp,ho,Instr.alloc,zeroValue,typeInfo,hi,hzv,newVar,newRow]
 ·exact VRel.pin_mk rfl (.inr rfl) fun k b hb=>by simp at hb
theorem s_st0 {t:TypeId} {x y:Operand} {sx sy:SX} (ho:o.op=.store t x y) (hs:szT P t=some 0) (hx:Y5 x=some sx) (hy:Y5 y=some sy) (E:ERel n e g w a) (H:HRel h g w)
 {cs:List AVal} (hp:deVp (ev e sx)=.pin cs) (hv:isV (ev e sy)=true) (hl:cellsOf (ev e sy)=[]) {K:AVal->Z2->Prop} (hK:K .dead h):StepW P o a w g K:=by
 have h1:=(J1 E hx).deVp
 rw [hp] at h1
 obtain ⟨ad,hv1,hsp,_,_⟩:=h1.pin_inv
 have hc:=CRel.of (J1 E hy) hv
 have hcs:(a.eval y).cells.size=0:=by rw [hc.1,hl];rfl
 have hcl:(a.eval y).cells.toList=[]:=by
  have:(a.eval y).cells.toList.length=0:=by simpa using hcs
  exact List.eq_nil_of_length_eq_zero this
 refine ⟨undef,w,g,.dead,h,.inr ⟨?_,rfl⟩,GS.refl g w,H,.dead _,hK⟩
 simp only [execOp,ho,Instr.storeAt,hv1,Instr.sureAddr,storeVar,Sem.run_bind,Sem.run_pure,Result.andThen_ok,X1 hs,hcs,hcl,ne_eq,not_true_eq_false,if_false,storeCells]
theorem phantom (H:HRel h g w) (A:Option Addr) (hA:∀ ad,A=some ad->ad.spot=none) (ty:TypeId) {sz:Nat} (hs0:0<sz) :
 ∃ g',GS g w g' w/\HRel (upd h g.nxt (some ⟨ty,sz,[]⟩)) g' w/\VRel g' w (.slice A 0 0) (.osl g.nxt sz 0 0):=by
 refine ⟨g.add ((A.map (·.block)).getD 0) 0 0 sz,(GS.refl g w).addTo _ _ _ _ (.inr (.inr rfl)),H.add hs0 (by simp) (by simp) (.inl rfl),?_⟩
 cases A with
 | none=>exact .osl0 _ _ (Nat.lt_succ_self _) (by simp [Ghost.add]) (by simp [Ghost.add])
 | some ad=>
   obtain ⟨b,off,sp⟩:=ad
   obtain rfl:sp=none:=hA _ rfl
   have:=VRel.osl (g:=g.add b 0 0 sz) (w:=w) g.nxt sz 0 0 0 off (Nat.lt_succ_self _) (by simp [Ghost.add]) (Nat.le_refl _) (by simp [maxLen]) (by simp [Ghost.add]) (fun h=>absurd h (by omega))
   simpa [Ghost.add] using this
theorem s_newnil {x:Operand} {el:TypeId} {s:Nat} (ho:o.op=.move x\/o.op=.assign x) (hx:x=.const (.slice none 0 0)) (hs0:0<s) (H:HRel h g w)
 {K:AVal->Z2->Prop} (hK:∀ r,h r=none->K (.osl r s 0 0) (upd h r (some ⟨el,s,[]⟩))):StepW P o a w g K:=by
 subst hx
 obtain ⟨g',S,H',V⟩:=phantom H none (by simp) el hs0
 exact ⟨_,w,g',_,_,.inl (by rcases ho with ho | ho <;> simp [execOp,ho,Act.eval];all_goals rfl),S,H',V,hK _ H.none_nxt⟩
theorem s_st {t:TypeId} {s:Nat} {x y:Operand} {sx sy:SX} (ho:o.op=.store t x y) (hs:szT P t=some s) (hx:Y5 x=some sx) (hy:Y5 y=some sy) (E:ERel n e g w a) (H:HRel h g w)
 {r i j:Nat} {ob:AObj} (hp:deVp (ev e sx)=.ptr r i j) (hob:h r=some ob) (hi:i<ob.es.length) (hj:j+s<=(ob.es.getD i []).length) (hv:isV (ev e sy)=true) (hl:(cellsOf (ev e sy)).length=s)
 {K:AVal->Z2->Prop} (hK:K .dead (upd h r (some { ob with es:=ob.es.set i (Z0 (ob.es.getD i []) j (cellsOf (ev e sy))) }))):StepW P o a w g K:=by
 have h1:=(J1 E hx).deVp
 rw [hp] at h1
 obtain ⟨hr,hv1⟩:=h1.ptr_inv
 have hc:=CRel.of (J1 E hy) hv
 have O:=H.obj r ob hob
 have hel:=U6 ob.es i [] hi
 have hele:=O.len _ (List.mem_of_getElem? hel)
 generalize ob.es.getD i []=E0 at hj hel hele hK
 rcases O.block with h' | ⟨hlt,hf,cur,hcur,hsz,hh⟩
 ·have:=O.le;omega
 ·have hc0:g.cap r≠0:=by have:=O.le;omega
  have hbound:g.bo r+i*ob.sz+j+s<=cur.size:=by
   have h2:(i+1)*ob.sz<=g.cap r*ob.sz:=Nat.mul_le_mul_right _ (Nat.lt_of_lt_of_le hi O.le)
   rw [Nat.add_mul,Nat.one_mul] at h2
   omega
  have hvl:(a.eval y).cells.toList.length=s:=by simpa using hc.1.trans hl
  have hcs:(a.eval y).cells.size=s:=hc.1.trans hl
  have hrun:=U9 P (g.eta r) (g.bo r+i*ob.sz+j) ob.ty (a.eval y).cells.toList 0 cur w hcur (by omega) (fun u hu=>by
   obtain ⟨k,hk⟩:=List.mem_iff_getElem?.1 hu
   rw [Array.getElem?_toList] at hk
   exact hc.2.1 k u hk)
  simp only [Nat.add_zero] at hrun
  have helt:(Z0 E0 j (cellsOf (ev e sy))).length=ob.sz:=by
   simp only [Z0,List.length_append,List.length_take,List.length_drop]
   omega
  obtain ⟨S,H'⟩:=root_write H hob hcur hc0 (cur.toList.take (g.bo r+i*ob.sz+j)++(a.eval y).cells.toList++cur.toList.drop (g.bo r+i*ob.sz+j+(a.eval y).cells.toList.length)).toArray
   (by simp only [List.size_toArray,List.length_append,List.length_take,List.length_drop,Array.length_toList];rw [Array.length_toList] at hvl;omega)
   (es':=ob.es.set i (Z0 E0 j (cellsOf (ev e sy)))) (fun c hc'=>by
     rcases List.mem_or_eq_of_mem_set hc' with h3 | h3
     ·exact O.len c h3
     ·rw [h3];exact helt) (by simpa using O.le) (fun k l c x' hk hl'=>by
     simp only [List.getElem?_toArray]
     have hl2:l<ob.sz:=by
      rw [List.getElem?_set] at hk
      split at hk
      ·cases hk;rw [<-helt];exact (List.getElem?_eq_some_iff.1 hl').1
      ·rw [<-O.len c (List.mem_of_getElem? hk)];exact (List.getElem?_eq_some_iff.1 hl').1
     rw [List.getElem?_set] at hk
     split at hk
     ·rename_i hik
      subst hik
      cases hk
      simp only [Z0] at hl'
      by_cases hA:l<j
      ·rw [List.append_assoc,List.getElem?_append_left (by simp;omega),List.getElem?_take,if_pos hA] at hl'
       obtain ⟨u,hu,h3,h4⟩:=hh _ _ _ _ hel hl'
       refine ⟨u,?_,h3,h4⟩
       rw [List.append_assoc,List.getElem?_append_left (by simp;omega),List.getElem?_take,if_pos (by omega),Array.getElem?_toList]
       exact hu
      ·by_cases hB:l<j+s
       ·rw [List.append_assoc,List.getElem?_append_right (by simp;omega),List.getElem?_append_left (by simp;omega)] at hl'
        simp only [List.length_take] at hl'
        rw [show l-min j E0.length=l-j by omega] at hl'
        have hju:l-j<(a.eval y).cells.size:=by rw [hc.1];omega
        refine ⟨(a.eval y).cells[l-j],?_,hc.2.1 _ _ (Array.getElem?_eq_getElem hju),hc.2.2 _ _ _ (Array.getElem?_eq_getElem hju) hl'⟩
        rw [List.append_assoc,List.getElem?_append_right (by simp;omega),List.getElem?_append_left (by simp;omega)]
        simp only [List.length_take,Array.length_toList]
        rw [show g.bo r+(i*ob.sz+l)-min (g.bo r+i*ob.sz+j) cur.size=l-j by omega,Array.getElem?_toList]
        exact Array.getElem?_eq_getElem hju
       ·rw [List.append_assoc,List.getElem?_append_right (by simp;omega),List.getElem?_append_right (by simp;omega),List.getElem?_drop] at hl'
        simp only [List.length_take] at hl'
        rw [show j+(cellsOf (ev e sy)).length+(l-min j E0.length-(cellsOf (ev e sy)).length)=l by omega] at hl'
        obtain ⟨u,hu,h3,h4⟩:=hh _ _ _ _ hel hl'
        refine ⟨u,?_,h3,h4⟩
        rw [List.append_assoc,List.getElem?_append_right (by simp;omega),List.getElem?_append_right (by simp only [List.length_take,Array.length_toList];omega),List.getElem?_drop]
        simp only [List.length_take,Array.length_toList]
        rw [Array.getElem?_toList,<-hu]
        congr 1
        rw [Array.length_toList] at hvl
        omega
     ·rename_i hik
      obtain ⟨u,hu,h3,h4⟩:=hh _ _ _ _ hk hl'
      refine ⟨u,?_,h3,h4⟩
      have hcase:k*ob.sz+l<i*ob.sz\/(i+1)*ob.sz<=k*ob.sz+l:=by
       rcases Nat.lt_or_gt_of_ne hik with h5 | h5
       ·right
        have:(i+1)*ob.sz<=k*ob.sz:=Nat.mul_le_mul_right _ h5
        omega
       ·left
        have:(k+1)*ob.sz<=i*ob.sz:=Nat.mul_le_mul_right _ h5
        rw [Nat.add_mul,Nat.one_mul] at this
        omega
      rw [Nat.add_mul,Nat.one_mul] at hcase
      rcases hcase with h5 | h5
      ·rw [List.append_assoc,List.getElem?_append_left (by simp;have:=(Array.getElem?_eq_some_iff.1 hu).1;omega),List.getElem?_take,if_pos (by omega),Array.getElem?_toList]
       exact hu
      ·rw [List.append_assoc,List.getElem?_append_right (by simp;omega),List.getElem?_append_right (by simp;rw [Array.length_toList] at hvl;omega),List.getElem?_drop]
       simp only [List.length_take,Array.length_toList]
       rw [Array.getElem?_toList,<-hu]
       congr 1
       rw [Array.length_toList] at hvl
       omega)
  have hadr:(⟨g.eta r,g.bo r+i*g.sz r+j,none⟩:Addr)=⟨g.eta r,g.bo r+i*ob.sz+j,none⟩:=by rw [O.sz]
  refine ⟨undef,_,g,.dead,_,.inr ⟨?_,rfl⟩,S,H',.dead _,hK⟩
  simp only [execOp,ho,Instr.storeAt,hv1,Instr.sureAddr,hadr,storeVar,Sem.run_bind,Sem.run_pure,Result.andThen_ok,X1 hs,hcs,ne_eq,not_true_eq_false,if_false,hrun]
end
end Go.Sim
end
section
namespace Go.Sim
open Go
section
variable {P:Program} {o:Oper} {a:Act} {w:World} {g:Ghost} {h:Z2} {n:Nat} {e:Env}
structure Src (P:Program) (w:World) (u:TypeId) (v2:Value) (s m:Nat) (news:List Value):Prop where
 ty:P.underlying u=some .string \/ ∃ d,P.underlying u=some (.slice d)
 len:∀ w1,(Builtin.lenOf v2).run P w1=.ok m w1
 cells:∀ w1,w1=w\/w1=w.drew->(Builtin.firstCells s m v2).run P w1=.ok news.toArray w1
 size:news.length=m*s
 one:∀ u∈news,u.oneCell'=true
theorem V5 {t u ty el:TypeId} {s:Nat} (hel:W8 P t=some el) (hs:szT P el=some s) (A:Option Addr) (k c:Nat) (hk:k<=c) {v2:Value} {news:List Value} (S:Src P w u v2 s 0 news) :
 (Builtin.append_ #[t,u] ty #[.slice A k c,v2]).run P w=.ok (.slice A k c) w:=by
 have hu:=W0 hel
 have hn:news=[]:=List.eq_nil_of_length_eq_zero (by have:=S.size;omega)
 have hc:=S.cells w (.inl rfl)
 rw [hn] at hc
 rcases S.ty with hd | ⟨d,hd⟩ <;> cases A <;> simp [Builtin.append_,run_underlying hu,run_underlying hd,X1 hs,S.len,hc,hk,storeCells]
theorem WV {t u ty el:TypeId} {s:Nat} (hel:W8 P t=some el) (hs:szT P el=some s)
 (b off sLen sCap:Nat) (cur:Array Value) (ct:OTy) (hg:CellsAt w b cur ct)
 (m:Nat) {v2:Value} {news:List Value} (S:Src P w u v2 s m news)
 (hroom:sLen+m<=sCap) (hfit:off+sLen*s+news.length<=cur.size) :
 (Builtin.append_ #[t,u] ty #[.slice (some ⟨b,off,none⟩) sLen sCap,v2]).run P w =
   .ok (.slice (some ⟨b,off,none⟩) (sLen+m) sCap) (w.setRow b (cur.toList.take (off+sLen*s)++news++cur.toList.drop (off+sLen*s+news.length)).toArray):=by
 have hu:=W0 hel
 have hst:=U9 P b (off+sLen*s) ct news 0 cur w hg (by simpa using hfit) S.one
 simp only [Nat.add_zero] at hst
 rcases S.ty with hd | ⟨d,hd⟩ <;> simp [Builtin.append_,run_underlying hu,run_underlying hd,X1 hs,S.len,hroom,S.cells w (.inl rfl),Addr.add_lit,hst]
theorem WU {t u ty el:TypeId} {s:Nat} {i:TypeInfo} {z:Value} (hel:W8 P t=some el) (hs:szT P el=some s) (hi:P.info? el=some i) (hz:i.zero=some z)
 (A:Option Addr) (sLen sCap:Nat) (olds:List Value) (hold:(Builtin.firstCells s sLen (.slice A sLen sCap)).run P w.drew=.ok olds.toArray w.drew)
 (m:Nat) {v2:Value} {news:List Value} (S:Src P w u v2 s m news)
 (hg:sCap<sLen+m) (h63:((sLen+m:Nat):Int)<=9223372036854775807) (hfit:Builtin.nextslicecap (sLen+m) sCap*i.bytes<=281474976710656) :
 (Builtin.append_ #[t,u] ty #[.slice A sLen sCap,v2]).run P w =
   .ok (.slice (some ⟨w.heap.size,0,none⟩) (sLen+m) (grownCap w (sLen+m) sCap el))
    (w.drew.alloc (.cells (olds.toArray++news.toArray++Builtin.zeroCells z.cells (grownCap w (sLen+m) sCap el-(sLen+m))) el)):=by
 have hu:=W0 hel
 have hn:¬ (sLen+m<=sCap):=by omega
 have h63':¬ (9223372036854775807<((sLen:Int)+(m:Int))):=by omega
 have h48':¬ (281474976710656<Builtin.nextslicecap (sLen+m) sCap*i.bytes):=by omega
 rcases S.ty with hd | ⟨d,hd⟩ <;> simp [Builtin.append_,run_underlying hu,run_underlying hd,X1 hs,typeInfo,zeroValue,hi,hz,S.len,hn,h63',h48',Question.forced,S.cells w.drew (.inr rfl),hold,newRow,grownCap] <;> (congr 2;apply Array.ext';simp [List.append_assoc])
theorem Rd.src {t el:TypeId} {s:Nat} (hel:W8 P t=some el) {v:Value} {x:AVal} {es:List (List AVal)} (hv:VRel g w v x) (H:HRel h g w) (hr:Rd h s x es) :
 ∃ news,Src P w t v s es.length news/\FlatRel g w news s es:=by
 rcases hr.cells hv H with ⟨rfl,A,c,rfl⟩ | ⟨ad,c,news,rfl,_,F,hn,_⟩
 ·refine ⟨[],⟨.inr ⟨_,W0 hel⟩,fun w1=>by simp [Builtin.lenOf],fun w1 _=>?_,by simp,by simp⟩,FlatRel.nil s⟩
  cases A <;> simp [Builtin.firstCells,loadCells,loadCellsFrom]
 ·refine ⟨news,⟨.inr ⟨_,W0 hel⟩,fun w1=>by simp [Builtin.lenOf],fun w1 h1=>?_,F.1,F.2.2.1⟩,F⟩
  rcases h1 with rfl | rfl
  ·exact run_firstCells_some (P:=P) _ s es.length ad es.length c news F.1 hn
  ·exact run_firstCells_some (P:=P) _ s es.length ad es.length c news F.1 hn
def Y8 (l:List UInt8):List (List AVal):=l.map fun b=>[.int .u8 b.toNat]
theorem str_src {u:TypeId} (hu:P.underlying u=some .string) {v:Value} {l:List UInt8} (hv:VRel g w v (.str l)):∃ news,Src P w u v 1 (Y8 l).length news/\FlatRel g w news 1 (Y8 l):=by
 obtain ⟨s,rfl,rfl⟩:=hv.str_inv
 have hs:(Y8 s.data.toList).length=s.size:=by rw [Y8,List.length_map,K9]
 refine ⟨s.data.toList.map fun b=>.int .u8 b.toNat,⟨.inl hu,fun w1=>by rw [hs];simp [Builtin.lenOf],fun w1 _=>?_,by simp [Y8],by simp [Value.oneCell']⟩,by simp [Y8],by simp [Y8],by simp [Value.oneCell'],fun i j c x hc hx=>?_⟩
 ·rw [hs]
  simp only [Builtin.firstCells,Sem.run_pure]
  congr 1
  have:s.extract 0 s.size=s:=by
   apply ByteArray.ext
   simp
  rw [this]
  apply Array.ext'
  simp
 ·simp only [Y8,List.getElem?_map,Option.map_eq_some_iff] at hc
  obtain ⟨b,hb,rfl⟩:=hc
  cases j with
  | succ j=>simp at hx
  | zero=>
    simp at hx;subst hx
    exact ⟨_,by rw [Nat.mul_one,Nat.add_zero,List.getElem?_map,hb];rfl,.int _ _⟩
theorem bytesT_out {t:TypeId} {i:TypeInfo} {b:Nat} (hb:bytesT P t=some b) (hi:P.info? t=some i):i.bytes=b:=by
 unfold bytesT at hb
 rw [hi] at hb
 simpa using hb
theorem root_grown (H:HRel h g w) {ty:TypeId} {s cap k:Nat} {xs ys:List Value} {es fs:List (List AVal)} (hs0:0<s) (F:FlatRel g w xs s es) (G:FlatRel g w ys s fs) (z:Array Value) (hz:z.size=s)
 (hcap:es.length+fs.length<=cap) (hk:k=cap-(es.length+fs.length)) (hmax:cap<=maxLen) :
 ∃ g' w',w'=w.drew.alloc (.cells (xs.toArray++ys.toArray++Builtin.zeroCells z k) ty)/\GS g w g' w'/\HRel (upd h g.nxt (some ⟨ty,s,es++fs⟩)) g' w' /\
   VRel g' w' (.slice (some ⟨w.heap.size,0,none⟩) (es.length+fs.length) cap) (.osl g.nxt s 0 (es.length+fs.length)):=by
 have FG:=F.append G
 obtain ⟨S0,H0⟩:=H.drew
 have hsize:(xs.toArray++ys.toArray++Builtin.zeroCells z k).size=cap*s:=by
  simp only [Array.size_append,List.size_toArray,size_zeroCells,hz,F.1,G.1,<-Nat.add_mul]
  congr 1;omega
 obtain ⟨S,H'⟩:=WK H0 (xs.toArray++ys.toArray++Builtin.zeroCells z k) (ty:=ty) (cap:=cap) (es:=es++fs) hs0 hsize (by simpa using hcap) FG.2.1 (fun i j c x hc hx=>by
  obtain ⟨u,hu,hv⟩:=FG.2.2.2 i j c x hc hx
  refine ⟨u,?_,FG.2.2.1 u (List.mem_of_getElem? hu),hv.step S0⟩
  have hlt:=(List.getElem?_eq_some_iff.1 hu).1
  rw [Array.getElem?_append_left (by simpa using hlt)]
  have ht:xs.toArray++ys.toArray=(xs++ys).toArray:=by simp
  rw [ht,List.getElem?_toArray]
  exact hu)
 refine ⟨_,_,rfl,S0.trans S,H',?_⟩
 have:=VRel.osl (g:=g.add w.drew.heap.size 0 cap s) (w:=w.drew.alloc (.cells (xs.toArray++ys.toArray++Builtin.zeroCells z k) ty)) g.nxt s 0 (es.length+fs.length) cap 0 (Nat.lt_succ_self _) (by simp [Ghost.add]) hcap hmax (by simp [Ghost.add]) (fun _=>by simp [Ghost.add])
 simpa [Ghost.add] using this
theorem app_run {t u ty el:TypeId} {s b:Nat} {z:List AVal} (hel:W8 P t=some el) (hs:szT P el=some s) (hb:bytesT P el=some b) (hz:XU P el=some z) (hs0:0<s) (hzl:z.length=s) (H:HRel h g w)
 {v v2:Value} {x:AVal} (hv:VRel g w v x) {es2:List (List AVal)} {news:List Value} (SR:Src P w u v2 s es2.length news) (F:FlatRel g w news s es2)
 {K:AVal->Z2->Prop}
 (hK:(x=.emp/\es2.length*b<=140737488355328/\es2.length<=140737488355328 /\ ∀ r,h r=none->K (.osl r s 0 es2.length) (upd h r (some ⟨el,s,es2⟩))) \/
   ∃ r i m ob,x=.osl r s i m/\h r=some ob/\ob.ty=el/\i+m<=ob.es.length/\(m+es2.length)*b<=140737488355328/\m+es2.length<=140737488355328 /\
     ∀ r',del h r r'=none->K (.osl r' s 0 (m+es2.length)) (upd (del h r) r' (some ⟨el,s,(ob.es.drop i).take m++es2⟩))) :
 ∃ v' w' g' r h',(Builtin.append_ #[t,u] ty #[v,v2]).run P w=.ok v' w'/\GS g w g' w'/\HRel h' g' w'/\VRel g' w' v' r/\K r h':=by
 obtain ⟨inf,hinf,rfl⟩:=szT_out hs
 have hbi:=bytesT_out hb hinf
 have hu:=W0 hel
 obtain ⟨inf',zv,hinf',hzv,hzc⟩:=ZW (g:=g) (w:=w) hz
 rw [hinf] at hinf'
 cases hinf'
 have hzs:zv.cells.size=inf.size:=by rw [hzc.1,hzl]
 rcases hK with ⟨rfl,hB,hM,hK⟩ | ⟨r,i,m,ob,rfl,hob,hty,him,hB,hM,hK⟩
 ·obtain ⟨A,rfl,hA⟩:=hv.emp_inv
  rcases Nat.eq_zero_or_pos es2.length with h0 | hpos
  ·obtain rfl:es2=[]:=List.eq_nil_of_length_eq_zero h0
   obtain ⟨g',S,H',V⟩:=phantom H A hA el hs0
   exact ⟨_,w,g',_,_,V5 hel hs A 0 0 (Nat.le_refl _) SR,S,H',V,hK _ H.none_nxt⟩
  ·have hge:=grownCap_ge w es2.length 0 el
   have hmax:=grownCap_le_maxLen w es2.length 0 el (by simp only [maxLen];omega)
   obtain ⟨g',w',hw',S,H',V⟩:=root_grown (h:=h) (ty:=el) (k:=grownCap w es2.length 0 el-es2.length) H hs0 (FlatRel.nil _) F zv.cells hzs (cap:=grownCap w es2.length 0 el) (by simpa using hge) (by simp) hmax
   simp only [List.length_nil,Nat.zero_add,List.nil_append] at S H' V
   have hrun:(Builtin.append_ #[t,u] ty #[.slice A 0 0,v2]).run P w=.ok (.slice (some ⟨w.heap.size,0,none⟩) es2.length (grownCap w es2.length 0 el)) w':=by
    rw [hw']
    have:=WU (P:=P) (ty:=ty) hel hs hinf hzv A 0 0 [] (by cases A <;> simp [Builtin.firstCells,loadCells,loadCellsFrom]) es2.length SR (by omega) (by omega) (growslice_fits (by omega) (by rw [hbi,Nat.zero_add];exact hB))
    simpa using this
   exact ⟨_,w',g',_,_,hrun,S,H',V,hK _ H.none_nxt⟩
 ·obtain ⟨hrl,hsz,hc⟩:=hv.osl_inv
  have O:=H.obj r ob hob
  have hobs:ob.sz=inf.size:=O.sz.symm.trans hsz
  have Hd:=H.del r
  have hes:((ob.es.drop i).take m).length=m:=by simp;omega
  have hesl:∀ e∈(ob.es.drop i).take m,e.length=inf.size:=fun c hc'=>by rw [<-hobs];exact O.len c (List.mem_of_mem_drop (List.mem_of_mem_take hc'))
  rcases Nat.eq_zero_or_pos es2.length with h0 | hpos
  ·obtain rfl:es2=[]:=List.eq_nil_of_length_eq_zero h0
   simp only [List.length_nil,Nat.add_zero,List.append_nil] at hK
   rcases hc with ⟨rfl,rfl,rfl,hcap0⟩ | ⟨cap,off,rfl,hnc,hmx,hi,hoff⟩
   ·obtain ⟨g',S,H',V⟩:=phantom Hd none (by simp) el hs0
    exact ⟨_,w,g',_,_,V5 hel hs none 0 0 (Nat.le_refl _) SR,S,by simpa using H',V,by simpa using hK _ Hd.none_nxt⟩
   ·refine ⟨_,w,g.add (g.eta r) off cap inf.size,.osl g.nxt inf.size 0 m,_,V5 hel hs _ m cap hnc SR,(GS.refl g w).addTo _ _ _ _ ((Nat.eq_zero_or_pos cap).elim (fun h=>.inr (.inr h)) (fun h=>.inr (.inl ⟨r,O.lt,by omega,rfl⟩))),Hd.add (ty:=el) (es:=(ob.es.drop i).take m) hs0 hesl (by rw [hes];exact hnc) ?_,?_,hK _ Hd.none_nxt⟩
    ·by_cases hcap:cap=0
     ·exact .inl hcap
     ·rcases O.block with h0 | ⟨h1,h2,cur,hcur,hcs,hh⟩
      ·omega
      ·refine .inr ⟨h1,h2,fun t' ob' ht' h0 he=>?_,cur,by rw [<-hty];exact hcur,?_,fun k j c x hc' hx=>?_⟩
       ·unfold Sim.del at ht'
        split at ht'
        ·cases ht'
        ·rename_i hne;exact hne (H.inj t' r ob' ob ht' hob h0 (by omega) he)
       ·rw [hoff (by omega),<-hcs,<-hi,hobs,Nat.add_mul];omega
       ·obtain ⟨hk,hc''⟩:=ZZ _ _ _ _ _ hc'
        obtain ⟨u,hu',h3,h4⟩:=hh _ _ _ _ hc'' hx
        refine ⟨u,?_,h3,h4⟩
        rw [<-hu',hoff (by omega),hobs,Nat.add_mul]
        congr 1;omega
    ·have:=VRel.osl (g:=g.add (g.eta r) off cap inf.size) (w:=w) g.nxt inf.size 0 m cap off (Nat.lt_succ_self _) (by simp [Ghost.add]) hnc hmx (by simp [Ghost.add]) (fun _=>by simp [Ghost.add])
     simpa [Ghost.add] using this
  ·by_cases hroom:∃ cap off,v=.slice (some ⟨g.eta r,off,none⟩) m cap/\m+es2.length<=cap/\cap<=maxLen/\i+cap=g.cap r/\(0<cap->off=g.bo r+i*inf.size)
   ·obtain ⟨cap,off,rfl,hroom,hmx,hi,hoff⟩:=hroom
    have hoff:=hoff (by omega)
    rcases O.block with h0 | ⟨h1,h2,cur,hcur,hcs,hh⟩
    ·omega
    ·have hc0:g.cap r≠0:=by omega
     have hfit:off+m*inf.size+news.length<=cur.size:=by
      rw [F.1,<-hcs,<-hi,hobs,hoff,Nat.add_mul]
      have:(m+es2.length)*inf.size<=cap*inf.size:=Nat.mul_le_mul_right _ hroom
      rw [Nat.add_mul] at this
      omega
     have hrun:=WV (P:=P) (ty:=ty) hel hs (g.eta r) off m cap cur ob.ty hcur es2.length SR hroom hfit
     obtain ⟨S,H1⟩:=root_world H hob hc0 (cur.toList.take (off+m*inf.size)++news++cur.toList.drop (off+m*inf.size+news.length)).toArray
     refine ⟨_,_,g.add (g.eta r) off cap inf.size,.osl g.nxt inf.size 0 (m+es2.length),_,hrun,S.addTo _ _ _ _ (.inr (.inl ⟨r,O.lt,hc0,rfl⟩)),H1.add (ty:=el) (es:=(ob.es.drop i).take m++es2) hs0 (fun c hc'=>?_) (by simp only [List.length_append,hes];exact hroom) (.inr ⟨by rw [size_setRow];exact h1,h2,fun t' ob' ht' h0 he=>?_,_,by rw [<-hty];exact hcur.setRow (by simp only [List.size_toArray,List.length_append,List.length_take,List.length_drop,Array.length_toList];omega),?_,fun k j c x hc' hx=>?_⟩),?_,hK _ Hd.none_nxt⟩
     ·rcases List.mem_append.1 hc' with h3 | h3
      ·exact hesl c h3
      ·exact F.2.1 c h3
     ·unfold Sim.del at ht'
      split at ht'
      ·cases ht'
      ·rename_i hne;exact hne (H.inj t' r ob' ob ht' hob h0 hc0 he)
     ·simp only [List.size_toArray,List.length_append,List.length_take,List.length_drop,Array.length_toList]
      have:cur.size=off+cap*inf.size:=by rw [<-hcs,<-hi,hobs,hoff,Nat.add_mul];omega
      omega
     ·simp only [List.getElem?_toArray]
      have hj:j<inf.size:=by
       have hjl:=(List.getElem?_eq_some_iff.1 hx).1
       rcases List.mem_append.1 (List.mem_of_getElem? hc') with h3 | h3
       ·rw [hesl c h3] at hjl;exact hjl
       ·rw [F.2.1 c h3] at hjl;exact hjl
      rw [List.getElem?_append] at hc'
      split at hc'
      ·obtain ⟨hk,hc''⟩:=ZZ _ _ _ _ _ hc'
       obtain ⟨u,hu',h3,h4⟩:=hh _ _ _ _ hc'' hx
       refine ⟨u,?_,h3,h4.step S⟩
       have hkm:(k+1)*inf.size<=m*inf.size:=Nat.mul_le_mul_right _ hk
       rw [Nat.add_mul,Nat.one_mul] at hkm
       rw [List.append_assoc,List.getElem?_append_left (by simp only [List.length_take,Array.length_toList];omega),List.getElem?_take,if_pos (by omega),Array.getElem?_toList,<-hu',hoff,hobs,Nat.add_mul]
       congr 1;omega
      ·rename_i hk
       rw [hes] at hk hc'
       obtain ⟨u,hu',h4⟩:=F.2.2.2 _ _ _ _ hc' hx
       refine ⟨u,?_,F.2.2.1 u (List.mem_of_getElem? hu'),h4.step S⟩
       have hul:=(List.getElem?_eq_some_iff.1 hu').1
       have hkm:m*inf.size<=k*inf.size:=Nat.mul_le_mul_right _ (by omega)
       have hsub:(k-m)*inf.size=k*inf.size-m*inf.size:=Nat.sub_mul _ _ _
       rw [List.append_assoc,List.getElem?_append_right (by simp only [List.length_take,Array.length_toList];omega),List.getElem?_append_left (by simp only [List.length_take,Array.length_toList];omega),<-hu']
       simp only [List.length_take,Array.length_toList]
       congr 1;omega
     ·have:=VRel.osl (g:=g.add (g.eta r) off cap inf.size) (w:=w.setRow (g.eta r) (cur.toList.take (off+m*inf.size)++news++cur.toList.drop (off+m*inf.size+news.length)).toArray) g.nxt inf.size 0 (m+es2.length) cap off (Nat.lt_succ_self _) (by simp [Ghost.add]) hroom hmx (by simp [Ghost.add]) (fun _=>by simp [Ghost.add])
      simpa [Ghost.add] using this
   ·-- it grows
    have hR1:Rd h inf.size (.osl r inf.size i m) ((ob.es.drop i).take m):=⟨rfl,ob,hob,him,rfl⟩
    have hold:∃ (A:Option Addr) (cap:Nat) (olds:List Value),v=.slice A m cap/\cap<m+es2.length/\FlatRel g w olds inf.size ((ob.es.drop i).take m)/\(∀ (j:Nat) (u:Value),olds[j]? = some u -> ∃ b0,A=some b0/\w.cell? (b0.add j)=some u):=by
     rcases hR1.cells hv H with ⟨hnil,A,c,hv'⟩ | ⟨b0,c,olds,hv',hcl,F',hc',_⟩
     ·have hm0:m=0:=by rw [<-hes,hnil];rfl
      subst hm0
      rw [hnil]
      rcases hc with ⟨rfl,_,_,_⟩ | ⟨cap,off,rfl,hnc,hmx,hi,hoff⟩
      ·exact ⟨none,0,[],rfl,by omega,FlatRel.nil _,by simp⟩
      ·refine ⟨_,cap,[],rfl,?_,FlatRel.nil _,by simp⟩
       rcases Nat.lt_or_ge cap (0+es2.length) with h' | h'
       ·exact h'
       ·exact absurd ⟨cap,off,rfl,h',hmx,hi,hoff⟩ hroom
     ·rw [hes] at hv'
      refine ⟨some b0,c,olds,hv',?_,F',fun j u hu'=>⟨b0,rfl,hc' j u hu'⟩⟩
      rcases hc with ⟨rfl,_,_,_⟩ | ⟨cap,off,rfl,hnc,hmx,hi,hoff⟩
      ·cases hv'
      ·cases hv'
       rcases Nat.lt_or_ge c (m+es2.length) with h' | h'
       ·exact h'
       ·exact absurd ⟨c,off,rfl,h',hmx,hi,hoff⟩ hroom
    obtain ⟨A,cap,olds,rfl,hlt,F',hc'⟩:=hold
    have hge:=grownCap_ge w (m+es2.length) cap el
    have hmax:=grownCap_le_maxLen w (m+es2.length) cap el (by simp only [maxLen];omega)
    obtain ⟨g',w',hw',S,H',V⟩:=root_grown (h:=Sim.del h r) (ty:=el) (k:=grownCap w (m+es2.length) cap el-(m+es2.length)) Hd hs0 F' F zv.cells hzs (cap:=grownCap w (m+es2.length) cap el) (by rw [hes];exact hge) (by rw [hes]) hmax
    rw [hes] at V
    refine ⟨_,w',g',_,_,?_,S,H',V,hK _ Hd.none_nxt⟩
    rw [hw']
    have hol:olds.length=m*inf.size:=by rw [F'.1,hes]
    refine WU (P:=P) hel hs hinf hzv A m cap olds ?_ es2.length SR hlt (by omega) (growslice_fits (by omega) (by rw [hbi];exact hB))
    cases A with
    | none=>
      have hm0:olds=[]:=by
       cases olds with
       | nil=>rfl
       | cons u us=>obtain ⟨b0,h0,_⟩:=hc' 0 u rfl;cases h0
      subst hm0
      simp [Builtin.firstCells]
    | some b0=>exact run_firstCells_some (P:=P) _ inf.size m b0 m cap olds hol (fun j u hu'=>by obtain ⟨b1,h1,h2⟩:=hc' j u hu';cases h1;exact h2)
theorem s_app {t el:TypeId} {s b:Nat} {z:List AVal} {x y:Operand} {sx sy:SX} {c:Call} (ho:o.op=.call c) (hc:c.callee=.builtin .append) (ha:c.args.toList=[x,y]) (ht:c.argTypes.toList=[t,t])
 (hel:W8 P t=some el) (hs:szT P el=some s) (hb:bytesT P el=some b) (hz:XU P el=some z) (hs0:0<s) (hzl:z.length=s) (hx:Y5 x=some sx) (hy:Y5 y=some sy) (E:ERel n e g w a) (H:HRel h g w)
 {es2:List (List AVal)} (hR:Rd h s (ev e sy) es2) {K:AVal->Z2->Prop}
 (hK:(ev e sx=.emp/\es2.length*b<=140737488355328/\es2.length<=140737488355328 /\ ∀ r,h r=none->K (.osl r s 0 es2.length) (upd h r (some ⟨el,s,es2⟩))) \/
   ∃ r i m ob,ev e sx=.osl r s i m/\h r=some ob/\ob.ty=el/\i+m<=ob.es.length/\(m+es2.length)*b<=140737488355328/\m+es2.length<=140737488355328 /\
     ∀ r',del h r r'=none->K (.osl r' s 0 (m+es2.length)) (upd (del h r) r' (some ⟨el,s,(ob.es.drop i).take m++es2⟩))):StepW P o a w g K:=by
 obtain ⟨cal,ar,at'⟩:=c
 simp only at hc ha ht
 subst hc
 obtain rfl:ar = #[x,y]:=by apply Array.ext';simpa using ha
 obtain rfl:at' = #[t,t]:=by apply Array.ext';simpa using ht
 obtain ⟨news,SR,F⟩:=hR.src (P:=P) hel (J1 E hy) H
 obtain ⟨v',w',g',r,h',hrun,S,H',V,hk⟩:=app_run (P:=P) (ty:=o.type) hel hs hb hz hs0 hzl H (J1 E hx) SR F hK
 exact ⟨v',w',g',r,h',.inl (by simp [execOp,ho,resolve,invoke,builtin,hrun]),S,H',V,hk⟩
theorem isStrT_out {t:TypeId} (h:isStrT P t=true):P.underlying t=some .string:=by
 unfold isStrT at h
 split at h
 ·assumption
 ·cases h
theorem s_appS {t u el:TypeId} {b:Nat} {z:List AVal} {x y:Operand} {sx sy:SX} {c:Call} (ho:o.op=.call c) (hc:c.callee=.builtin .append) (ha:c.args.toList=[x,y]) (ht:c.argTypes.toList=[t,u])
 (hel:W8 P t=some el) (hs:szT P el=some 1) (hb:bytesT P el=some b) (hz:XU P el=some z) (hzl:z.length=1) (hu:isStrT P u=true) (hx:Y5 x=some sx) (hy:Y5 y=some sy) (E:ERel n e g w a) (H:HRel h g w)
 {l:List UInt8} (hl:ev e sy=.str l) {K:AVal->Z2->Prop}
 (hK:(ev e sx=.emp/\(Y8 l).length*b<=140737488355328/\(Y8 l).length<=140737488355328 /\ ∀ r,h r=none->K (.osl r 1 0 (Y8 l).length) (upd h r (some ⟨el,1,Y8 l⟩))) \/
   ∃ r i m ob,ev e sx=.osl r 1 i m/\h r=some ob/\ob.ty=el/\i+m<=ob.es.length/\(m+(Y8 l).length)*b<=140737488355328/\m+(Y8 l).length<=140737488355328 /\
     ∀ r',del h r r'=none->K (.osl r' 1 0 (m+(Y8 l).length)) (upd (del h r) r' (some ⟨el,1,(ob.es.drop i).take m++Y8 l⟩))):StepW P o a w g K:=by
 obtain ⟨cal,ar,at'⟩:=c
 simp only at hc ha ht
 subst hc
 obtain rfl:ar = #[x,y]:=by apply Array.ext';simpa using ha
 obtain rfl:at' = #[t,u]:=by apply Array.ext';simpa using ht
 have hv2:=J1 E hy
 rw [hl] at hv2
 obtain ⟨news,SR,F⟩:=str_src (P:=P) (isStrT_out hu) hv2
 obtain ⟨v',w',g',r,h',hrun,S,H',V,hk⟩:=app_run (P:=P) (ty:=o.type) hel hs hb hz (by omega) hzl H (J1 E hx) SR F hK
 exact ⟨v',w',g',r,h',.inl (by simp [execOp,ho,resolve,invoke,builtin,hrun]),S,H',V,hk⟩
theorem s_appS0 {t u el:TypeId} {x y:Operand} {sx sy:SX} {c:Call} (ho:o.op=.call c) (hc:c.callee=.builtin .append) (ha:c.args.toList=[x,y]) (ht:c.argTypes.toList=[t,u])
 (hel:W8 P t=some el) (hs:szT P el=some 1) (hu:isStrT P u=true) (hx:Y5 x=some sx) (hy:Y5 y=some sy) (E:ERel n e g w a) (H:HRel h g w)
 (hx0:ev e sx=.emp) (hl:ev e sy=.str []) {K:AVal->Z2->Prop} (hK:K .emp h):StepW P o a w g K:=by
 obtain ⟨cal,ar,at'⟩:=c
 simp only at hc ha ht
 subst hc
 obtain rfl:ar = #[x,y]:=by apply Array.ext';simpa using ha
 obtain rfl:at' = #[t,u]:=by apply Array.ext';simpa using ht
 have hv1:=J1 E hx
 have hv2:=J1 E hy
 rw [hx0] at hv1
 rw [hl] at hv2
 obtain ⟨news,SR,F⟩:=str_src (P:=P) (isStrT_out hu) hv2
 obtain ⟨A,hA,_⟩:=hv1.emp_inv
 have hr:=V5 (P:=P) (ty:=o.type) hel hs A 0 0 (Nat.le_refl _) SR
 rw [<-hA] at hr
 exact ⟨_,w,g,.emp,h,.inl (by simp [execOp,ho,resolve,invoke,builtin,hr]),GS.refl g w,H,hv1,hK⟩
theorem root_splice (H:HRel h g w) {r:Nat} {ob:AObj} (hob:h r=some ob) {news:List Value} {es2:List (List AVal)} (F:FlatRel g w news ob.sz es2) {k:Nat} (hk:k+es2.length<=ob.es.length) (hc0:g.cap r≠0)
 {cur:Array Value} (hcur:CellsAt w (g.eta r) cur ob.ty) (hcs:g.bo r+g.cap r*ob.sz=cur.size)
 (hh:∀ (i j:Nat) (e:List AVal) (x:AVal),ob.es[i]? = some e->e[j]? = some x -> ∃ u,cur[g.bo r+(i*ob.sz+j)]? = some u/\u.oneCell'=true/\VRel g w u x) :
 GS g w g (w.setRow (g.eta r) (cur.toList.take (g.bo r+k*ob.sz)++news++cur.toList.drop (g.bo r+k*ob.sz+news.length)).toArray) /\
 HRel (upd h r (some { ob with es:=ob.es.take k++es2++ob.es.drop (k+es2.length) })) g (w.setRow (g.eta r) (cur.toList.take (g.bo r+k*ob.sz)++news++cur.toList.drop (g.bo r+k*ob.sz+news.length)).toArray):=by
 have O:=H.obj r ob hob
 have hfit:g.bo r+k*ob.sz+news.length<=cur.size:=by
  rw [F.1,<-hcs]
  have h1:(k+es2.length)*ob.sz<=g.cap r*ob.sz:=Nat.mul_le_mul_right _ (Nat.le_trans hk O.le)
  rw [Nat.add_mul] at h1
  omega
 refine root_write H hob hcur hc0 _ ?_ (es':=ob.es.take k++es2++ob.es.drop (k+es2.length)) (fun c hc=>?_) ?_ (fun i j c x hc hx=>?_)
 ·simp only [List.size_toArray,List.length_append,List.length_take,List.length_drop,Array.length_toList]
  omega
 ·rcases List.mem_append.1 hc with h1 | h1
  ·rcases List.mem_append.1 h1 with h2 | h2
   ·exact O.len c (List.mem_of_mem_take h2)
   ·exact F.2.1 c h2
  ·exact O.len c (List.mem_of_mem_drop h1)
 ·have:=O.le
  simp only [List.length_append,List.length_take,List.length_drop]
  omega
 ·have hcl:c.length=ob.sz:=by
   rcases List.mem_append.1 (List.mem_of_getElem? hc) with h1 | h1
   ·rcases List.mem_append.1 h1 with h2 | h2
    ·exact O.len c (List.mem_of_mem_take h2)
    ·exact F.2.1 c h2
   ·exact O.len c (List.mem_of_mem_drop h1)
  have hj:j<ob.sz:=by rw [<-hcl];exact (List.getElem?_eq_some_iff.1 hx).1
  simp only [List.getElem?_toArray]
  rw [List.append_assoc,List.getElem?_append] at hc
  simp only [List.length_take] at hc
  split at hc
  ·rw [List.getElem?_take,if_pos (by omega)] at hc
   obtain ⟨u,hu,h3,h4⟩:=hh _ _ _ _ hc hx
   refine ⟨u,?_,h3,h4⟩
   have h5:(i+1)*ob.sz<=k*ob.sz:=Nat.mul_le_mul_right _ (by omega)
   rw [Nat.add_mul,Nat.one_mul] at h5
   rw [List.append_assoc,List.getElem?_append_left (by simp only [List.length_take,Array.length_toList];omega),List.getElem?_take,if_pos (by omega),Array.getElem?_toList]
   exact hu
  ·rw [show i-min k ob.es.length=i-k by omega] at hc
   have hki:k*ob.sz<=i*ob.sz:=Nat.mul_le_mul_right _ (by omega)
   have hsub:(i-k)*ob.sz=i*ob.sz-k*ob.sz:=Nat.sub_mul _ _ _
   rw [List.getElem?_append] at hc
   split at hc
   ·obtain ⟨u,hu,h4⟩:=F.2.2.2 _ _ _ _ hc hx
    refine ⟨u,?_,F.2.2.1 u (List.mem_of_getElem? hu),h4⟩
    have hul:=(List.getElem?_eq_some_iff.1 hu).1
    rw [List.append_assoc,List.getElem?_append_right (by simp only [List.length_take,Array.length_toList];omega),List.getElem?_append_left (by simp only [List.length_take,Array.length_toList];omega),<-hu]
    simp only [List.length_take,Array.length_toList]
    congr 1;omega
   ·rename_i hge
    rw [List.getElem?_drop,show k+es2.length+(i-k-es2.length)=i by omega] at hc
    obtain ⟨u,hu,h3,h4⟩:=hh _ _ _ _ hc hx
    refine ⟨u,?_,h3,h4⟩
    have h5:(k+es2.length)*ob.sz<=i*ob.sz:=Nat.mul_le_mul_right _ (by omega)
    rw [Nat.add_mul,<-F.1] at h5
    rw [List.append_assoc,List.getElem?_append_right (by simp only [List.length_take,Array.length_toList];omega),List.getElem?_append_right (by simp only [List.length_take,Array.length_toList];omega),List.getElem?_drop]
    simp only [List.length_take,Array.length_toList]
    rw [Array.getElem?_toList,<-hu]
    congr 1;omega
theorem s_appIn {t el:TypeId} {s:Nat} {x y:Operand} {sx sy:SX} {c:Call} (ho:o.op=.call c) (hc:c.callee=.builtin .append) (ha:c.args.toList=[x,y]) (ht:c.argTypes.toList=[t,t])
 (hel:W8 P t=some el) (hs:szT P el=some s) (hx:Y5 x=some sx) (hy:Y5 y=some sy) (E:ERel n e g w a) (H:HRel h g w)
 {es2:List (List AVal)} (hR:Rd h s (ev e sy) es2) {r i m:Nat} {ob:AObj} (hd:ev e sx=.osl r s i m) (hob:h r=some ob) (hfit:i+m+es2.length<=ob.es.length)
 {K:AVal->Z2->Prop} (hK:K (.osl r s i (m+es2.length)) (upd h r (some { ob with es:=ob.es.take (i+m)++es2++ob.es.drop (i+m+es2.length) }))):StepW P o a w g K:=by
 obtain ⟨cal,ar,at'⟩:=c
 simp only at hc ha ht
 subst hc
 obtain rfl:ar = #[x,y]:=by apply Array.ext';simpa using ha
 obtain rfl:at' = #[t,t]:=by apply Array.ext';simpa using ht
 obtain ⟨news,SR,F⟩:=hR.src (P:=P) hel (J1 E hy) H
 have hv:=J1 E hx
 rw [hd] at hv
 obtain ⟨hrl,hsz,hc⟩:=hv.osl_inv
 have O:=H.obj r ob hob
 have hobs:ob.sz=s:=O.sz.symm.trans hsz
 have run:∀ u w',(Builtin.append_ #[t,t] o.type #[a.eval x,a.eval y]).run P w=.ok u w'->(execOp a.eval o).run P w=.ok (.value u) w':=by
  intro u w' hr
  simp [execOp,ho,resolve,invoke,builtin,hr]
 have same:es2=[]->upd h r (some { ob with es:=ob.es.take (i+m)++es2++ob.es.drop (i+m+es2.length) })=h:=by
  intro he
  subst he
  funext t'
  unfold upd
  split
  ·rename_i htr;subst htr;simp [hob]
  ·rfl
 rcases hc with ⟨hvv,rfl,rfl,hcap0⟩ | ⟨cap,off,hvv,hnc,hmx,hi,hoff⟩
 ·have h0:es2=[]:=List.eq_nil_of_length_eq_zero (by have:=O.le;omega)
  have hr:=V5 (P:=P) (ty:=o.type) hel hs none 0 0 (Nat.le_refl _) (by rw [h0] at SR;exact SR)
  rw [<-hvv] at hr
  refine ⟨_,w,g,_,_,.inl (run _ _ hr),GS.refl g w,by rw [same h0];exact H,?_,hK⟩
  rw [h0];exact hv
 ·have hrm:m+es2.length<=cap:=by have:=O.le;omega
  by_cases hcz:cap=0
  ·have h0:es2=[]:=List.eq_nil_of_length_eq_zero (by omega)
   have hr:=V5 (P:=P) (ty:=o.type) hel hs (some ⟨g.eta r,off,none⟩) m cap hnc (by rw [h0] at SR;exact SR)
   rw [<-hvv] at hr
   refine ⟨_,w,g,_,_,.inl (run _ _ hr),GS.refl g w,by rw [same h0];exact H,?_,hK⟩
   rw [h0];exact hv
  ·rcases O.block with h0 | ⟨_,_,cur,hcur,hcs,hh⟩
   ·omega
   ·have hof:=hoff (by omega)
    subst hobs
    have hfit':off+m*ob.sz+news.length<=cur.size:=by
     rw [F.1,<-hcs,<-hi,hof,Nat.add_mul]
     have:(m+es2.length)*ob.sz<=cap*ob.sz:=Nat.mul_le_mul_right _ hrm
     rw [Nat.add_mul] at this
     omega
    have hr:=WV (P:=P) (ty:=o.type) hel hs (g.eta r) off m cap cur ob.ty hcur es2.length SR hrm hfit'
    obtain ⟨S,H'⟩:=root_splice H hob F hfit (by omega) hcur hcs hh
    have he:off+m*ob.sz=g.bo r+(i+m)*ob.sz:=by rw [hof,Nat.add_mul];omega
    rw [he,<-hvv] at hr
    exact ⟨_,_,g,_,_,.inl (run _ _ hr),S,H',.osl r ob.sz i _ cap off hrl hsz hrm hmx hi hoff,hK⟩
theorem s_slX {t el:TypeId} {s:Nat} {x:Operand} {lo hi:Option Operand} {sx:SX} {sl sh:Option SX} (ho:o.op=.slice t x lo hi none) (hu:P.underlying t=some (.slice el)) (hs:szT P el=some s)
 (hx:Y5 x=some sx) (hl:JX lo=some sl) (hh:JX hi=some sh) (E:ERel n e g w a) (H:HRel h g w) {r i m:Nat} {ob:AObj} (hd:ev e sx=.osl r s i m) (hob:h r=some ob)
 (bl:okB (evO e sl)) (bh:okB (evO e sh)) (h0:0<=X2 (evO e sl)) (hlh:X2 (evO e sl)<=X4 m (evO e sh)) (hhl:i+(X4 m (evO e sh)).toNat<=ob.es.length) :
 U4 P o a w g (.osl r s (i+(X2 (evO e sl)).toNat) ((X4 m (evO e sh)).toNat-(X2 (evO e sl)).toNat)):=by
 have h1:=J1 E hx
 rw [hd] at h1
 have h2:=QQ E hl
 have h3:=QQ E hh
 have O:=H.obj r ob hob
 obtain ⟨hr,hsz,hc⟩:=h1.osl_inv
 have run:∀ (A:Option Addr) (cap:Nat),a.eval x=.slice A m cap->X4 m (evO e sh)<=cap ->
  (execOp a.eval o).run P w=.ok (.value (.slice (if cap=(X2 (evO e sl)).toNat then A else A.map (·.add ((X2 (evO e sl)).toNat*s))) ((X4 m (evO e sh)).toNat-(X2 (evO e sl)).toNat) (cap-(X2 (evO e sl)).toNat))) w:=by
  intro A cap hv hle
  have hr:=run_bounds (P:=P) w true m cap h2 h3 bl bh h0 hlh hle
  simp [execOp,ho,Instr.sliceAt,Instr.slice,run_underlying hu,hv,hr,X1 hs]
 have hle:=O.le
 rcases hc with ⟨hv,rfl,rfl,hcap⟩ | ⟨cap,off,hv,hnc,hm,hi',hoff⟩
 ·refine ⟨_,run _ _ hv (by omega),?_⟩
  have e1:(X2 (evO e sl)).toNat=0:=by omega
  have e2:(X4 0 (evO e sh)).toNat=0:=by omega
  simp only [e1,e2,Nat.sub_zero,Nat.add_zero,if_true]
  exact .osl0 r s hr hcap hsz
 ·refine ⟨_,run _ _ hv (by omega),?_⟩
  by_cases hcl:cap=(X2 (evO e sl)).toNat
  ·rw [if_pos hcl]
   exact .osl r s _ _ _ off hr hsz (by omega) (by omega) (by omega) (fun h=>by omega)
  ·rw [if_neg hcl]
   simp only [Option.map_some,Addr.add_lit]
   exact .osl r s _ _ _ _ hr hsz (by omega) (by omega) (by omega) (fun h=>by rw [hoff (by omega),Nat.add_mul];omega)
end
end Go.Sim
end
section
namespace Go.Sim
open Go
section
variable {P:Program} {o:Oper} {a:Act} {w:World} {g:Ghost} {h:Z2} {n:Nat} {e:Env}
theorem zeros_get (z:Array Value) (m k:Nat) (hk:k<m) (hz:0<z.size):((Array.range m).map (z[· % z.size]!))[k]? = z[k % z.size]? := by
 simp only [Array.getElem?_map]
 rw [Array.getElem?_eq_getElem (by simpa using hk)]
 have:=Nat.mod_lt k hz
 simp [this]
theorem flat_zeros {z:Array Value} {zs:List AVal} (C:CRel g w z zs) {s:Nat} (hs:zs.length=s) (hs0:0<s) (m:Nat) (cells:Array Value) (hc:cells=(Array.range (m*s)).map (z[· % z.size]!)) :
 FlatRel g w cells.toList s (List.replicate m zs):=by
 subst hc
 have hzs:z.size=s:=C.1.trans hs
 have get:∀ k,k<m*s->((Array.range (m*s)).map (z[· % z.size]!)).toList[k]? = z[k % s]? := by
  intro k hk
  rw [Array.getElem?_toList,zeros_get z (m*s) k hk (by omega),hzs]
 refine ⟨by simp,fun e he=>by rw [(List.mem_replicate.1 he).2];exact hs,fun u hu=>?_,fun i j c x hc hx=>?_⟩
 ·obtain ⟨k,hk⟩:=List.mem_iff_getElem?.1 hu
  have hkl:k<m*s:=by have:=(List.getElem?_eq_some_iff.1 hk).1;simpa using this
  rw [get k hkl] at hk
  exact C.2.1 _ _ hk
 ·rw [List.getElem?_replicate] at hc
  split at hc
  ·rename_i hi
   cases hc
   have hj:j<s:=by rw [<-hs];exact (List.getElem?_eq_some_iff.1 hx).1
   have hlt:i*s+j<m*s:=by
    have:(i+1)*s<=m*s:=Nat.mul_le_mul_right _ hi
    rw [Nat.add_mul,Nat.one_mul] at this
    omega
   have hmod:(i*s+j) % s=j:=by rw [Nat.mul_comm,Nat.mul_add_mod,Nat.mod_eq_of_lt hj]
   refine ⟨z[j]'(by omega),by rw [get _ hlt,hmod];exact Array.getElem?_eq_getElem (by omega),C.2.2 j _ x (Array.getElem?_eq_getElem (by omega)) hx⟩
  ·cases hc
theorem s_mks {t el:TypeId} {s b:Nat} {z:List AVal} {x y:Operand} {sx sy:SX} (ho:o.op=.makeSlice t x y) (hel:W8 P t=some el) (hs:szT P el=some s) (hb:bytesT P el=some b) (hz:XU P el=some z) (hs0:0<s) (hzl:z.length=s)
 (hx:Y5 x=some sx) (hy:Y5 y=some sy) (E:ERel n e g w a) (H:HRel h g w) {k1 k2:IntKind} {l c:Int} (hl:ev e sx=.int k1 l) (hc:ev e sy=.int k2 c) (h0:0<=l) (hlc:l<=c) (hcb:c*b<=140737488355328) (hcm:c<=140737488355328)
 {K:AVal->Z2->Prop} (hK:∀ r,h r=none->K (.osl r s 0 l.toNat) (upd h r (some ⟨el,s,List.replicate c.toNat z⟩))):StepW P o a w g K:=by
 obtain ⟨inf,hinf,rfl⟩:=szT_out hs
 have hbi:=bytesT_out hb hinf
 obtain ⟨inf',zv,hinf',hzv,hzc⟩:=ZW (g:=g) (w:=w) hz
 rw [hinf] at hinf';cases hinf'
 have v1:=J1 E hx
 have v2:=J1 E hy
 rw [hl] at v1
 rw [hc] at v2
 have hr:=run_make (P:=P) w t el inf zv (W0 hel) hinf hzv k1 k2 l c h0 hlc (by rw [hbi,Int.mul_comm];omega) (by omega)
 have F:=flat_zeros hzc hzl hs0 c.toNat _ rfl
 obtain ⟨S,H'⟩:=WK H (madeCells zv.cells (c.toNat*inf.size)) (ty:=el) (cap:=c.toNat) hs0 (size_madeCells _ _) (es:=List.replicate c.toNat z) (by simp) F.2.1 (fun i j q y' hq hy'=>by
  obtain ⟨u,hu,hv⟩:=F.2.2.2 i j q y' hq hy'
  rw [Array.getElem?_toList] at hu
  exact ⟨u,hu,F.2.2.1 u (Array.mem_toList_iff.2 (Array.mem_of_getElem? hu)),hv⟩)
 refine ⟨.slice (some ⟨w.heap.size,0,none⟩) l.toNat c.toNat,_,_,.osl g.nxt inf.size 0 l.toNat,_,.inl ?_,S,H',?_,hK _ H.none_nxt⟩
 ·simp only [execOp,ho,v1.int_inv,v2.int_inv,Sem.run_bind,hr,Result.andThen_ok,Sem.run_pure]
 ·have:=VRel.osl (g:=g.add w.heap.size 0 c.toNat inf.size) (w:=w.alloc (.cells (madeCells zv.cells (c.toNat*inf.size)) el)) g.nxt inf.size 0 l.toNat c.toNat 0 (Nat.lt_succ_self _) (by simp [Ghost.add]) (by omega) (by simp only [maxLen];omega) (by simp [Ghost.add]) (fun _=>by simp [Ghost.add])
  simpa [Ghost.add] using this
theorem s_clear {t el:TypeId} {s:Nat} {z:List AVal} {x:Operand} {sx:SX} {c:Call} (ho:o.op=.call c) (hc:c.callee=.builtin .clear) (ha:c.args.toList=[x]) (ht:c.argTypes.toList=[t])
 (hel:W8 P t=some el) (hs:szT P el=some s) (hz:XU P el=some z) (hs0:0<s) (hzl:z.length=s) (hx:Y5 x=some sx) (E:ERel n e g w a) (H:HRel h g w)
 {r i m:Nat} {ob:AObj} (hd:ev e sx=.osl r s i m) (hob:h r=some ob) (hfit:i+m<=ob.es.length)
 {K:AVal->Z2->Prop} (hK:K .dead (upd h r (some { ob with es:=ob.es.take i++List.replicate m z++ob.es.drop (i+m) }))):StepW P o a w g K:=by
 obtain ⟨cal,ar,at'⟩:=c
 simp only at hc ha ht
 subst hc
 obtain rfl:ar = #[x]:=by apply Array.ext';simpa using ha
 obtain rfl:at' = #[t]:=by apply Array.ext';simpa using ht
 obtain ⟨inf,zv,hinf,hzv,hzc⟩:=ZW (g:=g) (w:=w) hz
 have hu:=W0 hel
 have hv:=J1 E hx
 rw [hd] at hv
 obtain ⟨hrl,hsz,hcc⟩:=hv.osl_inv
 have O:=H.obj r ob hob
 have hobs:ob.sz=s:=O.sz.symm.trans hsz
 have run:∀ u w',(Builtin.clear_ #[t] o.type #[a.eval x]).run P w=.ok u w'->(execOp a.eval o).run P w=.ok (.value u) w':=by
  intro u w' hr
  simp [execOp,ho,resolve,invoke,builtin,hr]
 by_cases hm:m=0
 ·subst hm
  have same:upd h r (some { ob with es:=ob.es.take i++List.replicate 0 z++ob.es.drop (i+0) })=h:=by
   funext t'
   unfold upd
   split
   ·rename_i htr;subst htr;simp [hob]
   ·rfl
  rw [same] at hK
  refine ⟨.tuple #[],w,g,.dead,h,.inl (run _ _ ?_),GS.refl g w,H,.dead _,hK⟩
  rcases hcc with ⟨hvv,_⟩ | ⟨cap,off,hvv,_⟩ <;> simp [Builtin.clear_,run_underlying hu,hvv]
 ·rcases hcc with ⟨_,_,h0,_⟩ | ⟨cap,off,hvv,hnc,hmx,hi,hoff⟩
  ·exact absurd h0 hm
  ·have hof:=hoff (by omega)
   rcases O.block with h0 | ⟨_,_,cur,hcur,hcs,hh⟩
   ·omega
   ·subst hobs
    have hzs:zv.cells.size=ob.sz:=hzc.1.trans hzl
    have F:=flat_zeros hzc hzl hs0 m (Builtin.zeroCells zv.cells m) (by simp only [Builtin.zeroCells,hzs])
    have hl:(List.replicate m z).length=m:=by simp
    obtain ⟨S,H'⟩:=root_splice H hob F (k:=i) (by rw [hl];exact hfit) (by omega) hcur hcs hh
    rw [hl] at H'
    have hst:=U9 P (g.eta r) off ob.ty (Builtin.zeroCells zv.cells m).toList 0 cur w hcur (by
     have:(i+m)*ob.sz<=g.cap r*ob.sz:=Nat.mul_le_mul_right _ (by omega)
     rw [Nat.add_mul] at this
     rw [F.1,hl,hof]
     omega) F.2.2.1
    simp only [Nat.add_zero,hof] at hst
    obtain ⟨m',rfl⟩:∃ m',m=m'+1:=⟨m-1,by omega⟩
    refine ⟨.tuple #[],_,g,.dead,_,.inl (run _ _ ?_),S,H',.dead _,hK⟩
    simp [Builtin.clear_,run_underlying hu,hvv,hof,zeroValue,typeInfo,hinf,hzv,hst]
theorem s_copy {t u el:TypeId} {s:Nat} {x y:Operand} {sx sy:SX} {c:Call} (ho:o.op=.call c) (hc:c.callee=.builtin .copy) (ha:c.args.toList=[x,y]) (ht:c.argTypes.toList=[t,u])
 (hel:W8 P t=some el) (hs:szT P el=some s) (hx:Y5 x=some sx) (hy:Y5 y=some sy) (E:ERel n e g w a) (H:HRel h g w)
 {es2:List (List AVal)} (hR:Rd h s (ev e sy) es2) {r i m:Nat} {ob:AObj} (hd:ev e sx=.osl r s i m) (hob:h r=some ob) (hfit:i+m<=ob.es.length)
 {K:AVal->Z2->Prop} (hK:K (Y0 (min es2.length m:Nat)) (upd h r (some { ob with es:=ob.es.take i++es2.take (min es2.length m)++ob.es.drop (i+min es2.length m) }))):StepW P o a w g K:=by
 obtain ⟨cal,ar,at'⟩:=c
 simp only at hc ha ht
 subst hc
 obtain rfl:ar = #[x,y]:=by apply Array.ext';simpa using ha
 obtain rfl:at' = #[t,u]:=by apply Array.ext';simpa using ht
 have hu:=W0 hel
 have hv:=J1 E hx
 have hv2:=J1 E hy
 rw [hd] at hv
 obtain ⟨hrl,hsz,hcc⟩:=hv.osl_inv
 have O:=H.obj r ob hob
 have hobs:ob.sz=s:=O.sz.symm.trans hsz
 have run:∀ q w',(Builtin.copy_ #[t,u] o.type #[a.eval x,a.eval y]).run P w=.ok q w'->(execOp a.eval o).run P w=.ok (.value q) w':=by
  intro q w' hr
  simp [execOp,ho,resolve,invoke,builtin,hr]
 have hsrc:(Builtin.lenOf (a.eval y)).run P w=.ok es2.length w /\ ∃ news:List Value,FlatRel g w news s (es2.take (min es2.length m))/\(Builtin.firstCells s (min es2.length m) (a.eval y)).run P w=.ok news.toArray w:=by
  rcases hR.cells hv2 H with ⟨rfl,A,c,hvv⟩ | ⟨ad,c,news,hvv,_,F,hn,_⟩
  ·refine ⟨by simp [hvv,Builtin.lenOf],[],by simpa using FlatRel.nil s,?_⟩
   cases A <;> simp [hvv,Builtin.firstCells,loadCells,loadCellsFrom]
  ·refine ⟨by simp [hvv,Builtin.lenOf],news.take (min es2.length m*s),⟨?_,fun e he=>F.2.1 e (List.mem_of_mem_take he),fun q hq=>F.2.2.1 q (List.mem_of_mem_take hq),fun k j q x' hq hx'=>?_⟩,?_⟩
   ·rw [List.length_take,F.1,List.length_take]
    have:min es2.length m*s<=es2.length*s:=Nat.mul_le_mul_right _ (Nat.min_le_left _ _)
    rw [Nat.min_eq_left this,Nat.min_eq_left (Nat.min_le_left _ _)]
   ·rw [List.getElem?_take] at hq
    split at hq
    ·rename_i hk
     obtain ⟨q',hq',hv'⟩:=F.2.2.2 k j q x' hq hx'
     refine ⟨q',?_,hv'⟩
     have hj:j<s:=by rw [<-F.2.1 q (List.mem_of_getElem? hq)];exact (List.getElem?_eq_some_iff.1 hx').1
     have h5:(k+1)*s<=min es2.length m*s:=Nat.mul_le_mul_right _ hk
     rw [Nat.add_mul,Nat.one_mul] at h5
     rw [List.getElem?_take,if_pos (by omega)]
     exact hq'
    ·cases hq
   ·rw [hvv]
    refine run_firstCells_some (P:=P) w s _ ad es2.length c (news.take (min es2.length m*s)) ?_ (fun j q hq=>hn j q ?_)
    ·rw [List.length_take,F.1]
     exact Nat.min_eq_left (Nat.mul_le_mul_right _ (Nat.min_le_left _ _))
    ·rw [List.getElem?_take] at hq
     split at hq
     ·exact hq
     ·cases hq
 obtain ⟨hlen,news,F,hfc⟩:=hsrc
 have hmin:es2.length.min m=min es2.length m:=rfl
 have hl:(es2.take (min es2.length m)).length=min es2.length m:=by rw [List.length_take];omega
 rcases hcc with ⟨hvv,rfl,rfl,hcap0⟩ | ⟨cap,off,hvv,hnc,hmx,hi,hoff⟩
 ·have same:upd h r (some { ob with es:=ob.es.take 0++es2.take (min es2.length 0)++ob.es.drop (0+min es2.length 0) })=h:=by
   funext t'
   unfold upd
   split
   ·rename_i htr;subst htr;simp [hob]
   ·rfl
  rw [same] at hK
  refine ⟨goInt (min es2.length 0:Nat),w,g,_,h,.inl (run _ _ ?_),GS.refl g w,H,?_,hK⟩
  ·have hm0:es2.length.min 0=0:=Nat.min_zero _
   rw [Nat.min_zero] at hfc
   simp [Builtin.copy_,run_underlying hu,hvv,hlen,hm0,X1 hs,hfc]
  ·exact .int _ _
 ·by_cases hk0:min es2.length m=0
  ·have same:upd h r (some { ob with es:=ob.es.take i++es2.take (min es2.length m)++ob.es.drop (i+min es2.length m) })=h:=by
    rw [hk0]
    funext t'
    unfold upd
    split
    ·rename_i htr;subst htr;simp [hob]
    ·rfl
   rw [same] at hK
   have hnn:news=[]:=List.eq_nil_of_length_eq_zero (by rw [F.1,hl,hk0];simp)
   subst hnn
   refine ⟨goInt (min es2.length m:Nat),w,g,_,h,.inl (run _ _ ?_),GS.refl g w,H,.int _ _,hK⟩
   simp [Builtin.copy_,run_underlying hu,hvv,hlen,hmin,X1 hs,hfc,storeCells]
  ·have hof:=hoff (by omega)
   rcases O.block with h0 | ⟨_,_,cur,hcur,hcs,hh⟩
   ·omega
   ·subst hobs
    obtain ⟨S,H'⟩:=root_splice H hob F (k:=i) (by rw [hl];omega) (by omega) hcur hcs hh
    rw [hl] at H'
    have hst:=U9 P (g.eta r) off ob.ty news 0 cur w hcur (by
     have h5:(i+min es2.length m)*ob.sz<=g.cap r*ob.sz:=Nat.mul_le_mul_right _ (by omega)
     rw [Nat.add_mul] at h5
     rw [F.1,hl,hof]
     omega) F.2.2.1
    simp only [Nat.add_zero,hof] at hst
    refine ⟨goInt (min es2.length m:Nat),_,g,_,_,.inl (run _ _ ?_),S,H',.int _ _,hK⟩
    simp [Builtin.copy_,run_underlying hu,hvv,hof,hlen,hmin,X1 hs,hfc,hst]
def YK (kind:Nat) (neg:Bool) (x:AVal) (K:AVal->Prop):Prop:=
 match kind,x with
 | 0,.slc es=>∀ b:Bool,(b=true->es=[])->K (.bool (xor neg b))
 | 0,.emp=>∀ b:Bool,K (.bool (xor neg b))
 | 0,.osl _ _ _ n=>∀ b:Bool,(b=true->n=0)->K (.bool (xor neg b))
 | 0,.prim (.slice none 0 0)=>K (.bool (!neg))
 | 1,.ptr _ _ _=>K (.bool neg)
 | 1,.vp _ _=>K (.bool neg)
 | 1,.pin _=>K (.bool neg)
 | 1,.prim (.pointer none)=>K (.bool (!neg))
 | 2,.fn _ _ _=>K (.bool neg)
 | 2,.prim .nilFunc=>K (.bool (!neg))
 | _,_=>False
theorem run_equalIn_func_nil (d:Nat) {t:TypeId} {ps rs:Array TypeId} {vr:Bool} (f:Fn) (x y:Array Value) (hu:P.underlying t=some (.func ps rs vr)):(Op.equalIn (d+1) t (.func f x y) .nilFunc).run P w=.ok false w:=by
 simp [Op.equalIn,run_underlying hu]
theorem run_equalIn_nil_func (d:Nat) {t:TypeId} {ps rs:Array TypeId} {vr:Bool} (hu:P.underlying t=some (.func ps rs vr)):(Op.equalIn (d+1) t .nilFunc .nilFunc).run P w=.ok true w:=by
 simp [Op.equalIn,run_underlying hu]
theorem s_isnil {op:BinOp} {t t':TypeId} {k:Nat} {neg:Bool} {x y:Operand} {sx:SX} (ho:o.op=.binOp op t x y t') (hn:nilK P t y=some k) (hop:op=.eql/\neg=false\/op=.neq/\neg=true)
 (hx:Y5 x=some sx) (E:ERel n e g w a) {K:AVal->Prop} (hK:YK k neg (ev e sx) K):∃ v x',(execOp a.eval o).run P w=.ok (.value v) w/\VRel g w v x'/\K x':=by
 have h1:=J1 E hx
 have key:∃ b:Bool,K (.bool (xor neg b))/\(Op.equal t (a.eval x) (a.eval y)).run P w=.ok b w/\(∀ z,binOp .eql t (a.eval x) (a.eval y)=z->z=(do let r <-Op.equal t (a.eval x) (a.eval y);pure (Value.bool r))) /\
  (∀ z,binOp .neq t (a.eval x) (a.eval y)=z->z=(do let r <-Op.equal t (a.eval x) (a.eval y);pure (Value.bool !r)))/\(eqGuard op t x y (a.eval x) (a.eval y)).run P w=.ok () w:=by
  unfold nilK at hn
  split at hn
  ·rename_i el hu
   cases hn
   have hy:a.eval (.const (.slice none 0 0))=.slice none 0 0:=rfl
   rw [hy]
   have sl:∀ (A:Option Addr) (l c:Nat),a.eval x=.slice A l c->K (.bool (xor neg A.isNone))->_:=fun A l c hv hk=>
    (⟨A.isNone,hk,by rw [hv];exact run_equal_slice_nil (P:=P) w t el A l c hu,fun z hz=>by rw [<-hz,hv];rfl,fun z hz=>by rw [<-hz,hv];rfl,by rw [hv];simp [eqGuard]⟩:∃ b:Bool,K (.bool (xor neg b))/\(Op.equal t (a.eval x) (.slice none 0 0)).run P w=.ok b w/\(∀ z,binOp .eql t (a.eval x) (.slice none 0 0)=z->z=(do let r <-Op.equal t (a.eval x) (.slice none 0 0);pure (Value.bool r))) /\
      (∀ z,binOp .neq t (a.eval x) (.slice none 0 0)=z->z=(do let r <-Op.equal t (a.eval x) (.slice none 0 0);pure (Value.bool !r)))/\(eqGuard op t x (.const (.slice none 0 0)) (a.eval x) (.slice none 0 0)).run P w=.ok () w)
   revert h1 hK
   cases ev e sx <;> intro h1 hK <;> try exact hK.elim
   ·rename_i v
    cases v <;> try exact hK.elim
    rename_i A l c
    cases A <;> try exact hK.elim
    cases l <;> try exact hK.elim
    cases c <;> try exact hK.elim
    have hv:a.eval x=.slice none 0 0:=by
     revert h1
     generalize a.eval x=q
     intro h1
     cases h1;rfl
    exact sl none 0 0 hv (by simpa [YK] using hK)
   ·rename_i es
    obtain ⟨A,c,hv,hin⟩:=h1.slc_inv
    refine sl A _ c hv (hK _ fun hnn=>?_)
    rcases Nat.eq_zero_or_pos es.length with h0 | hp
    ·exact List.eq_nil_of_length_eq_zero h0
    ·obtain ⟨_,ad,_,rfl,_⟩:=hin hp
     cases hnn
   ·obtain ⟨A,hv,_⟩:=h1.emp_inv
    exact sl A _ _ hv (hK _)
   ·obtain ⟨_,_,hc⟩:=h1.osl_inv
    rcases hc with ⟨hv,_,rfl,_⟩ | ⟨cap,off,hv,_⟩
    ·exact sl _ _ _ hv (hK _ fun _=>rfl)
    ·exact sl _ _ _ hv (hK _ fun hnn=>by cases hnn)
  ·rename_i el hu
   cases hn
   have hy:a.eval (.const (.pointer none))=.pointer none:=rfl
   rw [hy]
   have hpt:P.underlying t=some (.pointer (P.pointee t)):=by simp [Program.pointee,hu]
   have sl:∀ (A:Option Addr),a.eval x=.pointer A->K (.bool (xor neg A.isNone))->_:=fun A hv hk=>
    (⟨A.isNone,hk,by rw [hv];exact run_equal_pointer_nil (P:=P) w t A hpt,fun z hz=>by rw [<-hz,hv];cases A <;> rfl,fun z hz=>by rw [<-hz,hv];cases A <;> rfl,by rw [hv];simp [eqGuard]⟩:∃ b:Bool,K (.bool (xor neg b))/\(Op.equal t (a.eval x) (.pointer none)).run P w=.ok b w/\(∀ z,binOp .eql t (a.eval x) (.pointer none)=z->z=(do let r <-Op.equal t (a.eval x) (.pointer none);pure (Value.bool r))) /\
      (∀ z,binOp .neq t (a.eval x) (.pointer none)=z->z=(do let r <-Op.equal t (a.eval x) (.pointer none);pure (Value.bool !r)))/\(eqGuard op t x (.const (.pointer none)) (a.eval x) (.pointer none)).run P w=.ok () w)
   revert h1 hK
   cases ev e sx <;> intro h1 hK <;> try exact hK.elim
   ·rename_i v
    cases v <;> try exact hK.elim
    rename_i A
    cases A <;> try exact hK.elim
    have hv:a.eval x=.pointer none:=by
     revert h1
     generalize a.eval x=q
     intro h1
     cases h1;rfl
    exact sl none hv (by simpa [YK] using hK)
   ·exact sl _ h1.ptr_inv.2 (by simpa [YK] using hK)
   ·obtain ⟨ad,hv,_⟩:=h1.pin_inv
    exact sl _ hv (by simpa [YK] using hK)
   ·exact sl _ h1.vp_inv.2.2 (by simpa [YK] using hK)
  ·rename_i ps rs vr hu
   cases hn
   have hy:a.eval (.const .nilFunc)=.nilFunc:=rfl
   rw [hy]
   revert h1 hK
   cases ev e sx <;> intro h1 hK <;> try exact hK.elim
   ·rename_i v
    cases v <;> try exact hK.elim
    have hv:a.eval x=.nilFunc:=by
     revert h1
     generalize a.eval x=q
     intro h1
     cases h1;rfl
    rw [hv]
    exact ⟨true,by simpa [YK] using hK,run_equalIn_nil_func 9999 hu,fun z hz=>by rw [<-hz];rfl,fun z hz=>by rw [<-hz];rfl,by simp [eqGuard]⟩
   ·rename_i f as bs
    obtain ⟨fs,cs,hv⟩:∃ fs cs,a.eval x=.func (.func f) fs cs:=by
     revert h1
     generalize a.eval x=q
     intro h1
     cases h1;exact ⟨_,_,rfl⟩
    rw [hv]
    exact ⟨false,by simpa [YK] using hK,run_equalIn_func_nil 9999 _ _ _ hu,fun z hz=>by rw [<-hz];rfl,fun z hz=>by rw [<-hz];rfl,by simp [eqGuard]⟩
  ·cases hn
 obtain ⟨b,hk,hr,he,hne,hg⟩:=key
 rcases hop with ⟨rfl,rfl⟩ | ⟨rfl,rfl⟩
 ·refine ⟨.bool b,.bool b,?_,.bool b,by simpa using hk⟩
  simp [execOp,ho,hg,he _ rfl,hr]
 ·refine ⟨.bool (!b),.bool (!b),?_,.bool _,by simpa using hk⟩
  simp [execOp,ho,hg,hne _ rfl,hr]
end
end Go.Sim
end
section
namespace Go.Sim
open Go Go.Lib
section
variable {P:Program} {w:World}
theorem liesAt_off {e:TypeId} (hc:P.cellsOf e=1) (count off n:Nat) (hn:off+n<=count):liesAt P P.depth e count off e n=true:=by
 have hd:P.depth=(2*(P.types.size+Made.depth)+1)+1:=rfl
 rw [hd]
 simp only [liesAt,Bool.or_eq_true]
 left
 rw [hd]
 simp [rowAt,hc,sameLayout,Nat.mod_one]
 omega
theorem run_ustr_at (pt it ty e:TypeId) (hp:P.underlying pt=some (.pointer e)) (hc:P.cellsOf e=1) (g off cells:Nat) (hsh:w.shape? g=some (e,cells)) (l:List UInt8) (h0:l≠[]) (hn:off+l.length<=cells) (h63:l.length<=9223372036854775807)
 (hcell:∀ j x,l[j]? = some x->w.cell? ((⟨g,off,none⟩:Addr).add j)=some (.int .u8 x.toNat)) :
 (Builtin.unsafeString_ #[pt,it] ty #[.pointer (some ⟨g,off,none⟩),.int .i64 l.length]).run P w=.ok (.string ⟨l.toArray⟩) (w.freeze ⟨g,off,none⟩ l.length):=by
 have hl:l.length≠0:=by simpa using h0
 have hlb:=run_loadBytes (P:=P) w l ⟨g,off,none⟩ .empty hcell
 have hlies:=liesAt_off (P:=P) hc (cells / P.cellsOf e) off l.length (by rw [hc];simpa using hn)
 have h63':¬ (9223372036854775807:Int)<(l.length:Int):=by omega
 obtain ⟨A,B,C,hdef⟩:∃ (A B:Sem PUnit) (C:Sem Value),Builtin.unsafeString_ #[pt,it] ty #[.pointer (some ⟨g,off,none⟩),.int .i64 l.length] =
  (do
    let n <-asInt (.int .i64 l.length)
    if n<0 then A
    if n > IntKind.i64.max then B
    if n=0 then pure (.string .empty)
    else if <-variablesAt ⟨g,off,none⟩ (<-elemOf pt) n.toNat then do
     let s <-loadBytes ⟨g,off,none⟩ .empty n.toNat
     freeze ⟨g,off,none⟩ n.toNat
     pure (.string s)
    else C):=⟨_,_,_,rfl⟩
 rw [hdef]
 have hmax:IntKind.i64.max=9223372036854775807:=rfl
 have hneg:¬ (l.length:Int)<0:=by omega
 simp [asInt,asIntOf,hmax,h63',hneg,hl,variablesAt,hsh,elemOf,run_underlying hp,hlies,hlb]
end
section
variable {P:Program} {o:Oper} {a:Act} {w:World} {g:Ghost} {h:Z2} {n:Nat} {e:Env}
theorem root_touch (H:HRel h g w) {r:Nat} {ob:AObj} (hr:h r=some ob) (h0:g.cap r≠0) {w':World} (hs:∀ b,b≠g.eta r->w'.heap[b]? = w.heap[b]?) (hz:w'.heap.size=w.heap.size) (h1:w'.os=w.os) (h2:w'.tape=w.tape) (h3:w'.output=w.output)
 (hc:∃ cur t f,w'.heap[g.eta r]? = some (.cells cur t f)):GS g w g w'/\HRel (del h r) g w':=by
 have hnf:¬ g.fz (g.eta r):=by
  rcases (H.obj r ob hr).block with h' | ⟨_,hf,_⟩
  ·exact absurd h' h0
  ·exact hf
 have S:GS g w g w':=GS.world (fun b hb=>hs b (fun e=>hnf (e ▸ hb))) h1 h2 h3 (by rw [hz];exact Nat.le_refl _) (fun b _ ho=>hs b (fun e=>by
  rcases ho with ho | ⟨o,ho,hc⟩
  ·exact ho ⟨r,(H.obj r ob hr).lt,h0,e.symm⟩
  ·rcases (H.obj r ob hr).block with h' | ⟨_,_,cur,hcur,_⟩
   ·exact h0 h'
   ·obtain ⟨fr,hq⟩:=hcur.ex
    rw [e,hq] at ho;cases ho;cases hc))
 refine ⟨S,fun t o' ht=>?_,(H.del r).inj,fun b hb=>by rw [hz];exact H.fz b hb,fun b hb=>?_,(H.del r).mob.step S fun _ _ _ h=>h⟩
 ·unfold Sim.del at ht
  split at ht
  ·cases ht
  ·rename_i hne
   refine (H.obj t o' ht).step S (fun hc=>?_) (fun hc=>?_)
   ·exact hs _ (fun he=>hne (H.inj t r o' ob ht hr hc h0 he))
   ·rcases (H.obj t o' ht).block with h' | ⟨_,hf,_⟩
    ·exact absurd h' hc
    ·exact hf
 ·by_cases e:b=g.eta r
  ·subst e;exact hc
  ·rw [hs b e];exact H.ow b hb
theorem fold_push (l:List UInt8):∀ acc:ByteArray,(l.map fun b=>(b.toNat:Int)).foldl (fun r n=>r.push (UInt8.ofNat n.toNat)) acc=⟨acc.data++l.toArray⟩:=by
 induction l with
 | nil=>intro acc;simp
 | cons b r ih=>
   intro acc
   rw [List.map_cons,List.foldl_cons,ih]
   simp [ByteArray.push]
theorem strEs_vals {news:List Value} {l:List UInt8} (F:FlatRel g w news 1 (Y8 l)):news=(l.map fun b=>(b.toNat:Int)).map (Value.int .u8):=by
 have hl:news.length=l.length:=by rw [F.1];simp [Y8]
 apply List.ext_getElem?
 intro j
 by_cases hj:j<l.length
 ·have hx:=List.getElem?_eq_getElem hj
  obtain ⟨u,hu,hv⟩:=F.2.2.2 j 0 [.int .u8 (l[j]).toNat] _ (by simp [Y8,hx]) rfl
  rw [hv.int_inv'] at hu
  simp only [Nat.mul_one,Nat.add_zero] at hu
  rw [hu];simp [hx]
 ·rw [List.getElem?_eq_none (by omega),List.getElem?_eq_none (by simp;omega)]
theorem strEs_get {l:List UInt8} {j:Nat} {x:UInt8} (hx:l[j]? = some x):(Y8 l)[j]? = some [.int .u8 x.toNat]:=by
 simp [Y8,hx]
theorem s_b2s {s d el:TypeId} {x:Operand} {sx:SX} (ho:o.op=.convert s d x) (hs:P.underlying s=some (.slice el)) (hel:P.underlying el=some (.int .u8)) (hd:P.underlying d=some .string) (hx:Y5 x=some sx) (E:ERel n e g w a) (H:HRel h g w)
 {l:List UInt8} (hr:Rd h 1 (ev e sx) (Y8 l)):U4 P o a w g (.str l):=by
 have h1:=J1 E hx
 have hrun:∀ v w',(Conv.bytesToString (a.eval x)).run P w=.ok v w'->(execOp a.eval o).run P w=.ok (.value v) w':=by
  intro v w' hh
  have:∃ A len c,a.eval x=.slice A len c:=by
   rcases hr.cells h1 H with ⟨_,A,c,hv⟩ | ⟨ad,c,news,hv,_⟩
   ·exact ⟨_,_,_,hv⟩
   ·exact ⟨_,_,_,hv⟩
  obtain ⟨A,len,c,hv⟩:=this
  rw [hv] at hh
  cases A <;> simp [execOp,ho,convert,run_underlying hs,run_underlying hd,run_underlying hel,hv,hh]
 rcases hr.cells h1 H with ⟨he,A,c,hv⟩ | ⟨ad,c,news,hv,_,F,hn,_⟩
 ·have hl:l=[]:=by
   have:=congrArg List.length he
   simpa [Y8] using this
  subst hl
  refine ⟨.string ⟨#[]⟩,hrun _ _ ?_,VRel.str' []⟩
  rw [hv]
  cases A with
  | none=>rfl
  | some ad=>
    exact run_bytesToString (P:=P) w ad 0 c [] (by simp [loadCells,loadCellsFrom])
 ·refine ⟨.string ⟨⟨l⟩⟩,hrun _ _ ?_,VRel.str' l⟩
  rw [hv]
  have hnw:=strEs_vals F
  have hlen:(Y8 l).length=news.length:=by rw [F.1];simp
  have hld:=run_loadCells_list (P:=P) (w:=w) ad news (fun j v hv=>hn j v hv)
  rw [hnw] at hld
  have:=run_bytesToString (P:=P) w ad (Y8 l).length c (l.map fun b=>(b.toNat:Int)) (by rw [hlen,hnw];simpa using hld)
  rw [this,fold_push]
  simp
def usdE (x:AVal) (h:Z2) (K:AVal->Z2->Prop):Prop:=
 match x with
 | .emp=>K .anyp h
 | .osl r _ i n=>0<n/\K (.ptr r i 0) h
 | _=>False
theorem s_usd {el:TypeId} {x:Operand} {sx:SX} {c:Call} (ho:o.op=.call c) (hc:c.callee=.builtin .unsafeSliceData) (ha:c.args.toList=[x]) (hp:P.underlying o.type=some (.pointer el)) (hx:Y5 x=some sx) (E:ERel n e g w a) (H:HRel h g w)
 {K:AVal->Z2->Prop} (hk:usdE (ev e sx) h K):StepW P o a w g K:=by
 obtain ⟨cal,ar,at'⟩:=c
 simp only at hc ha
 subst hc
 have har:ar = #[x]:=by cases ar;simp_all
 subst har
 have h1:=J1 E hx
 have run:∀ v w',(Builtin.unsafeSliceData_ at' o.type #[a.eval x]).run P w=.ok v w'->(execOp a.eval o).run P w=.ok (.value v) w':=by
  intro v w' hh
  simp [execOp,ho,resolve,invoke,builtin,hh]
 revert hk h1
 cases hq:ev e sx <;> intro hk h1 <;> try exact hk.elim
 ·have hk:K .anyp h:=hk
  revert run h1
  generalize a.eval x=q
  intro run h1
  cases h1 with
  | emp0=>exact ⟨_,w,g,.anyp,h,.inl (run _ _ rfl),GS.refl g w,H,.anyp _,hk⟩
  | empS ad hs hf hc=>
    obtain ⟨cur,t,f,hc⟩:=hc
    have hsh:w.shape? ad.block=some (t,cur.size):=by simp [World.shape?,hc]
    obtain ⟨S,H'⟩:=H.alloc (.view ad el)
    exact ⟨_,_,g,.anyp,h,.inl (run _ _ (run_unsafeSliceData_zero w at' o.type el hp ad 0 _ hsh)),S,H',.anyp _,hk⟩
 ·rename_i r sz i m
  obtain ⟨h0,hk⟩:=hk
  obtain ⟨hr,hsz,hc⟩:=h1.osl_inv
  rcases hc with ⟨_,_,hm,_⟩ | ⟨cap,off,hv,hnc,_,_,hoff⟩
  ·omega
  ·refine ⟨_,w,g,.ptr r i 0,h,.inl (run _ _ (by rw [hv];exact run_unsafeSliceData_row w at' o.type _ _ cap (by omega))),GS.refl g w,H,?_,hk⟩
   have:=VRel.ptr (g:=g) (w:=w) r i 0 hr
   rw [hoff (by omega),<-hsz]
   simpa using this
def ustrE (ty:TypeId) (p m:AVal) (h:Z2) (K:AVal->Z2->Prop):Prop:=
 match p,m with
 | .anyp,.int .i64 m=>m=0/\K (.str []) h
 | .ptr r i j,.int .i64 m=>j=0 /\ ∃ (l:List UInt8) (ob:AObj),h r=some ob/\ob.ty=ty/\ob.sz=1/\i+l.length<=ob.es.length/\(ob.es.drop i).take l.length=Y8 l/\m=l.length/\l≠[]/\l.length<=9223372036854775807/\K (.str l) (del h r)
 | _,_=>False
theorem s_ustr {t u el:TypeId} {x y:Operand} {sx sy:SX} {c:Call} (ho:o.op=.call c) (hc:c.callee=.builtin .unsafeString) (ha:c.args.toList=[x,y]) (ht:c.argTypes.toList=[t,u]) (hp:P.underlying t=some (.pointer el)) (hcl:P.cellsOf el=1)
 (hx:Y5 x=some sx) (hy:Y5 y=some sy) (E:ERel n e g w a) (H:HRel h g w) {K:AVal->Z2->Prop} (hk:ustrE el (ev e sx) (ev e sy) h K):StepW P o a w g K:=by
 obtain ⟨cal,ar,at'⟩:=c
 simp only at hc ha ht
 subst hc
 have har:ar = #[x,y]:=by cases ar;simp_all
 subst har
 have hat:at' = #[t,u]:=by cases at';simp_all
 subst hat
 have h1:=J1 E hx
 have h2:=J1 E hy
 have run:∀ v w',(Builtin.unsafeString_ #[t,u] o.type #[a.eval x,a.eval y]).run P w=.ok v w'->(execOp a.eval o).run P w=.ok (.value v) w':=by
  intro v w' hh
  simp [execOp,ho,resolve,invoke,builtin,hh]
 unfold ustrE at hk
 split at hk
 ·rename_i m hq1 hq2
  obtain ⟨rfl,hk⟩:=hk
  rw [hq1] at h1;rw [hq2] at h2
  have hy':=h2.int_inv'
  obtain ⟨q,hx'⟩:∃ q,a.eval x=.pointer q:=by
   revert h1
   generalize a.eval x=z
   intro h1
   cases h1 with
   | anyp q=>exact ⟨q,rfl⟩
  exact ⟨_,w,g,.str [],h,.inl (run _ _ (by rw [hx',hy'];exact run_unsafeString_none w t u o.type q)),GS.refl g w,H,VRel.str' [],hk⟩
 ·rename_i r i j m hq1 hq2
  obtain ⟨rfl,l,ob,hob,hty,hs1,hfit,hes,rfl,hne,h63,hk⟩:=hk
  rw [hq1] at h1;rw [hq2] at h2
  have hy':=h2.int_inv'
  obtain ⟨hr,hx'⟩:=h1.ptr_inv
  have O:=H.obj r ob hob
  have hl0:0<l.length:=List.length_pos_iff.2 hne
  rcases O.block with h' | ⟨hlt,hf,cur,hcur,hcs,hh⟩
  ·have:=O.le;omega
  ·have hc0:g.cap r≠0:=by have:=O.le;omega
   rw [hs1] at hcs
   have hle:=O.le
   obtain ⟨fr,hq⟩:=hcur.ex
   have hsh:w.shape? (g.eta r)=some (el,cur.size):=by simp [World.shape?,hq,hty,OTy.id]
   have hcell:∀ k x,l[k]? = some x->w.cell? ((⟨g.eta r,g.bo r+i,none⟩:Addr).add k)=some (.int .u8 x.toNat):=by
    intro k x hkx
    have hk1:k<l.length:=(List.getElem?_eq_some_iff.1 hkx).1
    have h3:ob.es[i+k]? = some [.int .u8 x.toNat]:=by
     have:=strEs_get hkx
     rw [<-hes,List.getElem?_take,if_pos hk1,List.getElem?_drop] at this
     exact this
    obtain ⟨u,hu,_,hv⟩:=hh (i+k) 0 _ _ h3 rfl
    rw [hv.int_inv'] at hu
    rw [Addr.add_lit,hcur.cell,<-hu,hs1]
    congr 1;omega
   have hrun:=run_ustr_at (P:=P) (w:=w) t u o.type el hp hcl (g.eta r) (g.bo r+i) cur.size hsh l hne (by omega) h63 hcell
   have hz:(w.freeze ⟨g.eta r,g.bo r+i,none⟩ l.length).heap.size=w.heap.size:=by
    unfold World.freeze;split <;> simp
   obtain ⟨S,H'⟩:=root_touch H hob hc0 (w':=w.freeze ⟨g.eta r,g.bo r+i,none⟩ l.length) (fun b hb=>by
    unfold World.freeze
    split
    ·rfl
    ·simp only [Array.getElem?_modify]
     rw [if_neg (fun e=>hb e.symm)]) hz (by unfold World.freeze;split <;> rfl) (by unfold World.freeze;split <;> rfl) (by unfold World.freeze;split <;> rfl) (by
    unfold World.freeze
    rw [if_neg (by omega)]
    simp only [Array.getElem?_modify,if_true,hq,Option.map_some]
    exact ⟨_,_,_,rfl⟩)
   refine ⟨_,_,g,.str l,_,.inl (run _ _ (by rw [hx',hy'];simpa [hs1,O.sz] using hrun)),S,H',VRel.str' l,hk⟩
 ·exact hk.elim
def s2bE (ty:Nat) (x:AVal) (h:Z2) (K:AVal->Z2->Prop):Prop:=
 match x with
 | .str l=>l.length<=140737488355328 /\ ∀ r,h r=none->K (.osl r 1 0 l.length) (upd h r (some ⟨.b ty,1,Y8 l⟩))
 | _=>False
theorem s_s2b {s d el:TypeId} {x:Operand} {sx:SX} (ho:o.op=.convert s d x) (hs:P.underlying s=some .string) (hd:P.underlying d=some (.slice el)) (hel:P.underlying el=some (.int .u8)) (hx:Y5 x=some sx) (E:ERel n e g w a) (H:HRel h g w)
 {K:AVal->Z2->Prop} (hk:s2bE el (ev e sx) h K):StepW P o a w g K:=by
 unfold s2bE at hk
 split at hk
 case h_2=>exact hk.elim
 rename_i l hl
 have hv:=J1 E hx
 rw [hl] at hv
 obtain ⟨b,hb,rfl⟩:=hv.str_inv
 obtain ⟨hle,hK⟩:=hk
 have hsz:=K9 b
 have hge:=grownCap_ge w b.size 0 el
 have hmax:=grownCap_le_maxLen w b.size 0 el (by simp only [maxLen];omega)
 have hcs:(Lib.bytesCells w el b).size=grownCap w b.size 0 el:=by
  have:b.data.size=b.size:=rfl
  simp [Lib.bytesCells,this];omega
 have hos:(Lib.bytesWorld w el b).os=w.os/\(Lib.bytesWorld w el b).tape=w.tape/\(Lib.bytesWorld w el b).output=w.output:=by
  simp only [Lib.bytesWorld,World.freeze]
  refine ⟨?_,?_,?_⟩ <;> split <;> rfl
 obtain ⟨S1,H1⟩:=H.ext (w':=Lib.bytesWorld w el b) (fun j hj=>Lib.bytesWorld_at_old w el b j hj) hos.1 hos.2.1 hos.2.2 (by rw [Lib.bytesWorld_size];omega)
 have S:=S1.addTo w.heap.size 0 (grownCap w b.size 0 el) 1 (.inl (Nat.le_refl _))
 have H2:=H1.addO (blk:=w.heap.size) (bo:=0) (cap:=grownCap w b.size 0 el) (sz:=1) (ty:=.b el) (es:=Y8 b.data.toList) rfl (by decide) (by intro c hc;simp only [Y8,List.mem_map] at hc;obtain ⟨_,_,rfl⟩:=hc;rfl) (by simp only [Y8,List.length_map];omega)
  (.inr ⟨by rw [Lib.bytesWorld_size];omega,fun hf=>by have:=H.fz _ hf;omega,fun r ob hr h0 he=>by
    rcases (H.obj r ob hr).block with h' | ⟨hl,_⟩
    ·exact h0 h'
    ·omega,Lib.bytesCells w el b,⟨_,_,Lib.bytesWorld_at_new w el b,.inr ⟨Nat.le_refl _,rfl⟩⟩,by omega,fun i j c y hc hy=>by
    simp only [Y8,List.getElem?_map,Option.map_eq_some_iff] at hc
    obtain ⟨u,hu,rfl⟩:=hc
    have hj:j=0:=by have:=(List.getElem?_eq_some_iff.1 hy).1;simp at this;omega
    subst hj
    simp at hy;subst hy
    have hi:=(List.getElem?_eq_some_iff.1 hu).1
    refine ⟨.int .u8 u.toNat,?_,rfl,.int _ _⟩
    have e1:0+(i*1+0)=i:=by omega
    rw [e1,Lib.bytesCells,Array.getElem?_append_left (by simp at hi ⊢; exact hi),Array.getElem?_map,<-Array.getElem?_toList,hu]
    rfl⟩)
 have hn:g.nxt<(g.add w.heap.size 0 (grownCap w b.size 0 el) 1).nxt:=Nat.lt_succ_self _
 refine ⟨.slice (some ⟨w.heap.size,0,none⟩) b.size (grownCap w b.size 0 el),_,_,.osl g.nxt 1 0 b.data.toList.length,_,.inl ?_,S,H2,?_,hK _ H.none_nxt⟩
 ·simp [execOp,ho,hb,Lib.run_convert_string_bytes w s d el b hs hd hel]
 ·have:=VRel.osl (g:=g.add w.heap.size 0 (grownCap w b.size 0 el) 1) (w:=Lib.bytesWorld w el b) g.nxt 1 0 b.size (grownCap w b.size 0 el) 0 hn (by simp [Ghost.add]) hge hmax (by simp [Ghost.add]) (fun _=>by simp [Ghost.add])
  rw [<-hsz]
  simpa [Ghost.add] using this
end
end Go.Sim
end
section
namespace Go.Sim
open Go
section
variable {P:Program} {o:Oper} {a:Act} {w:World} {g:Ghost} {h:Z2} {n:Nat} {e:Env}
theorem OTy.m_of {t:OTy} (h:t.isM=true):∃ n es,t=.m n es:=by
 cases t with
 | t n=>cases h
 | m n es=>exact ⟨n,es,rfl⟩
 | b n=>cases h
theorem key_out {t:TypeId} {kt:Option IntKind} {v:Value} {k:AVal} (ht:keyT P t=some kt) (hk:U1 kt k=true) (V:VRel g w v k):∃ d,P.underlying t=some d/\(match d with | .int _ | .string=>True | _=>False)/\MapKept.IsKey d v /\ ∀ (v':Value) (k':AVal),U1 kt k'=true->VRel g w v' k'->MapKept.IsKey d v'/\(YX k' k=true↔v'=v)/\(YX k' k=true->k'=k):=by
 unfold keyT at ht
 split at ht
 ·rename_i kd hu
  cases ht
  refine ⟨_,hu,trivial,?_⟩
  cases k <;> simp only [U1,Bool.false_eq_true,decide_eq_true_eq] at hk
  rename_i k1 m1
  subst hk
  rw [V.int_inv']
  refine ⟨rfl,fun v' k' hk' V'=>?_⟩
  cases k' <;> simp only [U1,Bool.false_eq_true,decide_eq_true_eq] at hk'
  rename_i k2 m2
  subst hk'
  rw [V'.int_inv']
  refine ⟨rfl,?_,?_⟩ <;> simp [YX]
 ·rename_i hu
  cases ht
  refine ⟨_,hu,trivial,?_⟩
  cases k <;> simp only [U1,Bool.false_eq_true] at hk
  rename_i l1
  rw [V.str_inv']
  refine ⟨trivial,fun v' k' hk' V'=>?_⟩
  cases k' <;> simp only [U1,Bool.false_eq_true] at hk'
  rename_i l2
  rw [V'.str_inv']
  refine ⟨trivial,?_,?_⟩ <;> simp [YX]
 ·cases ht
theorem findNow_rel {d:TypeDesc} {kv:Value} {k:AVal} {kt:Option IntKind} (hd:MapKept.IsKey d kv) (hs:∀ (v':Value) (k':AVal),U1 kt k'=true->VRel g w v' k'->MapKept.IsKey d v'/\(YX k' k=true↔v'=kv)/\(YX k' k=true->k'=k)) :
 ∀ (L:List MapEntry) (es:List (AVal×AVal)) (i:Nat),L.length=es.length->(∀ (j:Nat) (x v:AVal),es[j]? = some (x,v) -> ∃ en,L[j]? = some en/\VRel g w en.key x/\VRel g w en.val v)->es.all (fun p=>U1 kt p.1)=true ->
   (Instr.findNow d kv L i=some none/\KU k es=none /\ ∀ v,mPut k v es=es++[(k,v)]) \/
   ∃ j en x v,Instr.findNow d kv L i=some (some (i+j,en.val))/\L[j]? = some en/\en.key=kv/\es[j]? = some (x,v)/\x=k/\VRel g w en.val v/\KU k es=some v /\ ∀ nv,mPut k nv es=es.set j (x,nv)
 | [],[],_,_,_,_=>.inl ⟨rfl,rfl,fun _=>rfl⟩
 | [],_ :: _,_,hl,_,_=>by cases hl
 | _ :: _,[],_,hl,_,_=>by cases hl
 | en :: L,(x,v) :: es,i,hl,hr,ha=>by
   obtain ⟨en',h1,h2,h3⟩:=hr 0 x v rfl
   cases h1
   simp only [List.all_cons,Bool.and_eq_true] at ha
   obtain ⟨hk1,hk2,hk3⟩:=hs _ _ ha.1 h2
   obtain ⟨r,hr1,hiff⟩:=MapKept.sameNow_of_keys hd hk1
   cases hq:YX x k with
   | true=>
     have hev:=hk2.1 hq
     have:r=true:=hiff.2 hev.symm
     subst this
     exact .inr ⟨0,en,x,v,by simp [Instr.findNow,hr1],rfl,hev,rfl,hk3 hq,h3,by simp [KU,hq],fun nv=>by simp [mPut,hq]⟩
   | false=>
     have:r=false:=by
      cases r with
      | false=>rfl
      | true=>rw [hk2.2 (hiff.1 rfl).symm] at hq;cases hq
     subst this
     rcases findNow_rel hd hs L es (i+1) (by simpa using hl) (fun j x v hj=>hr (j+1) x v hj) ha.2 with ⟨g1,g2,g3⟩ | ⟨j,en',x',v',g1,g2,g3,g4,g5,g6,g7,g8⟩
     ·exact .inl ⟨by simp [Instr.findNow,hr1,g1],by simp [KU,hq,g2],fun v=>by simp [mPut,hq,g3]⟩
     ·exact .inr ⟨j+1,en',x',v',by simp [Instr.findNow,hr1,g1];omega,g2,g3,g4,g5,g6,by simp [KU,hq,g7],fun nv=>by simp [mPut,hq,g8]⟩
theorem MRel.map {r:Nat} {es:List (AVal×AVal)} (R:MRel g w r es) {kt:Option IntKind} (hall:es.all (fun p=>U1 kt p.1)=true):∃ (ents:Array MapEntry) (clock:Nat),w.heap[g.eta r]? = some (.map ents clock)/\ents.size=es.length /\
 ∀ (i:Nat) (k v:AVal),es[i]? = some (k,v) -> ∃ en,ents[i]? = some en/\VRel g w en.key k/\VRel g w en.val v:=by
 obtain ⟨o,hb,hB⟩:=R.block
 rcases hB with ⟨ents,clock,rfl,hl,he⟩ | ⟨s,p,_,rfl⟩
 ·exact ⟨ents,clock,hb,hl,he⟩
 ·simp [U1] at hall
theorem mapT_out {t:TypeId} {q:TypeId×TypeId} (h:mapT P t=some q):P.underlying t=some (.map q.1 q.2):=by
 unfold mapT at h
 split at h
 ·rename_i k e hu;cases h;exact hu
 ·cases h
theorem VRel.mpr_inv {v:Value} {r:Nat} (V:VRel g w v (.mpr r)):r<g.nxt/\v=.map (some (g.eta r)):=by
 cases V with
 | mpr r hr=>exact ⟨hr,rfl⟩
theorem zeroA_out {t:TypeId} {z:AVal} (hz:zeroA P t=some z):∃ i zv,P.info? t=some i/\i.zero=some zv/\VRel g w zv z:=by
 simp only [zeroA,Option.bind_eq_some_iff] at hz
 obtain ⟨i,hi,zv,hzv,hc⟩:=hz
 split at hc
 ·rename_i hok
  cases hc
  exact ⟨i,zv,hi,hzv,.ofV g w zv hok⟩
 ·cases hc
theorem s_lkp {t:TypeId} {m k:Operand} {sm sk:SX} {q:TypeId×TypeId} {kt:Option IntKind} {ok:Bool} {z:AVal} (ho:o.op=.lookup t m k ok) (hq:mapT P t=some q) (hkt:keyT P q.1=some kt) (hz:zeroA P q.2=some z) (hm:Y5 m=some sm) (hk:Y5 k=some sk)
 (E:ERel n e g w a) (H:HRel h g w) (hok:okLkp h kt (ev e sm) (ev e sk)):U4 P o a w g (aLkp h ok z (ev e sm) (ev e sk)):=by
 have h1:=J1 E hm
 have h2:=J1 E hk
 revert h1 hok
 cases ev e sm <;> intro hok h1 <;> try exact hok.elim
 rename_i r
 obtain ⟨ob,hr,hM,hkk,hall⟩:=hok
 obtain ⟨mn,es,hty⟩:=OTy.m_of hM
 obtain ⟨_,hv⟩:=h1.mpr_inv
 obtain ⟨ty,sz,cs⟩:=ob
 simp only at hty
 subst hty
 have R:=H.mob.one r mn es ⟨sz,cs,hr⟩
 obtain ⟨ents,clock,hb,hl,he⟩:=R.map hall
 obtain ⟨d,hd,_,hkey,hs⟩:=key_out hkt hkk h2
 have hu:=mapT_out hq
 have hcheck:=fun em=>MapKept.run_checkKey (P:=P) (w:=w) hd hkey em 9999
 have he':∀ (j:Nat) (x v:AVal),es[j]? = some (x,v) -> ∃ en,ents.toList[j]? = some en/\VRel g w en.key x/\VRel g w en.val v:=fun j x v hj=>by
  obtain ⟨en,q1,q2,q3⟩:=he j x v hj
  exact ⟨en,by rw [Array.getElem?_toList];exact q1,q2,q3⟩
 have hval:∀ u x,VRel g w u x -> ∀ b:Bool,VRel g w (if ok then .tuple #[u,.bool b] else u) (if ok then .tup [x,.bool b] else x):=by
  intro u x V b
  cases ok with
  | false=>exact V
  | true=>
    refine .tup #[u,.bool b] [x,.bool b] rfl fun j u' c hu' hc=>?_
    match j with
    | 0=>simp at hu' hc;subst hu' hc;exact V
    | 1=>simp at hu' hc;subst hu' hc;exact .bool b
    | j+2=>simp at hu'
 show U4 P o a w g (TY ok z (KU (ev e sk) (entsOf (h r))))
 rw [hr]
 show U4 P o a w g (TY ok z (KU (ev e sk) es))
 rcases findNow_rel hkey hs ents.toList es 0 (by simpa using hl) he' hall with ⟨g1,g2,_⟩ | ⟨j,en,x,v,g1,_,_,_,_,g6,g7,_⟩
 ·obtain ⟨i,zv,hi,hzv,hrel⟩:=zeroA_out (g:=g) (w:=w) hz
  rw [g2]
  refine ⟨if ok then .tuple #[zv,.bool false] else zv,?_,?_⟩
  ·simp [execOp,ho,Instr.lookup,run_underlying hu,hv,MapKept.run_getObj_map hb,hcheck,MapKept.run_findKey hd g1,Result.andThen,zeroValue,typeInfo,hi,hzv]
  ·simpa [TY] using hval zv z hrel false
 ·rw [g7]
  refine ⟨if ok then .tuple #[en.val,.bool true] else en.val,?_,?_⟩
  ·simp [execOp,ho,Instr.lookup,run_underlying hu,hv,MapKept.run_getObj_map hb,hcheck,MapKept.run_findKey hd g1,Result.andThen]
  ·simpa [TY] using hval en.val v g6 true
theorem HRel.retype (H:HRel h g w) {r:Nat} {ob:AObj} (hr:h r=some ob) {ty':OTy} (hid:ty'.id=ob.ty.id) (hib:ty'.isB=ob.ty.isB) (hm:MOb (upd h r (some { ob with ty:=ty' })) g w):HRel (upd h r (some { ob with ty:=ty' })) g w:=by
 have g1:∀ x y,upd h r (some { ob with ty:=ty' }) x=some y -> ∃ y',h x=some y'/\(y=y'\/(x=r/\y = { ob with ty:=ty' }/\y'=ob)):=by
  intro x y hx
  unfold upd at hx
  split at hx
  ·rename_i hxr;subst hxr;cases hx;exact ⟨ob,hr,.inr ⟨rfl,rfl,rfl⟩⟩
  ·exact ⟨y,hx,.inl rfl⟩
 refine ⟨fun t o ht=>?_,fun t t' o1 o2 ht ht' hc hc' he=>?_,H.fz,H.ow,hm⟩
 ·obtain ⟨y,hy,hh⟩:=g1 t o ht
  rcases hh with rfl | ⟨rfl,rfl,rfl⟩
  ·exact H.obj _ _ hy
  ·have O:=H.obj _ _ hy
   exact ⟨O.lt,O.sz,O.pos,O.len,O.le,O.block.imp id fun ⟨a,b,cur,hc,d⟩=>⟨a,b,cur,hc.ty hid hib,d⟩⟩
 ·obtain ⟨y1,hy1,_⟩:=g1 t o1 ht
  obtain ⟨y2,hy2,_⟩:=g1 t' o2 ht'
  exact H.inj t t' y1 y2 hy1 hy2 hc hc' he
theorem newM (t:TypeId) {es:List (AVal×AVal)} {ob:Obj} (hB:∀ g w,BlkIs g w ob es) (H:HRel h g w):∃ g',GS g w g' (w.alloc ob)/\HRel (upd h g.nxt (some ⟨.m t es,1,[]⟩)) g' (w.alloc ob)/\g'.eta g.nxt=w.heap.size/\g'.bo g.nxt=0/\g.nxt<g'.nxt:=by
 obtain ⟨S1,H1⟩:=H.alloc ob
 have hS:=S1.addTo w.heap.size 0 0 1 (.inr (.inr rfl))
 have H2:=H1.add (blk:=w.heap.size) (bo:=0) (cap:=0) (sz:=1) (ty:=t) (es:=[]) (by decide) (by simp) (by simp) (.inl rfl)
 have en:(g.add w.heap.size 0 0 1).eta g.nxt=w.heap.size:=by simp [Ghost.add]
 have hnew:=(MapKept.heap_alloc w ob).1
 have hu:∀ x,upd (upd h g.nxt (some ⟨.t t,1,[]⟩)) g.nxt x=upd h g.nxt x:=fun x=>by funext s;unfold upd;split <;> rfl
 have old:∀ r n es',MapAt (upd h g.nxt (some ⟨.m t es,1,[]⟩)) r n es'->(r=g.nxt/\es'=es)\/(r≠g.nxt/\MapAt (upd h g.nxt (some ⟨.t t,1,[]⟩)) r n es'):=by
  rintro r n es' ⟨sz,cs,hh⟩
  unfold upd at hh
  split at hh
  ·rename_i he;cases hh;exact .inl ⟨he,rfl⟩
  ·rename_i he;exact .inr ⟨he,sz,cs,by unfold upd;rw [if_neg he];exact hh⟩
 refine ⟨_,hS,?_,en,by simp [Ghost.add],Nat.lt_succ_self _⟩
 have:=H2.retype (r:=g.nxt) (ob:=⟨.t t,1,[]⟩) (Z9 _ _ _) (ty':=.m t es) rfl rfl ?_
 ·rw [hu] at this;exact this
 ·rw [hu]
  refine ⟨fun r n es' hm=>?_,fun r r' n n' es1 es2 hm hm' he=>?_⟩
  ·rcases old r n es' hm with ⟨rfl,rfl⟩ | ⟨_,hm⟩
   ·refine ⟨Nat.lt_succ_self _,fun hO=>?_,fun hf=>?_,by simp [Ghost.add],ob,by rw [en];exact hnew,hB _ _⟩
    ·obtain ⟨cur,t',f,hc⟩:=H2.ow _ hO
     rw [en,hnew] at hc;cases hc;exact (hB g w).cells
    ·have:=H.fz _ hf
     rw [en] at this;omega
   ·exact H2.mob.one r n es' hm
  ·have lt:∀ r n es',MapAt (upd h g.nxt (some ⟨.t t,1,[]⟩)) r n es'->(g.add w.heap.size 0 0 1).eta r<w.heap.size:=fun r n es' hm=>by
    have hm1:=hm.updT.2
    have R:=H.mob.one r n es' hm1
    obtain ⟨_,hb,_⟩:=R.block
    have e1:(g.add w.heap.size 0 0 1).eta r=g.eta r:=by simp only [Ghost.add];exact J7 _ _ (by have:=R.lt;omega)
    rw [e1];exact (Array.getElem?_eq_some_iff.1 hb).1
   rcases old r n es1 hm with ⟨rfl,rfl⟩ | ⟨_,hm1⟩ <;> rcases old r' n' es2 hm' with ⟨rfl,rfl⟩ | ⟨_,hm2⟩
   ·rfl
   ·have:=lt _ _ _ hm2;rw [<-he,en] at this;omega
   ·have:=lt _ _ _ hm1;rw [he,en] at this;omega
   ·exact H2.mob.two _ _ _ _ _ _ hm1 hm2 he
theorem s_mkm {t:TypeId} (ho:o.op=.makeMap t none) (H:HRel h g w):∃ g',(execOp a.eval o).run P w=.ok (.value (.map (some w.heap.size))) (w.alloc (.map #[] 0))/\GS g w g' (w.alloc (.map #[] 0))/\HRel (upd h g.nxt (some ⟨.m t [],1,[]⟩)) g' (w.alloc (.map #[] 0)) /\
 VRel g' (w.alloc (.map #[] 0)) (.map (some w.heap.size)) (.mpr g.nxt)/\g'.eta g.nxt=w.heap.size:=by
 obtain ⟨g',S,H',en,_,hn⟩:=newM t (es:=[]) (ob:=.map #[] 0) (fun g w=>.inl ⟨#[],0,rfl,rfl,by simp⟩) H
 refine ⟨g',by simp [execOp,ho,Instr.makeMap,Result.andThen],S,H',?_,en⟩
 have:=VRel.mpr (g:=g') (w:=w.alloc (.map #[] 0)) g.nxt hn
 rw [en] at this
 exact this
theorem s_rng {t:TypeId} {x:Operand} {sx:SX} {l:List UInt8} (ho:o.op=.range t x) (ht:P.underlying t=some .string) (hx:Y5 x=some sx) (E:ERel n e g w a) (hl:ev e sx=.str l) (H:HRel h g w) :
 ∃ w' g',(execOp a.eval o).run P w=.ok (.value (.pointer (some ⟨w.heap.size,0,none⟩))) w'/\GS g w g' w'/\HRel (upd h g.nxt (some (itO l 0))) g' w'/\VRel g' w' (.pointer (some ⟨w.heap.size,0,none⟩)) (.ptr g.nxt 0 0)/\g'.eta g.nxt=w.heap.size:=by
 have hv:=J1 E hx
 rw [hl] at hv
 obtain ⟨s,hs,rfl⟩:=hv.str_inv
 obtain ⟨g',S,H',en,eb,hn⟩:=newM 0 (es:=[(.slc [[],[.str s.data.toList]],.int .i64 (0:Nat))]) (ob:=.stringIter s 0) (fun g w=>.inr ⟨s,0,rfl,rfl⟩) H
 refine ⟨_,g',by simp [execOp,ho,Instr.range,run_underlying ht,hs,Result.andThen],S,H',?_,en⟩
 have:=VRel.ptr (g:=g') (w:=w.alloc (.stringIter s 0)) g.nxt 0 0 hn
 rw [en,eb] at this
 simpa using this
theorem turnM (E:ERel n e g w a) (H:HRel h g w) {r sz:Nat} {mn:TypeId} {es es':List (AVal×AVal)} {cs:List (List AVal)} (hr:h r=some ⟨.m mn es,sz,cs⟩) {o':Obj} (hB':BlkIs g w o' es')
 {g0:Ghost} {w0:World} (S:GSh g0 w0 g w) (hlo:w0.heap.size<=g.eta r\/g0.tn (g.eta r)) {w':World} (hw:w' = { w with heap:=w.heap.setIfInBounds (g.eta r) o' }) :
 (GSh g0 w0 g w'/\w.heap.size<=w'.heap.size)/\ERel n e g w' a/\HRel (upd h r (some ⟨.m mn es',sz,cs⟩)) g w':=by
 have R:=H.mob.one r mn es ⟨sz,cs,hr⟩
 obtain ⟨o1,hb,hB⟩:=R.block
 have hblt:=(Array.getElem?_eq_some_iff.1 hb).1
 obtain ⟨hnew,hoth⟩:=MapKept.heap_set (o':=o') hb
 have hoth:∀ b,b≠g.eta r->w'.heap[b]? = w.heap[b]? := fun b hb'=>by rw [hw];exact hoth b hb'
 have hnew:w'.heap[g.eta r]? = some o':=by rw [hw];exact hnew
 have hsz:w'.heap.size=w.heap.size:=by rw [hw];simp
 have W:GStep g w g w':=GStep.world (fun b hf=>hoth b fun hh=>R.fz (hh ▸ hf)) (by rw [hw]) (by rw [hw]) (by rw [hw]) (by rw [hsz];exact Nat.le_refl _)
 have hown:∀ b,Own g b->b≠g.eta r:=fun b ho hh=>R.own (hh ▸ ho)
 refine ⟨⟨⟨S.toGStep.trans W,fun b hlt hmu hn=>?_,S.new,S.fzn,fun b hf=>?_⟩,by rw [hsz];exact Nat.le_refl _⟩,⟨⟨fun x hx=>?_,E.defers.two⟩,E.size,E.bnd,fun t ht=>(E.slot t ht).step W,fun b=>(E.glo b).step W⟩,?_⟩
 ·refine (hoth b fun hbe=>?_).trans (S.own b hlt hmu hn)
  subst hbe
  rcases hlo with hlo | hlo
  ·omega
  ·refine hmu ⟨hlo,o1,(S.own _ hlt hmu hn).symm.trans hb,?_⟩
   rcases hB with ⟨x,y,q,_⟩ | ⟨x,y,q,_⟩
   ·exact .inl ⟨x,y,q⟩
   ·exact .inr ⟨x,y,q⟩
 ·rcases S.fzc b hf with h' | h'
  ·exact .inl h'
  ·exact .inr fun ⟨x,hx,hc⟩=>h' ⟨x,by rw [<-hoth b fun hh=>R.fz (hh ▸ hf)];exact hx,hc⟩
 ·obtain ⟨D,q1,q2,q3,q4⟩:=E.defers.one x hx
  refine ⟨D,q1,(hoth D fun hh=>?_).trans q2,q3,q4⟩
  rw [hh,hb] at q2;cases q2;exact hB.defd
 ·have old:∀ s n' es2,MapAt (upd h r (some ⟨.m mn es',sz,cs⟩)) s n' es2->(s=r/\es2=es')\/(s≠r/\MapAt h s n' es2):=by
   rintro s n' es2 ⟨z',c',hh⟩
   unfold upd at hh
   split at hh
   ·rename_i q;cases hh;exact .inl ⟨q,rfl⟩
   ·rename_i q;exact .inr ⟨q,z',c',hh⟩
  have some':∀ s n' es2,MapAt (upd h r (some ⟨.m mn es',sz,cs⟩)) s n' es2 -> ∃ n2 es3,MapAt h s n2 es3:=fun s n' es2 hm=>by
   rcases old s n' es2 hm with ⟨rfl,_⟩ | ⟨_,hm⟩
   ·exact ⟨mn,es,sz,cs,hr⟩
   ·exact ⟨_,_,hm⟩
  have g1:∀ x y,upd h r (some ⟨.m mn es',sz,cs⟩) x=some y -> ∃ y',h x=some y'/\y.sz=y'.sz/\y.es=y'.es/\y.ty.id=y'.ty.id/\y.ty.isB=y'.ty.isB:=by
   intro x y hx
   unfold upd at hx
   split at hx
   ·rename_i hxr;subst hxr;cases hx;exact ⟨_,hr,rfl,rfl,rfl,rfl⟩
   ·exact ⟨y,hx,rfl,rfl,rfl,rfl⟩
  refine ⟨fun s y hy=>?_,fun s s' y1 y2 hy1 hy2 hc hc' hee=>?_,fun b hf=>by rw [hsz];exact H.fz b hf,fun b ho=>?_,⟨fun s n' es2 hms=>?_,fun s s' n1 n2 e1 e2 hm1 hm2 hee=>?_⟩⟩
  ·obtain ⟨y',hy',q1,q2,q3,q4⟩:=g1 s y hy
   have O:=(H.obj s y' hy').step W (fun hc=>hoth _ (hown _ ⟨s,(H.obj s y' hy').lt,hc,rfl⟩)) (fun hc=>by
    rcases (H.obj s y' hy').block with h0 | ⟨_,hf,_⟩
    ·exact absurd h0 hc
    ·exact hf)
   exact ⟨O.lt,by rw [q1];exact O.sz,by rw [q1];exact O.pos,by rw [q1,q2];exact O.len,by rw [q2];exact O.le,by rw [q1,q2];exact O.block.imp id fun ⟨a,b,cur,hc,d⟩=>⟨a,b,cur,hc.ty q3 q4,d⟩⟩
  ·obtain ⟨y1',hy1',_⟩:=g1 s y1 hy1
   obtain ⟨y2',hy2',_⟩:=g1 s' y2 hy2
   exact H.inj s s' y1' y2' hy1' hy2' hc hc' hee
  ·obtain ⟨cur,t',f,hc⟩:=H.ow b ho
   exact ⟨cur,t',f,(hoth b (hown b ho)).trans hc⟩
  ·rcases old s n' es2 hms with ⟨rfl,rfl⟩ | ⟨hne,hms⟩
   ·exact ⟨R.lt,R.own,R.fz,R.bo,o',hnew,hB'.step W⟩
   ·have R2:=H.mob.one s n' es2 hms
    obtain ⟨o2,q1,q2⟩:=R2.block
    exact ⟨R2.lt,R2.own,R2.fz,R2.bo,o2,(hoth _ fun hh=>hne (H.mob.two s r n' mn es2 es hms ⟨sz,cs,hr⟩ hh)).trans q1,q2.step W⟩
  ·obtain ⟨_,_,q1⟩:=some' s n1 e1 hm1
   obtain ⟨_,_,q2⟩:=some' s' n2 e2 hm2
   exact H.mob.two _ _ _ _ _ _ q1 q2 hee
theorem s_mup {t:TypeId} {m k v:Operand} {sm sk sv:SX} {q:TypeId×TypeId} {kt:Option IntKind} (ho:o.op=.mapUpdate t m k v) (hq:mapT P t=some q) (hkt:keyT P q.1=some kt) (hm:Y5 m=some sm) (hk:Y5 k=some sk) (hv:Y5 v=some sv)
 (E:ERel n e g w a) (H:HRel h g w) {r:Nat} {ob:AObj} (her:ev e sm=.mpr r) (hr:h r=some ob) (hM:ob.ty.isM=true) (hkk:U1 kt (ev e sk)=true) (hall:ob.ty.ents.all (fun p=>U1 kt p.1)=true)
 {g0:Ghost} {w0:World} (S:GSh g0 w0 g w) (hlo:w0.heap.size<=g.eta r\/g0.tn (g.eta r)) :
 ∃ w',(execOp a.eval o).run P w=.ok .skip w'/\(GSh g0 w0 g w'/\w.heap.size<=w'.heap.size)/\ERel n e g w' a/\HRel (upd h r (some { ob with ty:=ob.ty.setM (mPut (ev e sk) (ev e sv) ob.ty.ents) })) g w':=by
 have h1:=J1 E hm
 have h2:=J1 E hk
 have h3:=J1 E hv
 rw [her] at h1
 obtain ⟨mn,es,hty⟩:=OTy.m_of hM
 obtain ⟨_,hvm⟩:=h1.mpr_inv
 obtain ⟨ty,sz,cs⟩:=ob
 simp only at hty
 subst hty
 have R:=H.mob.one r mn es ⟨sz,cs,hr⟩
 obtain ⟨ents,clock,hb,hl,he⟩:=R.map hall
 obtain ⟨d,hd,_,hkey,hs⟩:=key_out hkt hkk h2
 have hu:=mapT_out hq
 have hcheck:=fun em=>MapKept.run_checkKey (P:=P) (w:=w) hd hkey em 9999
 have he':∀ (j:Nat) (x v:AVal),es[j]? = some (x,v) -> ∃ en,ents.toList[j]? = some en/\VRel g w en.key x/\VRel g w en.val v:=fun j x v hj=>by
  obtain ⟨en,q1,q2,q3⟩:=he j x v hj
  exact ⟨en,by rw [Array.getElem?_toList];exact q1,q2,q3⟩
 have key:∀ (ents':Array MapEntry) (clock':Nat) (w':World),w' = { w with heap:=w.heap.setIfInBounds (g.eta r) (.map ents' clock') }->(execOp a.eval o).run P w=.ok .skip w' ->
  ents'.size=(mPut (ev e sk) (ev e sv) es).length->(∀ (i:Nat) (x y:AVal),(mPut (ev e sk) (ev e sv) es)[i]? = some (x,y) -> ∃ en,ents'[i]? = some en/\VRel g w en.key x/\VRel g w en.val y) ->
  ∃ w',(execOp a.eval o).run P w=.ok .skip w'/\(GSh g0 w0 g w'/\w.heap.size<=w'.heap.size)/\ERel n e g w' a/\HRel (upd h r (some ⟨.m mn (mPut (ev e sk) (ev e sv) es),sz,cs⟩)) g w':=fun ents' clock' w' hw hrun hl' hcell=>
  ⟨w',hrun,turnM E H hr (.inl ⟨ents',clock',rfl,hl',hcell⟩) S hlo hw⟩
 show ∃ w',_/\_/\_/\HRel (upd h r (some ⟨.m mn (mPut (ev e sk) (ev e sv) es),sz,cs⟩)) g w'
 rcases findNow_rel hkey hs ents.toList es 0 (by simpa using hl) he' hall with ⟨g1,_,g3⟩ | ⟨j,en,x,y,g1,g2,g3,g4,g5,_,_,g8⟩
 ·refine key (ents.push { key:=a.eval k,val:=a.eval v,born:=clock }) (clock+1) _ rfl ?_ (by rw [g3];simp [hl]) fun i x y hi=>?_
  ·simp [execOp,ho,Instr.mapUpdate,run_underlying hu,hvm,MapKept.run_getObj_map hb,hcheck,MapKept.run_findKey hd g1,MapKept.run_setObj_map _ hb,Result.andThen]
  ·rw [g3,List.getElem?_append] at hi
   split at hi
   ·rename_i hlt
    obtain ⟨en,q1,q2,q3⟩:=he i x y hi
    exact ⟨en,by rw [Array.getElem?_push,if_neg (by omega)];exact q1,q2,q3⟩
   ·rename_i hge
    have hi0:i=es.length:=by
     have:=(List.getElem?_eq_some_iff.1 hi).1
     simp at this;omega
    subst hi0
    simp at hi
    obtain ⟨rfl,rfl⟩:=hi
    exact ⟨⟨a.eval k,a.eval v,clock⟩,by rw [<-hl];simp,h2,h3⟩
 ·rw [Array.getElem?_toList] at g2
  have hj:j<ents.size:=(Array.getElem?_eq_some_iff.1 g2).1
  have hkey':MapKept.IsKey d (a.eval k):=hkey
  refine key (ents.modify j fun e=>{ e with key:=a.eval k,val:=a.eval v }) clock _ rfl ?_ (by rw [g8];simp [hl]) fun i x' y' hi=>?_
  ·simp [execOp,ho,Instr.mapUpdate,run_underlying hu,hvm,MapKept.run_getObj_map hb,hcheck,MapKept.run_findKey hd g1,g2,g3,MapKept.run_keyThatStays hkey',MapKept.run_setObj_map _ hb,Result.andThen]
  ·rw [g8,List.getElem?_set] at hi
   split at hi
   ·rename_i hij
    subst hij
    rw [if_pos (by omega)] at hi
    cases hi
    refine ⟨_,by rw [Array.getElem?_modify,if_pos rfl,g2];rfl,?_,h3⟩
    show VRel g w (a.eval k) x
    rw [g5];exact h2
   ·rename_i hij
    obtain ⟨en',q1,q2,q3⟩:=he i x' y' hi
    exact ⟨en',by rw [Array.getElem?_modify,if_neg hij];exact q1,q2,q3⟩
theorem run_getObj_iter {P:Program} {w:World} {r:Nat} {s:ByteArray} {p:Nat} (hb:w.heap[r]? = some (.stringIter s p)):(getObj r).run P w=.ok (.stringIter s p) w:=by
 simp [getObj,Sem.run,hb]
theorem run_setObj_iter {P:Program} {w:World} {r:Nat} {s:ByteArray} {p:Nat} (o:Obj) (hb:w.heap[r]? = some (.stringIter s p)):(setObj r o).run P w=.ok () { w with heap:=w.heap.setIfInBounds r o }:=by
 simp [setObj,Sem.run,hb]
theorem s_nxt {x:Operand} {sx:SX} (ho:o.op=.next x true) (hx:Y5 x=some sx) (E:ERel n e g w a) (H:HRel h g w) {r:Nat} {l:List UInt8} {p:Nat} (her:ev e sx=.ptr r 0 0) (hr:h r=some (itO l p))
 {g0:Ghost} {w0:World} (S:GSh g0 w0 g w) (hlo:w0.heap.size<=g.eta r\/g0.tn (g.eta r)) :
 ∃ w' v,(execOp a.eval o).run P w=.ok (.value v) w'/\(GSh g0 w0 g w'/\w.heap.size<=w'.heap.size)/\ERel n e g w' a /\
   if p<l.length then HRel (upd h r (some (itO l (p+(T8 l p).2)))) g w'/\VRel g w' v (.tup [.bool true,Y0 p,.int .i32 (T8 l p).1]) else HRel h g w'/\VRel g w' v (.tup [.bool false]):=by
 have h1:=J1 E hx
 rw [her] at h1
 obtain ⟨hrl,hv⟩:=h1.ptr_inv
 have R:=H.mob.one r 0 _ ⟨1,[],hr⟩
 obtain ⟨o1,hb,hB⟩:=R.block
 obtain ⟨s,rfl,rfl⟩:∃ s:ByteArray,o1=.stringIter s p/\l=s.data.toList:=by
  rcases hB with ⟨ents,clock,_,_,hcell⟩ | ⟨s,q,h1,h2⟩
  ·obtain ⟨en,_,h2,_⟩:=hcell 0 _ _ rfl
   obtain ⟨A,c,_,hin⟩:=h2.slc_inv
   obtain ⟨_,ad,sz,_,_,_,hsz,_⟩:=hin (by simp)
   have e1:=hsz [] (by simp)
   have e2:=hsz [.str l] (by simp)
   simp at e1 e2
   omega
  ·simp only [List.cons.injEq,Prod.mk.injEq,AVal.slc.injEq,AVal.str.injEq,AVal.int.injEq,true_and,and_true] at h2
   obtain ⟨h2,h3⟩:=h2
   obtain rfl:q=p:=by omega
   exact ⟨s,h1,h2⟩
 have hv':a.eval x=.pointer (some ⟨g.eta r,0,none⟩):=by rw [hv,R.bo];simp
 have hsz:s.data.toList.length=s.size:=(K9 s).symm
 by_cases hp:p<s.size
 ·obtain ⟨S',E',H'⟩:=turnM (w':={ w with heap:=w.heap.setIfInBounds (g.eta r) (.stringIter s (p+(Utf8.decode s p).2)) }) E H hr (es':=[(.slc [[],[.str s.data.toList]],.int .i64 (p+(Utf8.decode s p).2:Nat))]) (.inr ⟨s,_,rfl,rfl⟩) S hlo rfl
  refine ⟨_,.tuple #[.bool true,goInt p,.int .i32 (Utf8.decode s p).1],?_,S',E',?_⟩
  ·simp [execOp,ho,Instr.next,hv',run_getObj_iter hb,run_setObj_iter _ hb,hp,Result.andThen]
  ·rw [if_pos (by rw [hsz];exact hp)]
   refine ⟨H',.tup _ _ rfl fun j u c hu hc=>?_⟩
   match j with
   | 0=>simp at hu hc;subst hu hc;exact .bool true
   | 1=>simp at hu hc;subst hu hc;exact .int _ _
   | 2=>simp at hu hc;subst hu hc;exact .int _ _
   | j+3=>simp at hu
 ·refine ⟨w,.tuple #[.bool false],?_,⟨S,Nat.le_refl _⟩,E,?_⟩
  ·simp [execOp,ho,Instr.next,hv',run_getObj_iter hb,hp,Result.andThen]
  ·rw [if_neg (by rw [hsz];exact hp)]
   refine ⟨H,.tup _ _ rfl fun j u c hu hc=>?_⟩
   match j with
   | 0=>simp at hu hc;subst hu hc;exact .bool false
   | j+1=>simp at hu
end
end Go.Sim
end
