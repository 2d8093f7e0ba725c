/- Abstract values for Go programs: what a value and a heap stand for, and when that is kept. -/
import Derived.WalkKit
import Derived.Laws.AppendOwn
import Derived.DataElems
import Derived.RangeFuncFrom
import Derived.RangeFuncLeaves
namespace Go.Sim
open Go

/-- What a Go value stands for: scalars, structs (flat cells), frozen slices (data), slices and pointers into roots (mutable memory of the call's own). -/
inductive AVal : Type
  | prim (v : Value)
  | int (k : IntKind) (n : Int)
  | bool (b : Bool)
  | str (l : List UInt8)
  | agg (cs : List AVal)
  | slc (es : List (List AVal))
  | emp
  | osl (r sz i n : Nat)
  | ptr (r i j : Nat)
  | pin (cs : List AVal)
  | vp (r j : Nat)
  | anyp
  | fn (f : Nat) (first captured : List AVal)
  | tup (vs : List AVal)
  | dead

/-- A root: an array (or one variable) of the call's own: the element's type, its number of cells, the known elements. -/
structure AObj where
  ty : TypeId
  sz : Nat
  es : List (List AVal)

abbrev Env := Nat → AVal
abbrev Heap := Nat → Option AObj

def upd {α : Type} (f : Nat → α) (d : Nat) (v : α) : Nat → α := fun t => if t = d then v else f t
theorem upd_apply {α : Type} (f : Nat → α) (d : Nat) (v : α) (t : Nat) : upd f d v t = if t = d then v else f t := rfl
@[simp] theorem upd_same {α : Type} (f : Nat → α) (d : Nat) (v : α) : upd f d v d = v := by simp [upd]
theorem upd_ne {α : Type} (f : Nat → α) {d t : Nat} (v : α) (h : t ≠ d) : upd f d v t = f t := by simp [upd, h]

/-- Where the roots lie: block, base offset, capacity (elements from the base on), cells of an element; the next free root's number; the blocks that no one changes any more. -/
structure Ghost where
  eta : Nat → Nat
  bo : Nat → Nat
  cap : Nat → Nat
  sz : Nat → Nat
  nxt : Nat
  fz : Nat → Prop

inductive VRel (g : Ghost) (w : World) : Value → AVal → Prop
  | prim (v : Value) : VRel g w v (.prim v)
  | int (k : IntKind) (n : Int) : VRel g w (.int k n) (.int k n)
  | bool (b : Bool) : VRel g w (.bool b) (.bool b)
  | str (s : ByteArray) : VRel g w (.string s) (.str s.data.toList)
  | agg (vs : Array Value) (cs : List AVal) (hl : vs.size = cs.length) (h1 : ∀ (j : Nat) (u : Value), vs[j]? = some u → u.oneCell' = true)
      (h : ∀ (j : Nat) (u : Value) (c : AVal), vs[j]? = some u → cs[j]? = some c → VRel g w u c) : VRel g w (.agg vs) (.agg cs)
  | slc0 (A : Option Addr) (c : Nat) : VRel g w (.slice A 0 c) (.slc [])
  | slc (ad : Addr) (n c sz : Nat) (es : List (List AVal)) (us : Nat → Nat → Value) (hn : es.length = n) (hc : n ≤ c)
      (hsz : ∀ e ∈ es, e.length = sz) (hs : ad.spot = none) (hf : g.fz ad.block)
      (h1 : ∀ (i j : Nat) (e : List AVal) (a : AVal), es[i]? = some e → e[j]? = some a → w.cell? (ad.add (i * sz + j)) = some (us i j))
      (h2 : ∀ (i j : Nat) (e : List AVal) (a : AVal), es[i]? = some e → e[j]? = some a → (us i j).oneCell' = true)
      (h3 : ∀ (i j : Nat) (e : List AVal) (a : AVal), es[i]? = some e → e[j]? = some a → VRel g w (us i j) a) : VRel g w (.slice (some ad) n c) (.slc es)
  | emp0 : VRel g w (.slice none 0 0) .emp
  | empS (ad : Addr) (hs : ad.spot = none) (hf : g.fz ad.block) (hc : ∃ cur t f, w.heap[ad.block]? = some (.cells cur t f)) : VRel g w (.slice (some ad) 0 0) .emp
  | osl0 (r sz : Nat) (hr : r < g.nxt) (hc : g.cap r = 0) (hz : g.sz r = sz) : VRel g w (.slice none 0 0) (.osl r sz 0 0)
  | osl (r sz i n cap off : Nat) (hr : r < g.nxt) (hz : g.sz r = sz) (hc : n ≤ cap) (hm : cap ≤ maxLen) (hi : i + cap = g.cap r) (ho : 0 < cap → off = g.bo r + i * sz) :
      VRel g w (.slice (some ⟨g.eta r, off, none⟩) n cap) (.osl r sz i n)
  | ptr (r i j : Nat) (hr : r < g.nxt) : VRel g w (.pointer (some ⟨g.eta r, g.bo r + i * g.sz r + j, none⟩)) (.ptr r i j)
  | vp (r j : Nat) (hr : r < g.nxt) (hb : g.bo r = 0) (hc : g.cap r = 1) : VRel g w (.pointer (some ⟨g.eta r, j, none⟩)) (.vp r j)
  | anyp (q : Option Addr) : VRel g w (.pointer q) .anyp
  | pin (ad : Addr) (cs : List AVal) (us : Nat → Value) (hs : ad.spot = none) (hf : g.fz ad.block)
      (h1 : ∀ (j : Nat) (a : AVal), cs[j]? = some a → w.cell? (ad.add j) = some (us j))
      (h2 : ∀ (j : Nat) (a : AVal), cs[j]? = some a → (us j).oneCell' = true)
      (h3 : ∀ (j : Nat) (a : AVal), cs[j]? = some a → VRel g w (us j) a) : VRel g w (.pointer (some ad)) (.pin cs)
  | fn (f : Nat) (fs cs : Array Value) (as bs : List AVal) (hf : fs.size = as.length) (hc : cs.size = bs.length)
      (h1 : ∀ (j : Nat) (u : Value) (a : AVal), fs[j]? = some u → as[j]? = some a → VRel g w u a)
      (h2 : ∀ (j : Nat) (u : Value) (a : AVal), cs[j]? = some u → bs[j]? = some a → VRel g w u a) : VRel g w (.func (.func f) fs cs) (.fn f as bs)
  | tup (vs : Array Value) (as : List AVal) (hl : vs.size = as.length)
      (h : ∀ (j : Nat) (u : Value) (a : AVal), vs[j]? = some u → as[j]? = some a → VRel g w u a) : VRel g w (.tuple vs) (.tup as)
  | dead (v : Value) : VRel g w v .dead

/-- The world and the ghost have gone on: nothing frozen has changed, old roots lie where they lay. -/
structure GStep (g : Ghost) (w : World) (g' : Ghost) (w' : World) : Prop where
  nxt : g.nxt ≤ g'.nxt
  eta : ∀ r, r < g.nxt → g'.eta r = g.eta r
  bo : ∀ r, r < g.nxt → g'.bo r = g.bo r
  cap : ∀ r, r < g.nxt → g'.cap r = g.cap r
  sz : ∀ r, r < g.nxt → g'.sz r = g.sz r
  fz : ∀ b, g.fz b → g'.fz b
  keep : ∀ b, g.fz b → w'.heap[b]? = w.heap[b]?
  os : w'.os = w.os
  tape : w'.tape = w.tape
  output : w'.output = w.output
  size : w.heap.size ≤ w'.heap.size

theorem GStep.refl (g : Ghost) (w : World) : GStep g w g w :=
  ⟨Nat.le_refl _, fun _ _ => rfl, fun _ _ => rfl, fun _ _ => rfl, fun _ _ => rfl, fun _ h => h, fun _ _ => rfl, rfl, rfl, rfl, Nat.le_refl _⟩
theorem GStep.trans {g g1 g2 : Ghost} {w w1 w2 : World} (h : GStep g w g1 w1) (k : GStep g1 w1 g2 w2) : GStep g w g2 w2 :=
  ⟨Nat.le_trans h.nxt k.nxt, fun r hr => (k.eta r (Nat.lt_of_lt_of_le hr h.nxt)).trans (h.eta r hr), fun r hr => (k.bo r (Nat.lt_of_lt_of_le hr h.nxt)).trans (h.bo r hr),
    fun r hr => (k.cap r (Nat.lt_of_lt_of_le hr h.nxt)).trans (h.cap r hr), fun r hr => (k.sz r (Nat.lt_of_lt_of_le hr h.nxt)).trans (h.sz r hr),
    fun b hb => k.fz b (h.fz b hb), fun b hb => (k.keep b (h.fz b hb)).trans (h.keep b hb), k.os.trans h.os, k.tape.trans h.tape, k.output.trans h.output, Nat.le_trans h.size k.size⟩

/-- the blocks that roots have, or have had -/
def Own (g : Ghost) (b : Nat) : Prop := ∃ r, r < g.nxt ∧ g.cap r ≠ 0 ∧ g.eta r = b
def NonCells (w : World) (b : Nat) : Prop := ∃ o, w.heap[b]? = some o ∧ o.isCells = false
/-- .. and what no root has lies as it lay. -/
structure GS (g : Ghost) (w : World) (g' : Ghost) (w' : World) : Prop extends GStep g w g' w' where
  own : ∀ b, b < w.heap.size → (¬ Own g b ∨ NonCells w b) → w'.heap[b]? = w.heap[b]?
  new : ∀ b, b < w.heap.size → Own g' b → Own g b
  fzn : ∀ b, b < w.heap.size → ¬ Own g b → g'.fz b → g.fz b
  fzc : ∀ b, g'.fz b → g.fz b ∨ ¬ NonCells w' b
instance (g : Ghost) (w : World) (g' : Ghost) (w' : World) : Coe (GS g w g' w') (GStep g w g' w') := ⟨GS.toGStep⟩
theorem GS.refl (g : Ghost) (w : World) : GS g w g w := ⟨GStep.refl g w, fun _ _ _ => rfl, fun _ _ h => h, fun _ _ _ h => h, fun _ h => .inl h⟩
theorem GS.trans {g g1 g2 : Ghost} {w w1 w2 : World} (h : GS g w g1 w1) (k : GS g1 w1 g2 w2) : GS g w g2 w2 :=
  ⟨h.toGStep.trans k.toGStep, fun b hb hn => by
      have e := h.own b hb hn
      refine (k.own b (Nat.lt_of_lt_of_le hb h.size) ?_).trans e
      rcases hn with hn | ⟨o, ho, hc⟩
      · exact .inl fun ho => hn (h.new b hb ho)
      · exact .inr ⟨o, e.trans ho, hc⟩,
    fun b hb ho => h.new b hb (k.new b (Nat.lt_of_lt_of_le hb h.size) ho),
    fun b hb hn hf => h.fzn b hb hn (k.fzn b (Nat.lt_of_lt_of_le hb h.size) (fun ho => hn (h.new b hb ho)) hf),
    fun b hf => by
      rcases k.fzc b hf with h1 | h1
      · rcases h.fzc b h1 with h2 | h2
        · exact .inl h2
        · exact .inr fun ⟨o, ho, hc⟩ => h2 ⟨o, (k.keep b h1).symm.trans ho, hc⟩
      · exact .inr h1⟩

theorem Addr.block_add (a : Addr) (n : Nat) : (a.add n).block = a.block := by unfold Addr.add; split <;> rfl
theorem Addr.add_add' (a : Addr) (i j : Nat) : (a.add i).add j = a.add (i + j) := by
  unfold Addr.add
  by_cases hi : i = 0 <;> by_cases hj : j = 0 <;> simp [hi, hj, Nat.add_assoc]

theorem VRel.step {g g' : Ghost} {w w' : World} (hs : GStep g w g' w') {v : Value} {a : AVal} (h : VRel g w v a) : VRel g' w' v a := by
  have hcell : ∀ ad : Addr, g.fz ad.block → w'.cell? ad = w.cell? ad := fun ad hb => World.cell?_of_block (hs.keep _ hb)
  induction h with
  | prim v => exact .prim v
  | int k n => exact .int k n
  | bool b => exact .bool b
  | str s => exact .str s
  | agg vs cs hl h1 _ ih => exact .agg vs cs hl h1 ih
  | slc0 A c => exact .slc0 A c
  | slc ad n c sz es us hn hc hsz hsp hf h1 h2 _ ih =>
    exact .slc ad n c sz es us hn hc hsz hsp (hs.fz _ hf) (fun i j e a he ha => (hcell _ (by rw [Addr.block_add]; exact hf)).trans (h1 i j e a he ha)) h2 ih
  | emp0 => exact .emp0
  | empS ad hsp hf hc => exact .empS ad hsp (hs.fz _ hf) (by rw [hs.keep _ hf]; exact hc)
  | osl0 r sz hr hc hz => exact .osl0 r sz (Nat.lt_of_lt_of_le hr hs.nxt) ((hs.cap r hr).trans hc) ((hs.sz r hr).trans hz)
  | osl r sz i n cap off hr hz hc hm hi ho =>
    rw [← hs.eta r hr]
    exact .osl r sz i n cap off (Nat.lt_of_lt_of_le hr hs.nxt) ((hs.sz r hr).trans hz) hc hm (hi.trans (hs.cap r hr).symm) (fun h0 => by rw [hs.bo r hr]; exact ho h0)
  | ptr r i j hr =>
    rw [← hs.eta r hr, ← hs.bo r hr, ← hs.sz r hr]
    exact .ptr r i j (Nat.lt_of_lt_of_le hr hs.nxt)
  | vp r j hr hb hc =>
    rw [← hs.eta r hr]
    exact .vp r j (Nat.lt_of_lt_of_le hr hs.nxt) ((hs.bo r hr).trans hb) ((hs.cap r hr).trans hc)
  | anyp q => exact .anyp q
  | pin ad cs us hsp hf h1 h2 _ ih =>
    exact .pin ad cs us hsp (hs.fz _ hf) (fun j a ha => (hcell _ (by rw [Addr.block_add]; exact hf)).trans (h1 j a ha)) h2 ih
  | fn f fs cs as bs hf hc _ _ ih1 ih2 => exact .fn f fs cs as bs hf hc ih1 ih2
  | tup vs as hl _ ih => exact .tup vs as hl ih
  | dead v => exact .dead v

/-- a pointer to a variable, as one into a root -/
def deVp : AVal → AVal
  | .vp r j => .ptr r 0 j
  | x => x
theorem VRel.deVp {g : Ghost} {w : World} {v : Value} {a : AVal} (h : VRel g w v a) : VRel g w v (deVp a) := by
  cases h with
  | vp r j hr hb hc =>
    have := VRel.ptr (g := g) (w := w) r 0 j hr
    simpa [hb, Sim.deVp] using this
  | _ => constructor <;> assumption
/-- Lists of values and of abstract values, one by one. -/
def VRelL (g : Ghost) (w : World) (vs : Array Value) (as : List AVal) : Prop :=
  vs.size = as.length ∧ ∀ (j : Nat) (u : Value) (a : AVal), vs[j]? = some u → as[j]? = some a → VRel g w u a
theorem VRelL.step {g g' : Ghost} {w w' : World} (hs : GStep g w g' w') {vs : Array Value} {as : List AVal} (h : VRelL g w vs as) : VRelL g' w' vs as :=
  ⟨h.1, fun j u a hu ha => (h.2 j u a hu ha).step hs⟩

/-- What a root's block holds. -/
structure ORel (g : Ghost) (w : World) (r : Nat) (o : AObj) : Prop where
  lt : r < g.nxt
  sz : g.sz r = o.sz
  pos : 0 < o.sz
  len : ∀ e ∈ o.es, e.length = o.sz
  le : o.es.length ≤ g.cap r
  block : g.cap r = 0 ∨ (g.eta r < w.heap.size ∧ ¬ g.fz (g.eta r) ∧ ∃ cur : Array Value, w.heap[g.eta r]? = some (.cells cur o.ty (0, 0)) ∧
    g.bo r + g.cap r * o.sz = cur.size ∧
    ∀ (i j : Nat) (e : List AVal) (a : AVal), o.es[i]? = some e → e[j]? = some a → ∃ u : Value, cur[g.bo r + (i * o.sz + j)]? = some u ∧ u.oneCell' = true ∧ VRel g w u a)

structure HRel (h : Heap) (g : Ghost) (w : World) : Prop where
  obj : ∀ r o, h r = some o → ORel g w r o
  inj : ∀ r r' o o', h r = some o → h r' = some o' → g.cap r ≠ 0 → g.cap r' ≠ 0 → g.eta r = g.eta r' → r = r'
  fz : ∀ b, g.fz b → b < w.heap.size
  ow : ∀ b, Own g b → ∃ cur t f, w.heap[b]? = some (.cells cur t f)

theorem HRel.none_nxt {h : Heap} {g : Ghost} {w : World} (H : HRel h g w) : h g.nxt = none := by
  cases hh : h g.nxt with
  | none => rfl
  | some o => exact absurd (H.obj _ _ hh).lt (Nat.lt_irrefl _)

/-- What the pointers to the package-level variables stand for. -/
abbrev Glob := Nat → AVal
/-- data: no root is named -/
inductive Dat : AVal → Prop
  | prim (v : Value) : Dat (.prim v)
  | int (k : IntKind) (n : Int) : Dat (.int k n)
  | bool (b : Bool) : Dat (.bool b)
  | str (l : List UInt8) : Dat (.str l)
  | agg (cs : List AVal) (h : ∀ c ∈ cs, Dat c) : Dat (.agg cs)
  | slc (es : List (List AVal)) (h : ∀ e ∈ es, ∀ c ∈ e, Dat c) : Dat (.slc es)
  | emp : Dat .emp
  | pin (cs : List AVal) (h : ∀ c ∈ cs, Dat c) : Dat (.pin cs)
  | tup (cs : List AVal) (h : ∀ c ∈ cs, Dat c) : Dat (.tup cs)
  | dead : Dat .dead
def GRel (G : Glob) (g : Ghost) (w : World) : Prop := ∀ b, Dat (G b) ∧ VRel g w (.pointer (some ⟨b, 0, none⟩)) (G b)
theorem GRel.step {G : Glob} {g g' : Ghost} {w w' : World} (hs : GStep g w g' w') (h : GRel G g w) : GRel G g' w' := fun b => ⟨(h b).1, (h b).2.step hs⟩
/-- A program, and what its package-level variables stand for. -/
structure PG where
  p : Program
  gl : Glob
instance : Coe PG Program := ⟨PG.p⟩
/-- The marks that ranges over functions have left with the frame. -/
structure DOK (g : Ghost) (w : World) (ds : List Deferred) : Prop where
  one : ∀ d ∈ ds, ∃ D, d = { target := .collected D, args := #[] } ∧ w.heap[D]? = some (.deferred (some [])) ∧ ¬ Own g D ∧ ¬ g.fz D
  two : ds.Pairwise (· ≠ ·)
theorem DOK.nil (g : Ghost) (w : World) : DOK g w [] := ⟨(fun d hd => by cases hd), .nil⟩
theorem DOK.step {g g' : Ghost} {w w' : World} {ds : List Deferred} (hs : GS g w g' w') (h : DOK g w ds) : DOK g' w' ds := by
  refine ⟨fun d hd => ?_, h.two⟩
  obtain ⟨D, e, hD, ho, hf⟩ := h.one d hd
  have hlt : D < w.heap.size := (Array.getElem?_eq_some_iff.1 hD).1
  exact ⟨D, e, (hs.own D hlt (.inl ho)).trans hD, fun h => ho (hs.new D hlt h), fun h => hf (hs.fzn D hlt ho h)⟩
/-- The frame's slots; from the millionth on the package-level variables. -/
structure ERel (n : Nat) (e : Env) (g : Ghost) (w : World) (a : Act) : Prop where
  defers : DOK g w a.defers
  size : a.tmps.size = n
  bnd : n ≤ 1000000
  slot : ∀ t, t < 1000000 → VRel g w (a.tmps.getD t undef) (e t)
  glo : ∀ b, VRel g w (.pointer (some ⟨b, 0, none⟩)) (e (1000000 + b))
theorem ERel.step {n : Nat} {e : Env} {g g' : Ghost} {w w' : World} {a : Act} (hs : GS g w g' w') (h : ERel n e g w a) : ERel n e g' w' a :=
  ⟨h.defers.step hs, h.size, h.bnd, fun t ht => (h.slot t ht).step hs, fun b => (h.glo b).step hs⟩
def setD (e : Env) : Option Nat → AVal → Env
  | some d, v => upd e d v
  | none, _ => e
theorem ERel.put {n : Nat} {e : Env} {g : Ghost} {w : World} {a : Act} (h : ERel n e g w a) {dst : Option Nat} (hd : ∀ d, dst = some d → d < n) {v : Value} {x : AVal} (hv : VRel g w v x) :
    ERel n (setD e dst x) g w (a.put dst v) := by
  cases dst with
  | none => exact h
  | some d =>
    have hlt : d < a.tmps.size := by rw [h.size]; exact hd d rfl
    refine ⟨h.defers, by simp [Act.put, h.size], h.bnd, fun t h6 => ?_, fun b => by
      have := h.bnd; have := hd d rfl
      rw [setD, upd_ne _ _ (by omega)]; exact h.glo b⟩
    simp only [Act.put, setD, upd]
    by_cases ht : t = d
    · subst ht
      rw [if_pos rfl]
      have : (a.tmps.setIfInBounds t v).getD t undef = v := by simp [Array.getD, hlt]
      rw [this]
      exact hv
    · rw [if_neg ht]
      have : (a.tmps.setIfInBounds d v).getD t undef = a.tmps.getD t undef := by
        simp only [Array.getD_eq_getD_getElem?, Array.getElem?_setIfInBounds]
        rw [if_neg (fun h => ht h.symm)]
      rw [this]
      exact h.slot t h6

end Go.Sim
