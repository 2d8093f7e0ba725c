/- Texts of this claim, one behind the other. -/
import Derived.Test.YtggekcghfpfmiaaDoorM5
import Derived.Test.YtggekcghfpfmiaaDoorM4
section
/- What a node's words are; the index of a document (plain); lists of refs as data. -/
set_option linter.unusedSimpArgs false
set_option linter.unusedVariables false
namespace Go.Proofs.K
open Go Go.Sim Go.Proofs
theorem addW_nodup {L : List (List UInt8)} (h : L.Nodup) (w : List UInt8) : (addW L w).Nodup := by
  unfold addW
  split
  · exact h
  · rename_i q
    rw [List.nodup_append]
    refine ⟨h, by simp, fun a ha b hb => ?_⟩
    rw [List.mem_singleton] at hb
    subst hb
    exact fun e => q (.inr (by rw [← e]; exact ha))
theorem wordsM_nodup (s : List UInt8) : (wordsM s).Nodup := by
  unfold wordsM
  suffices h : ∀ (F L : List (List UInt8)), L.Nodup → (F.foldl addW L).Nodup from h _ _ List.nodup_nil
  intro F
  induction F with
  | nil => exact fun L h => h
  | cons x r ih => exact fun L h => ih _ (addW_nodup h x)
theorem one1_nodup (s : List UInt8) : (one1 s).Nodup ∧ (one1 s).length ≤ 1 := by
  unfold one1; split <;> simp
theorem words4_wok (x : HNode) (hs : (attV x.attrs classS).length ≤ 400) : WOK (words4 x) := by
  have h1 := one1_nodup (attV x.attrs idS)
  have h2 := wordsM_nodup (attV x.attrs classS)
  have h3 := wordsM_len (attV x.attrs classS)
  have h4 := one1_nodup (attV x.attrs nameS)
  have c0 : ∀ (a b c d : List (List UInt8)), nth [a, b, c, d] 0 = a := fun _ _ _ _ => rfl
  have c1 : ∀ (a b c d : List (List UInt8)), nth [a, b, c, d] 1 = b := fun _ _ _ _ => rfl
  have c2 : ∀ (a b c d : List (List UInt8)), nth [a, b, c, d] 2 = c := fun _ _ _ _ => rfl
  have c3 : ∀ (a b c d : List (List UInt8)), nth [a, b, c, d] 3 = d := fun _ _ _ _ => rfl
  unfold words4
  split
  · refine ⟨rfl, fun c hc => ?_, fun c hc => ?_⟩
    · rcases (show c = 0 ∨ c = 1 ∨ c = 2 ∨ c = 3 by omega) with rfl | rfl | rfl | rfl <;> simp only [c0, c1, c2, c3, List.nodup_nil]
    · rcases (show c = 0 ∨ c = 1 ∨ c = 2 ∨ c = 3 by omega) with rfl | rfl | rfl | rfl <;> simp only [c0, c1, c2, c3, List.length_nil] <;> omega
  · refine ⟨rfl, fun c hc => ?_, fun c hc => ?_⟩
    · rcases (show c = 0 ∨ c = 1 ∨ c = 2 ∨ c = 3 by omega) with rfl | rfl | rfl | rfl <;> simp only [c0, c1, c2, c3]
      · exact h1.1
      · exact h2
      · simp
      · exact h4.1
    · rcases (show c = 0 ∨ c = 1 ∨ c = 2 ∨ c = 3 by omega) with rfl | rfl | rfl | rfl <;> simp only [c0, c1, c2, c3]
      · omega
      · omega
      · simp
      · omega
theorem attV_le {x : HNode} (h : nodeE x = 0) (nm : List UInt8) : (attV x.attrs nm).length ≤ 400 := by
  have h1 := ((attrsE_iff _).1 ((nodeE_iff _).1 h).2.2.2.1).2.1
  unfold attV
  split
  · by_cases hk : (attrAt x.attrs nm).toNat < x.attrs.length
    · exact (h1 _ (nth_mem' hk)).2
    · rw [nth_def hk]; decide
  · simp
theorem words4_dv {d : HDoc} (V : DV d) {n : Int} (hn : inD d n) : WOK (words4 (nd d n)) := words4_wok _ (attV_le (V.node n hn) _)
/-- what the nodes l put into list c -/
def prsD (d : HDoc) (l : List Int) (c : Nat) : Pairs := l.flatMap fun n => prs (nth (words4 (nd d n)) c) n
theorem prsD_snoc (d : HDoc) (l : List Int) (n : Int) (c : Nat) : prsD d (l ++ [n]) c = prsD d l c ++ prs (nth (words4 (nd d n)) c) n := by
  unfold prsD; rw [List.flatMap_append]; simp
theorem mem_prsD {d : HDoc} {l : List Int} {c : Nat} {w : List UInt8} {m : Int} (h : (w, m) ∈ prsD d l c) : m ∈ l := by
  obtain ⟨n, hn, h2⟩ := List.mem_flatMap.1 h
  rw [(mem_prs h2).2]; exact hn
theorem prsD_len {d : HDoc} (V : DV d) : ∀ {l : List Int}, (∀ n ∈ l, inD d n) → ∀ {c : Nat}, c < 4 → (prsD d l c).length ≤ l.length * 420 := fun {l} => by
  induction l with
  | nil => intro _ c _; exact Nat.le_refl _
  | cons n r ih =>
    intro hl c hc
    have h1 := ih (fun m hm => hl m (List.mem_cons_of_mem _ hm)) hc
    have h2 := (words4_dv V (hl n List.mem_cons_self)).le c hc
    unfold prsD at h1 ⊢
    rw [List.flatMap_cons, List.length_append, prs_len, List.length_cons]
    omega
structure HIdx where
  ids : List HRef
  classes : List HRef
  tags : List HRef
  names : List HRef
deriving DecidableEq, Inhabited
def eIdx (x : HIdx) : List AVal := [sl eRef x.ids, sl eRef x.classes, sl eRef x.tags, sl eRef x.names]
def idxC (d : HDoc) (c : Nat) : List HRef := idxL (prsD d (below d 0) c)
def idxD (d : HDoc) : HIdx := ⟨idxC d 0, idxC d 1, idxC d 2, idxC d 3⟩
theorem idxC_is (d : HDoc) (c : Nat) : Spec (idxC d c) (prsD d (below d 0) c) := idxL_is _
/-! ## as data -/
theorem rows_map {α : Type} [Inhabited α] (l : List α) (f : α → List AVal) : l.map f = (List.range l.length).map fun i => f (nth l i) := by
  apply List.ext_getElem?
  intro j
  by_cases hj : j < l.length
  · rw [List.getElem?_map, List.getElem?_map, List.getElem?_range hj, nth_some hj]; rfl
  · rw [List.getElem?_eq_none (by simp; omega), List.getElem?_eq_none (by simp; omega)]
theorem rowsR_vw {h : Heap} {l : List HRef} {nv : Nat → AVal} (hn : ∀ j, j < l.length → Vw h (nv j) (sl eInt (nth l j).nodes)) : F2 (F2 (Vw h)) (rowsR l nv) (l.map eRef) := by
  rw [rows_map]
  unfold rowsR
  have gen : ∀ m : List Nat, (∀ i ∈ m, i < l.length) → F2 (F2 (Vw h)) (m.map (rowR l nv)) (m.map fun i => eRef (nth l i)) := fun m => by
    induction m with
    | nil => intro _; exact .nil
    | cons i m ih => intro hl; exact .cons (.cons (.refl _) (.cons (hn i (hl i List.mem_cons_self)) .nil)) (ih fun j hj => hl j (List.mem_cons_of_mem _ hj))
  exact gen _ fun i hi => List.mem_range.1 hi
/-- lists of one's own: data -/
theorem OwnS.vwN {α : Type} [Inhabited α] {enc : α → List AVal} {h0 h : Heap} {ty sz : Nat} [LenE enc sz] {l : List α} {a : AVal} (O : OwnS h ty sz (l.map enc) a) (hf : ∀ r, rootOf a = some r → h0 r = none) : Vw (newH h0 h) a (sl enc l) :=
  OwnS.vw (O.keep fun r o hr ho => by rw [newH_none (hf r hr)]; exact ho)
theorem spine_vwN {h0 h : Heap} {a : AVal} {l : List HRef} {nv : Nat → AVal} (O : OwnS h 45 2 (rowsR l nv) a) (M : Mut a) (hf : ∀ r, rootOf a = some r → h0 r = none)
    (hn : ∀ j, j < l.length → OwnS h 3 1 ((nth l j).nodes.map eInt) (nv j) ∧ ∀ r, rootOf (nv j) = some r → h0 r = none) : Vw (newH h0 h) a (sl eRef l) := by
  rcases O.live M with ⟨h1, h2⟩ | ⟨r, es, h1, h2, h3, h4⟩
  · have : l = [] := List.eq_nil_of_length_eq_zero (by rw [← rowsR_len l nv, h1]; rfl)
    subst this; rw [h2]; exact .emp
  · subst h1
    rw [rowsR_len] at h3 h4 ⊢
    refine Vw.osl0 (o := ⟨45, 2, es⟩) (by rw [newH_none (hf r rfl)]; exact h2) (by rw [List.length_map]) h3 (fun f hf' => by obtain ⟨x, _, rfl⟩ := List.mem_map.1 hf'; rfl) ?_
    have key := rowsR_vw (h := newH h0 h) fun j hj => (hn j hj).1.vwN (hn j hj).2
    show F2 (F2 (Vw (newH h0 h))) (es.take l.length) (l.map eRef)
    rw [h4]; exact key
theorem RefAt.vwN {h0 h : Heap} {a : AVal} {l : List HRef} {nv : Nat → AVal} {F : Nat → Prop} (R : RefAt h a l nv F) (hF : ∀ r, F r → h0 r = none) : Vw (newH h0 h) a (sl eRef l) :=
  spine_vwN R.own R.mt (fun r hr => hF r (R.inF r hr)) fun j hj => ⟨(R.num j hj).1, fun r hr => hF r ((R.num j hj).2.2 r hr).1⟩
end Go.Proofs.K
end
section
/- Ways through a tree: the plain law. -/
set_option linter.unusedSimpArgs false
set_option linter.unusedVariables false
namespace Go.Proofs.K
open Go Go.Sim Go.Proofs

section
variable {d : HDoc}
end
end Go.Proofs.K
end
section
/- Ways through a tree: contracts. -/
set_option linter.unusedSimpArgs false
set_option linter.unusedVariables false
namespace Go.Proofs.K
open Go Go.Sim Go.Proofs
variable {G : Glob}

section
variable {d : HDoc}
end
end Go.Proofs.K
end
section
/- Ways through a tree: check, Step; the reference. -/
set_option linter.unusedSimpArgs false
set_option linter.unusedVariables false
namespace Go.Proofs.K
open Go Go.Sim Go.Proofs
variable {G : Glob}
theorem eDoc_len (d : HDoc) : (eDoc d).length = 2 := rfl
theorem eDoc_take (d : HDoc) : (eDoc d).take 2 = eDoc d := rfl
theorem docE_DV {d : HDoc} (h : docE d = 0) : DV d := (docE_iff d).1 h
end Go.Proofs.K
end
section
/- Ways through a tree: the reference's WalkStep; Common; what must be in any case. -/
set_option linter.unusedSimpArgs false
set_option linter.unusedVariables false
namespace Go.Proofs.K
open Go Go.Sim Go.Proofs
variable {G : Glob}
section
variable {d : HDoc} {n : Int} {A B : List Int}
end
/-! ## the common node -/
/-- a result's weaker reading -/
theorem DCalls.res {P : PG} {f : Nat} {args : List AVal} {h : Heap} {K K' : AVal → Heap → Prop} (hd : DCalls P f args h K) (hk : ∀ a h', K a h' → ∃ b, Wk a b ∧ K' b h') : DCalls P f args h K' :=
  ⟨hd.1, fun g w vs H GR V => (hd.2 g w vs H GR V).mono fun e w' ⟨v', a, h', g', he, k0, H', Va, S⟩ => by
    obtain ⟨b, hb, k1⟩ := hk a h' k0
    exact ⟨v', b, h', g', he, k1, H', hb.rel Va, S⟩⟩
end Go.Proofs.K
end
section
/- Ways through a tree: the law of Step. -/
set_option linter.unusedSimpArgs false
set_option linter.unusedVariables false
namespace Go.Proofs.K
open Go Go.Sim Go.Proofs
variable {G : Glob}
end Go.Proofs.K
end
section
/- Ways through a tree: pairs of nodes, plain law. -/
set_option linter.unusedSimpArgs false
set_option linter.unusedVariables false
namespace Go.Proofs.K
open Go Go.Sim Go.Proofs
section
variable {d : HDoc}
def path (d : HDoc) (n : Int) : List Int := (chain d n).reverse
theorem path_len (V : DV d) {n : Int} (hn : inD d n) : (path d n).length = up d n + 1 := by unfold path; rw [List.length_reverse, chain_len V n hn]
theorem path_up (V : DV d) {n : Int} (hn : inD d n) (hp : 0 ≤ (nd d n).parent) : path d n = path d (nd d n).parent ++ [n] := by unfold path; rw [chain_up V hn hp, List.reverse_cons]
theorem path_top (V : DV d) {n : Int} (hp : ¬ 0 ≤ (nd d n).parent) : path d n = [n] := by unfold path; rw [chain_top V hp]; rfl
theorem nth_snoc_lt {l : List Int} {x : Int} {j : Nat} (h : j < l.length) : nth (l ++ [x]) j = nth l j := by
  unfold nth; rw [List.getD_eq_getElem?_getD, List.getElem?_append_left h, ← List.getD_eq_getElem?_getD]
theorem nth_snoc_eq {l : List Int} {x : Int} : nth (l ++ [x]) l.length = x := by simp [nth, List.getD_eq_getElem?_getD]
theorem path_at (V : DV d) : ∀ n, inD d n → ∀ j, j ≤ up d n → nth (path d n) j ∈ chain d n ∧ up d (nth (path d n) j) = j := V.rise fun n hn ih j hj => by
  by_cases hp : 0 ≤ (nd d n).parent
  · have hu := V.up_par hn hp
    have hl := path_len V (V.par_in hn hp).1
    rw [path_up V hn hp]
    by_cases h1 : j = up d n
    · have : j = (path d (nd d n).parent).length := by omega
      rw [this, nth_snoc_eq]; exact ⟨chain_self _ _, by omega⟩
    · obtain ⟨h2, h3⟩ := ih hp j (by omega)
      rw [nth_snoc_lt (by omega)]
      exact ⟨by rw [chain_up V hn hp]; exact List.mem_cons_of_mem _ h2, h3⟩
  · have hu := V.up_top hp
    obtain rfl : j = 0 := by omega
    rw [path_top V hp]; exact ⟨chain_self _ _, hu⟩
/-- where the ways down to two nodes part -/
structure Part (d : HDoc) (a b : Int) (i : Nat) : Prop where
  pos : 1 ≤ i
  la : i ≤ (path d a).length
  lb : i ≤ (path d b).length
  eq : ∀ j, j < i → nth (path d a) j = nth (path d b) j
  ne : ¬ (i < (path d a).length ∧ i < (path d b).length ∧ nth (path d a) i = nth (path d b) i)
variable {a b : Int} {i : Nat}
theorem Part.node (V : DV d) (ha : inD d a) (hb : inD d b) (p : Part d a b i) : nth (path d a) (i - 1) ∈ chain d a ∧ nth (path d a) (i - 1) ∈ chain d b ∧ up d (nth (path d a) (i - 1)) = i - 1 := by
  have h1 := path_at V a ha (i - 1) (by have := p.la; rw [path_len V ha] at this; omega)
  have h2 := path_at V b hb (i - 1) (by have := p.lb; rw [path_len V hb] at this; omega)
  exact ⟨h1.1, by rw [p.eq _ (by have := p.pos; omega)]; exact h2.1, h1.2⟩
end
end Go.Proofs.K
end
section
/- Ways through a tree: Before, Within, Common, Place. -/
set_option linter.unusedSimpArgs false
set_option linter.unusedVariables false
namespace Go.Proofs.K
open Go Go.Sim Go.Proofs
variable {G : Glob}
end Go.Proofs.K
end
section
/- Ways through a tree: the law of pairs. -/
set_option linter.unusedSimpArgs false
set_option linter.unusedVariables false
namespace Go.Proofs.K
open Go Go.Sim Go.Proofs
variable {G : Glob}
end Go.Proofs.K
end
section
/- Ranges: paths of points, their order. -/
set_option linter.unusedSimpArgs false
set_option linter.unusedVariables false
namespace Go.Proofs.K
open Go Go.Sim Go.Proofs
variable {G : Glob}
structure HPoint where
  node : Int
  at' : Int
deriving DecidableEq, Inhabited
def eP (p : HPoint) : List AVal := [aInt p.node, aInt p.at']
instance : LenE eP 2 := ⟨fun _ => rfl⟩
structure HSpan where
  a : HPoint
  b : HPoint
deriving DecidableEq, Inhabited
def eS (s : HSpan) : List AVal := [aInt s.a.node, aInt s.a.at', aInt s.b.node, aInt s.b.at']
instance : LenE eS 4 := ⟨fun _ => rfl⟩
end Go.Proofs.K
end
section
/- Ranges: points, spans: contracts. -/
set_option linter.unusedSimpArgs false
set_option linter.unusedVariables false
namespace Go.Proofs.K
open Go Go.Sim Go.Proofs
variable {G : Glob}
/-- the way down to a node, from below: which kid each one is -/
def rkey (d : HDoc) (n : Int) : List Int := ((chain d n).filter (fun m => decide (0 < m))).map fun m => 2 * idxM (· == m) (nd d (nd d m).parent).kids + 1
def key (d : HDoc) (p : HPoint) : List Int := (2 * p.at' :: rkey d p.node).reverse
section
variable {d : HDoc}
end
end Go.Proofs.K
end
section
/- Ranges: the order of points, plain law. -/
set_option linter.unusedSimpArgs false
set_option linter.unusedVariables false
namespace Go.Proofs.K
open Go Go.Sim Go.Proofs
/-! ## lists by their order -/
/-! ## all points of a tree, in their order -/
section
variable {d : HDoc}
end
end Go.Proofs.K
end
section
/- Ranges: order, points, span, Check, Less; the reference's errors. -/
set_option linter.unusedSimpArgs false
set_option linter.unusedVariables false
namespace Go.Proofs.K
open Go Go.Sim Go.Proofs
variable {G : Glob}
end Go.Proofs.K
end
section
/- Ranges: the reference's marks, SpanErr. -/
set_option linter.unusedSimpArgs false
set_option linter.unusedVariables false
namespace Go.Proofs.K
open Go Go.Sim Go.Proofs
variable {G : Glob}
end Go.Proofs.K
end
section
/- Ranges: the tree's order, as a list. -/
set_option linter.unusedSimpArgs false
set_option linter.unusedVariables false
namespace Go.Proofs.K
open Go Go.Sim Go.Proofs
variable {G : Glob}
def c33 : SFun := ⟨(.seq (.reg [⟨(some 3), (.boxF 24 2 (.t 0)), none⟩, ⟨(some 6), (.mv (.c .emp)), none⟩]) (.seq (.reg [⟨(some 9), (.mv (.t 2)), none⟩, ⟨(some 10), (.mv (.t 1)), none⟩, ⟨(some 11), (.bldF 3 1 [(.t 10)]), none⟩, ⟨(some 12), (.app 3 1 8 (.t 9) (.t 11)), none⟩, ⟨(some 2), (.mv (.t 12)), none⟩]) (.seq (.seq (.reg [⟨(some 13), (.fldA 0 (.t 3)), none⟩, ⟨(some 14), (.ld 1 false (.t 13)), none⟩, ⟨(some 15), (.mv (.t 1)), none⟩, ⟨(some 16), (.idxA 6 (.t 14) (.t 15)), none⟩, ⟨(some 17), (.fldA 5 (.t 16)), none⟩, ⟨(some 18), (.ld 1 false (.t 17)), none⟩, ⟨(some 19), (.len (.t 18)), none⟩, ⟨(some 20), (.mv (.c (.int .i64 (0)))), none⟩]) (.block 0 (.loop (.seq (.reg [⟨(some 21), (.bin .lss (.t 20) (.t 19)), none⟩]) (.seq (.cond (.t 21) .skip (.exit 0)) (.seq (.block 1 (.seq (.reg [⟨(some 22), (.idxA 1 (.t 18) (.t 20)), none⟩, ⟨(some 23), (.ld 1 false (.t 22)), none⟩, ⟨(some 8), (.mv (.t 23)), none⟩]) (.reg [⟨(some 24), (.ld 2 true (.t 3)), none⟩, ⟨(some 25), (.mv (.t 8)), none⟩, ⟨(some 26), (.mv (.t 2)), none⟩, ⟨(some 27), (.call (.c (.fn 33 [] [])) [(.t 24), (.t 25), (.t 26)]), none⟩, ⟨(some 2), (.mv (.t 27)), none⟩]))) (.reg [⟨(some 28), (.bin .add (.t 20) (.c (.int .i64 (1)))), none⟩, ⟨(some 20), (.mv (.t 28)), none⟩]))))))) (.seq (.reg [⟨(some 29), (.mv (.t 2)), none⟩, ⟨(some 6), (.mv (.t 29)), none⟩]) .ret)))), [(.tmp 6)]⟩
theorem hc33 : toSF Tryd.prog {} Tryd.f33 = some c33 := by kernel_rfl
theorem hn33 : (Tryd.f33.name == "runtime.NumGoroutine") = false := by kernel_rfl
theorem walk_ok (d : HDoc) (V : DV d) (sm : DocSm d) : ∀ n, inD d n → ∀ (h h1 : Heap) (L : List Int) (a : AVal), Acc h 3 1 (L.map eInt) a h1 → Sim.Sub h h1 → L.length + (below d n).length ≤ 1000000 →
    DCalls (Pg G) 33 [.agg (eDoc d), aInt n, a] h1 fun r h2 => Acc h 3 1 ((L ++ below d n).map eInt) r h2 ∧ Sim.Sub h h2 := V.down fun n hn ih h h1 L a A S hL => by
  have hl := V.len
  have n0 := hn.1
  have n1 := hn.2
  have e0 : nth d.nodes n.toNat = nd d n := rfl
  have kl := (sm.nd n).kids
  have bl := below_len V hn
  have be := below_eq V hn
  refine dcalls_of_vc Tryd.func33 hn33 hc33 (by rw [Tryd.ntmps33]; simp) (by rw [Tryd.ntmps33]; decide) ?_
  simp -dsimp -implicitDefEqProofs (disch := omega) only [VCA, Nat.reduceEqDiff, Nat.reduceAdd, ↓reduceIte, okParts, forall_eq, exists_eq_left, c33, eDoc]
  refine A.app S (by simp only [List.length_map, List.length_cons, List.length_nil]; omega) (by simp only [List.length_map, List.length_cons, List.length_nil]; omega) fun a2 h2 A2 S2 => ?_
  simp -dsimp -implicitDefEqProofs (disch := omega) only [VCA, Nat.reduceEqDiff, Nat.reduceAdd, Nat.reduceLeDiff, ↓reduceIte, eNode, e0]
  refine ⟨by omega, ?_⟩
  have A0 : Acc h 3 1 ((L ++ n :: ((nd d n).kids.take 0).flatMap (below d)).map eInt) a2 h2 := by simpa [eInt] using A2
  have bel : (below d n).length = 1 + ((nd d n).kids.flatMap (below d)).length := by rw [be, List.length_cons]; omega
  refine LoopVC.intro (fun m e h' => ∃ k : Nat, k ≤ (nd d n).kids.length ∧ m = (nd d n).kids.length - k ∧ e 3 = .pin (eDoc d) ∧ e 18 = sl eInt (nd d n).kids ∧ e 19 = aInt (nd d n).kids.length ∧ e 20 = aInt k ∧ Acc h 3 1 ((L ++ n :: ((nd d n).kids.take k).flatMap (below d)).map eInt) (e 2) h' ∧ Sim.Sub h h') _ ⟨0, by omega, rfl, rfl, rfl, rfl, rfl, A0, S2⟩ ?_
  clear A0 A2 S2 A S
  rintro m e h' ⟨k, hk, rfl, he3, he18, he19, he20, A, S⟩
  simp -dsimp -implicitDefEqProofs (disch := omega) only [VCA, ↓reduceIte, he19, he20]
  refine Br.dec (fun hlt => ?_) (fun hge => ?_)
  · have hk' : k < (nd d n).kids.length := by omega
    have hfl : (((nd d n).kids.take (k + 1)).flatMap (below d)).length ≤ ((nd d n).kids.flatMap (below d)).length := by
      conv => rhs; rw [← List.take_append_drop (k + 1) (nd d n).kids, List.flatMap_append, List.length_append]
      omega
    rw [take_snoc hk', List.flatMap_append, List.length_append] at hfl
    simp only [List.flatMap_cons, List.flatMap_nil, List.append_nil] at hfl
    have hI := ih _ (nth_mem' hk') h h' (L ++ n :: ((nd d n).kids.take k).flatMap (below d)) (e 2) A S (by rw [List.length_append, List.length_cons]; omega)
    simp -dsimp -implicitDefEqProofs (disch := omega) only [VCA, Nat.reduceEqDiff, ↓reduceIte, eInt, he3, he18, he20, eDoc_len, eDoc_take]
    refine ⟨by omega, ?_⟩
    refine DCalls.of hI ?_
    rintro r h3 ⟨A3, S3⟩
    have A4 : Acc h 3 1 ((L ++ n :: ((nd d n).kids.take (k + 1)).flatMap (below d)).map eInt) r h3 := by
      rw [take_snoc hk', List.flatMap_append]
      simpa using A3
    simp -dsimp -implicitDefEqProofs (disch := omega) only [VCA, Nat.reduceEqDiff, ↓reduceIte, he3, he18, he19, he20]
    exact ⟨_, by omega, k + 1, by omega, rfl, by omega, A4, S3⟩
  · obtain rfl : k = (nd d n).kids.length := by omega
    rw [List.take_length, ← be] at A
    simp -dsimp -implicitDefEqProofs (disch := omega) only [VCA, Nat.reduceEqDiff, ↓reduceIte]
    exact ⟨_, Sub.refl _, A, S⟩
theorem walk0_ok (d : HDoc) (V : DV d) (sm : DocSm d) (n : Int) (hn : inD d n) : PCalls (Pg G) 33 [.agg (eDoc d), aInt n, .emp] (sl eInt (below d n)) := PCalls.acc (ty := 3) (sz := 1) fun h =>
  (walk_ok (G := G) d V sm n hn h h [] .emp .nil (Sub.refl _) (by have := below_len V hn; have := V.len; simp; omega)).mono fun r h' hh => by rw [List.nil_append] at hh; exact hh
def c17 : SFun := ⟨(.seq (.reg [⟨(some 1), (.boxF 24 2 (.t 0)), none⟩, ⟨(some 2), (.mv (.c .emp)), none⟩, ⟨(some 3), (.mv (.c (.int .i64 (0)))), none⟩]) (.seq (.seq (.reg [⟨(some 5), (.ld 2 true (.t 1)), none⟩, ⟨(some 6), (.pcall 32 [(.t 5)]), none⟩, ⟨(some 4), (.mv (.t 6)), none⟩]) (.seq (.reg [⟨(some 7), (.mv (.t 4)), none⟩, ⟨(some 8), (.bin .neq (.t 7) (.c (.int .i64 (0)))), none⟩]) (.cond (.t 8) (.seq (.reg [⟨(some 9), (.mv (.t 4)), none⟩, ⟨(some 2), (.mv (.c .emp)), none⟩, ⟨(some 3), (.mv (.t 9)), none⟩]) .ret) .skip))) (.seq (.reg [⟨(some 10), (.ld 2 true (.t 1)), none⟩, ⟨(some 11), (.pcall 33 [(.t 10), (.c (.int .i64 (0))), (.c .emp)]), none⟩, ⟨(some 2), (.mv (.t 11)), none⟩, ⟨(some 3), (.mv (.c (.int .i64 (0)))), none⟩]) .ret))), [(.tmp 2), (.tmp 3)]⟩
theorem hc17 : toSF Tryd.prog {pure := [32, 33]} Tryd.f17 = some c17 := by kernel_rfl
theorem hn17 : (Tryd.f17.name == "runtime.NumGoroutine") = false := by kernel_rfl
theorem domOrder_ok (d : HDoc) (V : DV d) (h0 : docE d = 0) (sm : DocSm d) : PCalls (Pg G) 17 [.agg (eDoc d)] (.tup [sl eInt (below d 0), aInt 0]) := fun h => by
  have hC := check_ok (G := G) d sm
  have hW := walk0_ok (G := G) d V sm 0 V.zero
  rw [h0] at hC
  refine dcalls_of_vc Tryd.func17 hn17 hc17 (by rw [Tryd.ntmps17]; simp) (by rw [Tryd.ntmps17]; decide) ?_
  simp -dsimp -implicitDefEqProofs (disch := omega) only [VCA, Nat.reduceEqDiff, ↓reduceIte, c17, eDoc_len, eDoc_take]
  repeat' (first | ((with_reducible refine Br.dec (fun _ => ?_) (fun _ => ?_)) <;> try (exfalso; omega)) | ((with_reducible refine Br.eq (fun _ => ?_) (fun _ => ?_)) <;> try (exfalso; omega)) | ((with_reducible refine Br.ne (fun _ => ?_) (fun _ => ?_)) <;> try (exfalso; omega)) | ((with_reducible refine brNdec (fun _ => ?_) (fun _ => ?_)) <;> try (exfalso; omega)) | ((with_reducible refine brNeq (fun _ => ?_) (fun _ => ?_)) <;> try (exfalso; omega)) | with_reducible refine Br.intro (fun _ => ?_) (fun _ => ?_) | (with_reducible apply pcallE.of; · exact hC) | (with_reducible apply pcallE.of; · exact hW) | (with_reducible refine And.intro ?_ ?_; · omega) | simp -dsimp -implicitDefEqProofs (disch := omega) only [VCA, Nat.reduceEqDiff, ↓reduceIte, exists_eq_right, eDoc_len, eDoc_take])
  all_goals exact Sub.refl _
end Go.Proofs.K
end
section
/- Asking a document: order, way, attributes. -/
set_option linter.unusedSimpArgs false
set_option linter.unusedVariables false
namespace Go.Proofs.K
open Go Go.Sim Go.Proofs
variable {G : Glob}
theorem eDoc_drp (d : HDoc) : (eDoc d).drop 2 = [] := rfl
def orderD (d : HDoc) : List Int := if docE d = 0 then below d 0 else []
theorem order2_ok (d : HDoc) (sm : DocSm d) : PCalls (Pg G) 17 [.agg (eDoc d)] (.tup [sl eInt (orderD d), aInt (docE d)]) := by
  by_cases h1 : docE d = 0
  · have h := domOrder_ok (G := G) d (docE_DV h1) h1 sm
    unfold orderD
    rw [if_pos h1, h1]
    exact h
  · intro h
    have hC := check_ok (G := G) d sm
    refine DCalls.res (K := fun a h' => a = .tup [.emp, aInt (docE d)] ∧ h' = h) ?_ ?_
    · refine dcalls_of_vc Tryd.func17 hn17 hc17 (by rw [Tryd.ntmps17]; simp) (by rw [Tryd.ntmps17]; decide) ?_
      simp -dsimp -implicitDefEqProofs (disch := omega) only [VCA, Nat.reduceEqDiff, ↓reduceIte, c17, eDoc_len, eDoc_take]
      repeat' (first | ((with_reducible refine Br.dec (fun _ => ?_) (fun _ => ?_)) <;> try (exfalso; omega)) | ((with_reducible refine Br.eq (fun _ => ?_) (fun _ => ?_)) <;> try (exfalso; omega)) | ((with_reducible refine Br.ne (fun _ => ?_) (fun _ => ?_)) <;> try (exfalso; omega)) | ((with_reducible refine brNdec (fun _ => ?_) (fun _ => ?_)) <;> try (exfalso; omega)) | ((with_reducible refine brNeq (fun _ => ?_) (fun _ => ?_)) <;> try (exfalso; omega)) | with_reducible refine Br.intro (fun _ => ?_) (fun _ => ?_) | (with_reducible apply pcallE.of; · exact hC) | (with_reducible refine And.intro ?_ ?_; · omega) | simp -dsimp -implicitDefEqProofs (disch := omega) only [VCA, Nat.reduceEqDiff, ↓reduceIte, exists_eq_right])
      all_goals exact Sub.refl _
    · rintro a h' ⟨rfl, rfl⟩
      exact ⟨_, Wk.tup' (.cons (by unfold orderD; rw [if_neg h1]; exact .emp) (.cons (.refl _) .nil)), rfl, rfl⟩
/-! ## text -/
end Go.Proofs.K
end
section
/- The index of a document: anew, Of. -/
set_option linter.unusedSimpArgs false
set_option linter.unusedVariables false
namespace Go.Proofs.K
open Go Go.Sim Go.Proofs Go.Shelf
variable {G : Glob}
def c18 : SFun := ⟨(.seq (.reg [⟨(some 2), (.boxF 24 2 (.t 0)), none⟩, ⟨(some 4), (.new 29 4 [.emp, .emp, .emp, .emp]), none⟩]) (.seq (.reg [⟨(some 8), (.mv (.t 1)), none⟩, ⟨(some 9), (.call (.c (.fn 34 [] [])) [(.t 8)]), none⟩, ⟨(some 10), (.bld [.emp, .emp, .emp, .emp, (.prim (Value.map none))] [(4, (1, (.t 9)))]), none⟩, ⟨(some 11), (.box 72 5 (.t 10)), none⟩, ⟨(some 5), (.mv (.t 11)), none⟩]) (.seq (.seq (.reg [⟨(some 12), (.mv (.t 1)), none⟩, ⟨(some 13), (.len (.t 12)), none⟩, ⟨(some 14), (.mv (.c (.int .i64 (0)))), none⟩]) (.block 0 (.loop (.seq (.reg [⟨(some 15), (.bin .lss (.t 14) (.t 13)), none⟩]) (.seq (.cond (.t 15) .skip (.exit 0)) (.seq (.block 1 (.seq (.reg [⟨(some 16), (.idxA 1 (.t 12) (.t 14)), none⟩, ⟨(some 17), (.ld 1 false (.t 16)), none⟩, ⟨(some 7), (.mv (.t 17)), none⟩]) (.reg [⟨(some 18), (.mv (.t 5)), none⟩, ⟨(some 19), (.fldA 0 (.t 2)), none⟩, ⟨(some 20), (.ld 1 false (.t 19)), none⟩, ⟨(some 21), (.mv (.t 7)), none⟩, ⟨(some 22), (.idxA 6 (.t 20) (.t 21)), none⟩, ⟨(some 23), (.ld 6 true (.t 22)), none⟩, ⟨(some 24), (.mv (.t 7)), none⟩, ⟨(some 25), (.mv (.t 5)), none⟩, ⟨(some 26), (.mkf 36 [(.t 25)] []), none⟩, ⟨(some 27), (.call (.c (.fn 35 [] [])) [(.t 18), (.t 23), (.t 24), (.t 26)]), none⟩]))) (.reg [⟨(some 28), (.bin .add (.t 14) (.c (.int .i64 (1)))), none⟩, ⟨(some 14), (.mv (.t 28)), none⟩]))))))) (.seq (.reg [⟨(some 29), (.mv (.t 5)), none⟩, ⟨(some 30), (.fldA 0 (.t 29)), none⟩, ⟨(some 31), (.fldA 0 (.t 30)), none⟩, ⟨(some 32), (.ld 4 true (.t 31)), none⟩, ⟨none, (.st 4 (.t 4) (.t 32)), none⟩]) .ret)))), [(.cell 4 4 true)]⟩
theorem hc18 : toSF Tryd.prog {how := [(11, 6)]} Tryd.f18 = some c18 := by kernel_rfl
theorem hn18 : (Tryd.f18.name == "runtime.NumGoroutine") = false := by kernel_rfl
set_option maxHeartbeats 1000000 in
theorem anew_ok (d : HDoc) (V : DV d) (sm : DocSm d) : PCalls (Pg G) 18 [.agg (eDoc d), sl eInt (below d 0)] (.agg (eIdx (idxD d))) := PCalls.outV fun h => by
  have h0 := V.zero
  have hin := below_in V 0 h0
  have hnd := below_nodup V 0 h0
  have hbl := below_len V h0
  have hdl := V.len
  have hlen := sm.len
  obtain ⟨l, hl⟩ : ∃ l, below d 0 = l := ⟨_, rfl⟩
  have hI : idxD d = ⟨idxL (prsD d l 0), idxL (prsD d l 1), idxL (prsD d l 2), idxL (prsD d l 3)⟩ := by rw [← hl]; rfl
  rw [hI]
  rw [hl] at hin hnd hbl ⊢
  refine dcalls_of_vc Tryd.func18 hn18 hc18 (by rw [Tryd.ntmps18]; simp) (by rw [Tryd.ntmps18]; decide) ?_
  simp -dsimp -implicitDefEqProofs (disch := omega) only [VCA, Nat.reduceEqDiff, Nat.reduceAdd, ↓reduceIte, eDoc, c18]
  intro rR hR
  refine DCalls.of (ranked_ok l (by omega)) ?_
  rintro v h1 ⟨rM, es, rfl, hM, rfl, hf, _⟩
  have hf := hf hnd
  simp -dsimp -implicitDefEqProofs (disch := omega) only [VCA, ↓upd_none, Nat.reduceEqDiff, Nat.reduceAdd, ↓reduceIte, fillA, okFill, ne_eq]
  intro rk hk
  obtain ⟨hA, hAe⟩ : ∃ hA, upd h rR (some ⟨.t 29, 4, [[.emp, .emp, .emp, .emp]]⟩) = hA := ⟨_, rfl⟩
  have hAR : hA rR = some ⟨.t 29, 4, [[.emp, .emp, .emp, .emp]]⟩ := by rw [← hAe]; exact upd_same _ _ _
  have hAs : Sim.Sub h hA := by rw [← hAe]; exact (Sub.refl h).upd hR
  have hkA : hA rk = none := by rw [← hAe, upd_ne _ _ hk.2.1]; exact hk.2.2
  have hMA : hA rM = none := by rw [← hAe]; exact hM
  have hne : rk ≠ rM := hk.1
  have init : KX hA (upd (upd hA rM (some ⟨.m 69 (eM es), 1, []⟩)) rk (some ⟨.t 72, 5, [[.emp, .emp, .emp, .emp, .mpr rM]]⟩)) rk rM es (prsD d (l.take 0)) :=
    ⟨[.emp, .emp, .emp, .emp], [[], [], [], []], fun _ _ => .emp, fun _ _ => False, ⟨rfl, rfl, upd_same _ _ _, by rw [upd_ne _ _ hne.symm]; exact upd_same _ _ _, hkA, hMA, fun c hc => ⟨.emp, by
      rcases (show c = 0 ∨ c = 1 ∨ c = 2 ∨ c = 3 by omega) with rfl | rfl | rfl | rfl <;> rfl, by
      have : nth ([[], [], [], []] : List (List HRef)) c = [] := by rcases (show c = 0 ∨ c = 1 ∨ c = 2 ∨ c = 3 by omega) with rfl | rfl | rfl | rfl <;> rfl
      rw [this]; exact .nil _ _ _⟩, fun c r hc hf => hf.elim, fun c d r hc hd hne hf => hf.elim, ((Sub.refl hA).upd hMA).upd hkA⟩, fun c hc => by
      rcases (show c = 0 ∨ c = 1 ∨ c = 2 ∨ c = 3 by omega) with rfl | rfl | rfl | rfl <;> rfl⟩
  rw [hAe]
  refine LoopVC.intro (fun m e h' => ∃ i : Nat, i ≤ l.length ∧ m = l.length - i ∧ e 2 = .pin (eDoc d) ∧ e 4 = .vp rR 0 ∧ e 5 = .vp rk 0 ∧ e 12 = sl eInt l ∧ e 13 = aInt l.length ∧ e 14 = aInt i ∧ KX hA h' rk rM es (prsD d (l.take i))) l.length
    (by exact ⟨0, by omega, by omega, rfl, rfl, rfl, rfl, rfl, rfl, init⟩) ?_
  rintro m e h' ⟨i, hi, rfl, e2, e4, e5, e12, e13, e14, X⟩
  simp -dsimp -implicitDefEqProofs (disch := omega) only [VCA, ↓reduceIte, eDoc, e13, e14]
  refine Br.dec (fun hlt => ?_) (fun hge => ?_)
  · have hi' : i < l.length := by omega
    have hn := hin _ (nth_mem' hi')
    have n0 := hn.1
    have n1 := hn.2
    have hW := words4_dv V hn
    have hx := attV_le (V.node _ hn) classS
    have en : nth d.nodes (nth l i).toNat = nd d (nth l i) := rfl
    have rk_i : ∀ j, j < l.length → rkI es (nth l j) = j := fun j hj => by unfold rkI; rw [hf j hj]; rfl
    have hT := turn_ok (G := G) X (nd d (nth l i)) (sm.nd _) (by omega) hW (nth l i) (fun c hc => by
      have h1 := prsD_len V (l := l.take i) (fun n hn => hin n (List.mem_of_mem_take hn)) hc
      have h2 : (l.take i).length = i := by rw [List.length_take]; omega
      rw [h2] at h1
      omega) (fun c hc v m hm => by
      have h1 := mem_prsD hm
      obtain ⟨j, hj, he⟩ := mem_nth h1
      rw [List.length_take] at hj
      have e1 : nth (l.take i) j = nth l j := by
        unfold nth
        rw [List.getD_eq_getElem?_getD, List.getD_eq_getElem?_getD, List.getElem?_take, if_pos (by omega)]
      rw [← he, e1, rk_i j (by omega), rk_i i hi']; omega)
    unfold eNode at hT
    simp -dsimp -implicitDefEqProofs (disch := omega) only [VCA, Nat.reduceEqDiff, Nat.reduceAdd, Nat.reduceLeDiff, ↓reduceIte, eInt, eNode, eDoc, e2, e5, e12, e14, eDoc, eNode, en]
    refine ⟨⟨by omega, by omega⟩, ⟨by omega, by omega⟩, DCalls.of hT ?_⟩
    intro v h2 X2
    simp -dsimp -implicitDefEqProofs (disch := omega) only [VCA, Nat.reduceEqDiff, ↓reduceIte, e14]
    refine ⟨_, by omega, i + 1, by omega, rfl, e2, e4, e5, e12, e13, by first | rfl | (congr 1) | omega, X2.congr fun c hc => ?_⟩
    unfold newQ
    rw [take_snoc hi', prsD_snoc]
  · obtain rfl : i = l.length := by omega
    rw [List.take_length] at X
    obtain ⟨As, Ls, nvs, Fs, S, hQ⟩ := X
    have hkp := S.kp
    have hRk := S.sub rR _ hAR
    unfold kpO at hkp
    obtain ⟨a0, a1, a2, a3, rfl⟩ : ∃ a0 a1 a2 a3, As = [a0, a1, a2, a3] := by
      match As, S.len with
      | [a0, a1, a2, a3], _ => exact ⟨a0, a1, a2, a3, rfl⟩
    have hdr : List.drop 0 ([a0, a1, a2, a3] ++ [AVal.mpr rM]) = [a0, a1, a2, a3, AVal.mpr rM] := rfl
    have htk : List.take 4 ([a0, a1, a2, a3] ++ [AVal.mpr rM]) = [a0, a1, a2, a3] := rfl
    simp -dsimp -implicitDefEqProofs (disch := omega) only [VCA, Nat.reduceEqDiff, Nat.reduceAdd, Nat.reduceLT, Nat.reduceLeDiff, ↓reduceIte, setAt, exists_eq_left', e4, e5, hkp, hRk]
    refine ⟨_, Sub.refl _, (hAs.trans S.sub).upd hR, .one _ _ ?_⟩
    have hh : ∀ c a, c < 4 → [a0, a1, a2, a3][c]? = some a → ∀ o, Vw (newH h (upd h' rR (some o))) a (sl eRef (idxL (prsD d l c))) := fun c a hc ha o => by
      obtain ⟨a', ha', R⟩ := S.ref c hc
      rw [ha] at ha'
      cases ha'
      have R2 := R.keep (h' := upd h' rR (some o)) fun r ob hr ho => by
        have h1 := (S.dom c r hc hr).2.1
        rw [upd_ne _ _ (fun e => by rw [e, hAR] at h1; cases h1)]; exact ho
      rw [hQ c hc] at R2
      exact R2.vwN fun r hr => hAs.none (S.dom c r hc hr).2.1
    exact Vw.agg' (.cons (hh 0 a0 (by decide) rfl _) (.cons (hh 1 a1 (by decide) rfl _) (.cons (hh 2 a2 (by decide) rfl _) (.cons (hh 3 a3 (by decide) rfl _) .nil))))
def noIdx : HIdx := ⟨[], [], [], []⟩
def ofD (d : HDoc) : HIdx := if docE d = 0 then idxD d else noIdx
def c7 : SFun := ⟨(.seq (.reg [⟨(some 1), (.boxF 24 2 (.t 0)), none⟩, ⟨(some 2), (.new 29 4 [.emp, .emp, .emp, .emp]), none⟩, ⟨(some 3), (.mv (.c (.int .i64 (0)))), none⟩]) (.seq (.reg [⟨(some 7), (.ld 2 true (.t 1)), none⟩, ⟨(some 8), (.pcall 17 [(.t 7)]), none⟩, ⟨(some 6), (.mv (.t 8)), none⟩, ⟨(some 9), (.ext (.t 6) 0), none⟩, ⟨(some 10), (.ext (.t 6) 1), none⟩, ⟨(some 4), (.mv (.t 9)), none⟩, ⟨(some 5), (.mv (.t 10)), none⟩]) (.seq (.seq (.reg [⟨(some 11), (.mv (.t 5)), none⟩, ⟨(some 12), (.bin .neq (.t 11) (.c (.int .i64 (0)))), none⟩]) (.cond (.t 12) (.seq (.reg [⟨(some 13), (.bld [.emp, .emp, .emp, .emp] []), none⟩, ⟨(some 14), (.mv (.t 5)), none⟩, ⟨none, (.st 4 (.t 2) (.t 13)), none⟩, ⟨(some 3), (.mv (.t 14)), none⟩]) .ret) .skip)) (.seq (.reg [⟨(some 15), (.ld 2 true (.t 1)), none⟩, ⟨(some 16), (.mv (.t 4)), none⟩, ⟨(some 17), (.pcall 18 [(.t 15), (.t 16)]), none⟩, ⟨none, (.st 4 (.t 2) (.t 17)), none⟩, ⟨(some 3), (.mv (.c (.int .i64 (0)))), none⟩]) .ret)))), [(.cell 2 4 true), (.tmp 3)]⟩
theorem hc7 : toSF Tryd.prog {pure := [17, 18]} Tryd.f7 = some c7 := by kernel_rfl
theorem hn7 : (Tryd.f7.name == "runtime.NumGoroutine") = false := by kernel_rfl
theorem ixOf_ok (d : HDoc) (sm : DocSm d) : PCalls (Pg G) 7 [.agg (eDoc d)] (.tup [.agg (eIdx (ofD d)), aInt (docE d)]) := PCalls.outV fun h => by
  have cO := order2_ok (G := G) d sm
  unfold orderD at cO
  unfold ofD
  by_cases h0 : docE d = 0
  · have cA := anew_ok (G := G) d (docE_DV h0) sm
    rw [if_pos h0] at cO
    rw [if_pos h0]
    have d1 : (docE d != 0) = false := by simpa using h0
    obtain ⟨x, hx⟩ : ∃ x, idxD d = x := ⟨_, rfl⟩
    rw [hx] at cA ⊢
    unfold eDoc at cO cA
    refine dcalls_of_vc Tryd.func7 hn7 hc7 (by rw [Tryd.ntmps7]; simp) (by rw [Tryd.ntmps7]; decide) ?_
    simp -dsimp -implicitDefEqProofs (disch := omega) only [VCA, Nat.reduceEqDiff, Nat.reduceAdd, ↓reduceIte, eDoc, c7, eDoc]
    intro r hr
    repeat' (first | ((with_reducible refine Br.dec (fun _ => ?_) (fun _ => ?_)) <;> try (exfalso; omega)) | ((with_reducible refine Br.eq (fun _ => ?_) (fun _ => ?_)) <;> try (exfalso; omega)) | ((with_reducible refine Br.ne (fun _ => ?_) (fun _ => ?_)) <;> try (exfalso; omega)) | ((with_reducible refine brNdec (fun _ => ?_) (fun _ => ?_)) <;> try (exfalso; omega)) | ((with_reducible refine brNeq (fun _ => ?_) (fun _ => ?_)) <;> try (exfalso; omega)) | with_reducible refine Br.intro (fun _ => ?_) (fun _ => ?_) | (with_reducible apply pcallE.of; · exact cO) | (with_reducible apply pcallE.of; · exact cA) | (with_reducible refine And.intro ?_ ?_; · omega) | simp -dsimp -implicitDefEqProofs (disch := omega) only [VCA, Nat.reduceEqDiff, Nat.reduceAdd, Nat.reduceLT, ↓reduceIte, setAt, exists_eq_left', d1])
    refine ⟨rfl, Nat.le_refl 4, _, Sub.refl _, (Sub.refl h).upd hr, .tup' (.cons ?_ (.cons ?_ .nil))⟩
    · exact Vw.refl (.agg (eIdx x))
    · rw [h0]; exact .refl _
  · rw [if_neg h0] at cO
    rw [if_neg h0]
    have d1 : (docE d != 0) = true := by simpa using h0
    unfold eDoc at cO
    refine dcalls_of_vc Tryd.func7 hn7 hc7 (by rw [Tryd.ntmps7]; simp) (by rw [Tryd.ntmps7]; decide) ?_
    simp -dsimp -implicitDefEqProofs (disch := omega) only [VCA, Nat.reduceEqDiff, Nat.reduceAdd, ↓reduceIte, eDoc, c7, eDoc]
    intro r hr
    repeat' (first | ((with_reducible refine Br.dec (fun _ => ?_) (fun _ => ?_)) <;> try (exfalso; omega)) | ((with_reducible refine Br.eq (fun _ => ?_) (fun _ => ?_)) <;> try (exfalso; omega)) | ((with_reducible refine Br.ne (fun _ => ?_) (fun _ => ?_)) <;> try (exfalso; omega)) | ((with_reducible refine brNdec (fun _ => ?_) (fun _ => ?_)) <;> try (exfalso; omega)) | ((with_reducible refine brNeq (fun _ => ?_) (fun _ => ?_)) <;> try (exfalso; omega)) | with_reducible refine Br.intro (fun _ => ?_) (fun _ => ?_) | (with_reducible apply pcallE.of; · exact cO) | (with_reducible refine And.intro ?_ ?_; · omega) | simp -dsimp -implicitDefEqProofs (disch := omega) only [VCA, Nat.reduceEqDiff, Nat.reduceAdd, Nat.reduceLT, ↓reduceIte, fillA, okFill, setAt, exists_eq_left', d1])
    exact ⟨_, Sub.refl _, (Sub.refl h).upd hr, .tup' (.cons (Vw.agg' (.cons .emp (.cons .emp (.cons .emp (.cons .emp .nil))))) (.cons (.refl _) .nil))⟩
end Go.Proofs.K
end
section
/- The reference's index: words of a node, lists alike. -/
set_option linter.unusedSimpArgs false
set_option linter.unusedVariables false
namespace Go.Proofs.K
open Go Go.Sim Go.Proofs Go.Shelf
variable {G : Glob}
def c40 : SFun := ⟨(.seq (.reg [⟨(some 2), (.boxF 53 6 (.t 0)), none⟩, ⟨(some 4), (.mv (.c .emp)), none⟩]) (.seq (.seq (.reg [⟨(some 10), (.fldA 0 (.t 2)), none⟩, ⟨(some 11), (.ld 1 false (.t 10)), none⟩, ⟨(some 12), (.bin .neq (.t 11) (.c (.int .i64 (2)))), none⟩]) (.cond (.t 12) (.seq (.reg [⟨(some 4), (.mv (.c .emp)), none⟩]) .ret) .skip)) (.seq (.seq (.reg [⟨(some 13), (.mv (.t 1)), none⟩, ⟨(some 14), (.bin .eql (.t 13) (.c (.int .i64 (3)))), none⟩]) (.cond (.t 14) (.seq (.reg [⟨(some 15), (.fldA 1 (.t 2)), none⟩, ⟨(some 16), (.ld 1 false (.t 15)), none⟩, ⟨(some 17), (.bldF 9 1 [(.t 16)]), none⟩, ⟨(some 4), (.mv (.t 17)), none⟩]) .ret) .skip)) (.seq (.seq (.reg [⟨(some 18), (.mv (.t 1)), none⟩, ⟨(some 19), (.bin .eql (.t 18) (.c (.int .i64 (2)))), none⟩]) (.cond (.t 19) (.seq (.reg [⟨(some 21), (.fldA 2 (.t 2)), none⟩, ⟨(some 22), (.ld 1 false (.t 21)), none⟩, ⟨(some 23), (.pcall 38 [(.t 22), (.c (.str [99, 108, 97, 115, 115]))]), none⟩, ⟨(some 20), (.mv (.t 23)), none⟩, ⟨(some 24), (.ext (.t 20) 0), none⟩, ⟨(some 25), (.ext (.t 20) 1), none⟩, ⟨(some 5), (.mv (.t 24)), none⟩, ⟨(some 6), (.mv (.t 25)), none⟩]) (.seq (.reg [⟨(some 26), (.mv (.t 5)), none⟩, ⟨(some 27), (.pcall 11 [(.t 26)]), none⟩, ⟨(some 4), (.mv (.t 27)), none⟩]) .ret)) .skip)) (.seq (.reg [⟨(some 7), (.mv (.c (.str [105, 100]))), none⟩]) (.seq (.seq (.reg [⟨(some 28), (.mv (.t 1)), none⟩, ⟨(some 29), (.bin .eql (.t 28) (.c (.int .i64 (4)))), none⟩]) (.cond (.t 29) (.reg [⟨(some 7), (.mv (.c (.str [110, 97, 109, 101]))), none⟩]) .skip)) (.seq (.reg [⟨(some 31), (.fldA 2 (.t 2)), none⟩, ⟨(some 32), (.ld 1 false (.t 31)), none⟩, ⟨(some 33), (.mv (.t 7)), none⟩, ⟨(some 34), (.pcall 38 [(.t 32), (.t 33)]), none⟩, ⟨(some 30), (.mv (.t 34)), none⟩, ⟨(some 35), (.ext (.t 30) 0), none⟩, ⟨(some 36), (.ext (.t 30) 1), none⟩, ⟨(some 8), (.mv (.t 35)), none⟩, ⟨(some 9), (.mv (.t 36)), none⟩]) (.seq (.seq (.reg [⟨(some 37), (.mv (.t 8)), none⟩, ⟨(some 38), (.bin .eql (.t 37) (.c (.str []))), none⟩]) (.cond (.t 38) (.seq (.reg [⟨(some 4), (.mv (.c .emp)), none⟩]) .ret) .skip)) (.seq (.reg [⟨(some 39), (.mv (.t 8)), none⟩, ⟨(some 40), (.bldF 9 1 [(.t 39)]), none⟩, ⟨(some 4), (.mv (.t 40)), none⟩]) .ret))))))))), [(.tmp 4)]⟩
theorem hc40 : toSF Tryd.prog {pure := [38, 11]} Tryd.f40 = some c40 := by kernel_rfl
theorem hn40 : (Tryd.f40.name == "runtime.NumGoroutine") = false := by kernel_rfl
theorem refWordsOf_ok (x : HNode) (hx : NodeSm x) (hs : (attV x.attrs classS).length ≤ 1000000) (c : Nat) (hc : c < 4) : PCalls (Pg G) 40 [.agg (eNode x), aInt ((c : Int) + 1)] (sl eStr (nth (words4 x) c)) := PCalls.outV fun h => by
  have c1 := attrOf_ok (G := G) x.attrs idS hx.attrs
  have c2 := attrOf_ok (G := G) x.attrs classS hx.attrs
  have c3 := attrOf_ok (G := G) x.attrs nameS hx.attrs
  rw [attV_eq] at c1 c2 c3
  have c4 := refIxWords_ok (G := G) _ hs
  unfold idS at c1
  unfold classS at c2 c4
  unfold nameS at c3
  unfold words4 one1 idS classS nameS
  by_cases hk : x.kind = 2
  · have d1 : (x.kind != 2) = false := by simpa using hk
    rw [if_neg (by simpa using hk)]
    rcases (show c = 0 ∨ c = 1 ∨ c = 2 ∨ c = 3 by omega) with rfl | rfl | rfl | rfl
    · show DCalls _ _ [_, aInt 1] _ fun a h' => _ ∧ VwT _ a (sl eStr (if attV x.attrs [105, 100] = [] then [] else [attV x.attrs [105, 100]]))
      obtain ⟨v, hv⟩ : ∃ v, attV x.attrs [105, 100] = v := ⟨_, rfl⟩
      rw [hv] at c1 ⊢
      by_cases h0 : v = []
      · rw [if_pos h0]
        subst h0
        have d2 : (([] : List UInt8) == []) = true := rfl
        refine dcalls_of_vc Tryd.func40 hn40 hc40 (by rw [Tryd.ntmps40]; simp) (by rw [Tryd.ntmps40]; decide) ?_
        simp -dsimp -implicitDefEqProofs (disch := omega) only [VCA, Nat.reduceEqDiff, Nat.reduceAdd, Nat.reduceLeDiff, ↓reduceIte, eNode, c40, d1, eNode]
        repeat' (first | ((with_reducible refine Br.dec (fun _ => ?_) (fun _ => ?_)) <;> try (exfalso; omega)) | ((with_reducible refine Br.eq (fun _ => ?_) (fun _ => ?_)) <;> try (exfalso; omega)) | ((with_reducible refine Br.ne (fun _ => ?_) (fun _ => ?_)) <;> try (exfalso; omega)) | ((with_reducible refine brNdec (fun _ => ?_) (fun _ => ?_)) <;> try (exfalso; omega)) | ((with_reducible refine brNeq (fun _ => ?_) (fun _ => ?_)) <;> try (exfalso; omega)) | with_reducible refine Br.intro (fun _ => ?_) (fun _ => ?_) | (with_reducible apply pcallE.of; · exact c1) | (with_reducible refine And.intro ?_ ?_; · omega) | simp -dsimp -implicitDefEqProofs (disch := omega) only [VCA, Nat.reduceEqDiff, Nat.reduceAdd, Nat.reduceLT, Nat.reduceLeDiff, ↓reduceIte, d2])
        exact ⟨_, Sub.refl _, Sub.refl _, .one _ _ .emp⟩
      · rw [if_neg h0]
        have d2 : (v == []) = false := by simpa using h0
        refine dcalls_of_vc Tryd.func40 hn40 hc40 (by rw [Tryd.ntmps40]; simp) (by rw [Tryd.ntmps40]; decide) ?_
        simp -dsimp -implicitDefEqProofs (disch := omega) only [VCA, Nat.reduceEqDiff, Nat.reduceAdd, Nat.reduceLeDiff, ↓reduceIte, eNode, c40, d1, eNode]
        repeat' (first | ((with_reducible refine Br.dec (fun _ => ?_) (fun _ => ?_)) <;> try (exfalso; omega)) | ((with_reducible refine Br.eq (fun _ => ?_) (fun _ => ?_)) <;> try (exfalso; omega)) | ((with_reducible refine Br.ne (fun _ => ?_) (fun _ => ?_)) <;> try (exfalso; omega)) | ((with_reducible refine brNdec (fun _ => ?_) (fun _ => ?_)) <;> try (exfalso; omega)) | ((with_reducible refine brNeq (fun _ => ?_) (fun _ => ?_)) <;> try (exfalso; omega)) | with_reducible refine Br.intro (fun _ => ?_) (fun _ => ?_) | (with_reducible apply pcallE.of; · exact c1) | (with_reducible refine And.intro ?_ ?_; · omega) | simp -dsimp -implicitDefEqProofs (disch := omega) only [VCA, Nat.reduceEqDiff, Nat.reduceAdd, Nat.reduceLT, Nat.reduceLeDiff, ↓reduceIte, okParts, d2])
        exact ⟨_, Sub.refl _, Sub.refl _, .one _ _ (.refl _)⟩
    · show DCalls _ _ [_, aInt 2] _ fun a h' => _ ∧ VwT _ a (sl eStr (wordsM (attV x.attrs [99, 108, 97, 115, 115])))
      refine dcalls_of_vc Tryd.func40 hn40 hc40 (by rw [Tryd.ntmps40]; simp) (by rw [Tryd.ntmps40]; decide) ?_
      simp -dsimp -implicitDefEqProofs (disch := omega) only [VCA, Nat.reduceEqDiff, Nat.reduceAdd, Nat.reduceLeDiff, ↓reduceIte, eNode, c40, d1, eNode]
      repeat' (first | ((with_reducible refine Br.dec (fun _ => ?_) (fun _ => ?_)) <;> try (exfalso; omega)) | ((with_reducible refine Br.eq (fun _ => ?_) (fun _ => ?_)) <;> try (exfalso; omega)) | ((with_reducible refine Br.ne (fun _ => ?_) (fun _ => ?_)) <;> try (exfalso; omega)) | ((with_reducible refine brNdec (fun _ => ?_) (fun _ => ?_)) <;> try (exfalso; omega)) | ((with_reducible refine brNeq (fun _ => ?_) (fun _ => ?_)) <;> try (exfalso; omega)) | with_reducible refine Br.intro (fun _ => ?_) (fun _ => ?_) | (with_reducible apply pcallE.of; · exact c2) | (with_reducible apply pcallE.of; · exact c4) | (with_reducible refine And.intro ?_ ?_; · omega) | simp -dsimp -implicitDefEqProofs (disch := omega) only [VCA, Nat.reduceEqDiff, Nat.reduceAdd, Nat.reduceLT, Nat.reduceLeDiff, ↓reduceIte])
      exact ⟨_, Sub.refl _, Sub.refl _, .one _ _ (.refl _)⟩
    · show DCalls _ _ [_, aInt 3] _ fun a h' => _ ∧ VwT _ a (sl eStr [x.name])
      refine dcalls_of_vc Tryd.func40 hn40 hc40 (by rw [Tryd.ntmps40]; simp) (by rw [Tryd.ntmps40]; decide) ?_
      simp -dsimp -implicitDefEqProofs (disch := omega) only [VCA, Nat.reduceEqDiff, Nat.reduceAdd, Nat.reduceLeDiff, ↓reduceIte, eNode, c40, d1, eNode]
      repeat' (first | ((with_reducible refine Br.dec (fun _ => ?_) (fun _ => ?_)) <;> try (exfalso; omega)) | ((with_reducible refine Br.eq (fun _ => ?_) (fun _ => ?_)) <;> try (exfalso; omega)) | ((with_reducible refine Br.ne (fun _ => ?_) (fun _ => ?_)) <;> try (exfalso; omega)) | ((with_reducible refine brNdec (fun _ => ?_) (fun _ => ?_)) <;> try (exfalso; omega)) | ((with_reducible refine brNeq (fun _ => ?_) (fun _ => ?_)) <;> try (exfalso; omega)) | with_reducible refine Br.intro (fun _ => ?_) (fun _ => ?_) | (with_reducible refine And.intro ?_ ?_; · omega) | simp -dsimp -implicitDefEqProofs (disch := omega) only [VCA, Nat.reduceEqDiff, Nat.reduceAdd, Nat.reduceLeDiff, ↓reduceIte, okParts])
      exact ⟨_, Sub.refl _, Sub.refl _, .one _ _ (.refl _)⟩
    · show DCalls _ _ [_, aInt 4] _ fun a h' => _ ∧ VwT _ a (sl eStr (if attV x.attrs [110, 97, 109, 101] = [] then [] else [attV x.attrs [110, 97, 109, 101]]))
      obtain ⟨v, hv⟩ : ∃ v, attV x.attrs [110, 97, 109, 101] = v := ⟨_, rfl⟩
      rw [hv] at c3 ⊢
      by_cases h0 : v = []
      · rw [if_pos h0]
        subst h0
        have d2 : (([] : List UInt8) == []) = true := rfl
        refine dcalls_of_vc Tryd.func40 hn40 hc40 (by rw [Tryd.ntmps40]; simp) (by rw [Tryd.ntmps40]; decide) ?_
        simp -dsimp -implicitDefEqProofs (disch := omega) only [VCA, Nat.reduceEqDiff, Nat.reduceAdd, Nat.reduceLeDiff, ↓reduceIte, eNode, c40, d1, eNode]
        repeat' (first | ((with_reducible refine Br.dec (fun _ => ?_) (fun _ => ?_)) <;> try (exfalso; omega)) | ((with_reducible refine Br.eq (fun _ => ?_) (fun _ => ?_)) <;> try (exfalso; omega)) | ((with_reducible refine Br.ne (fun _ => ?_) (fun _ => ?_)) <;> try (exfalso; omega)) | ((with_reducible refine brNdec (fun _ => ?_) (fun _ => ?_)) <;> try (exfalso; omega)) | ((with_reducible refine brNeq (fun _ => ?_) (fun _ => ?_)) <;> try (exfalso; omega)) | with_reducible refine Br.intro (fun _ => ?_) (fun _ => ?_) | (with_reducible apply pcallE.of; · exact c3) | (with_reducible refine And.intro ?_ ?_; · omega) | simp -dsimp -implicitDefEqProofs (disch := omega) only [VCA, Nat.reduceEqDiff, Nat.reduceAdd, Nat.reduceLT, Nat.reduceLeDiff, ↓reduceIte, d2])
        exact ⟨_, Sub.refl _, Sub.refl _, .one _ _ .emp⟩
      · rw [if_neg h0]
        have d2 : (v == []) = false := by simpa using h0
        refine dcalls_of_vc Tryd.func40 hn40 hc40 (by rw [Tryd.ntmps40]; simp) (by rw [Tryd.ntmps40]; decide) ?_
        simp -dsimp -implicitDefEqProofs (disch := omega) only [VCA, Nat.reduceEqDiff, Nat.reduceAdd, Nat.reduceLeDiff, ↓reduceIte, eNode, c40, d1, eNode]
        repeat' (first | ((with_reducible refine Br.dec (fun _ => ?_) (fun _ => ?_)) <;> try (exfalso; omega)) | ((with_reducible refine Br.eq (fun _ => ?_) (fun _ => ?_)) <;> try (exfalso; omega)) | ((with_reducible refine Br.ne (fun _ => ?_) (fun _ => ?_)) <;> try (exfalso; omega)) | ((with_reducible refine brNdec (fun _ => ?_) (fun _ => ?_)) <;> try (exfalso; omega)) | ((with_reducible refine brNeq (fun _ => ?_) (fun _ => ?_)) <;> try (exfalso; omega)) | with_reducible refine Br.intro (fun _ => ?_) (fun _ => ?_) | (with_reducible apply pcallE.of; · exact c3) | (with_reducible refine And.intro ?_ ?_; · omega) | simp -dsimp -implicitDefEqProofs (disch := omega) only [VCA, Nat.reduceEqDiff, Nat.reduceAdd, Nat.reduceLT, Nat.reduceLeDiff, ↓reduceIte, okParts, d2])
        exact ⟨_, Sub.refl _, Sub.refl _, .one _ _ (.refl _)⟩
  · have d1 : (x.kind != 2) = true := by simpa using hk
    rw [if_pos hk]
    have e0 : nth ([[], [], [], []] : List (List (List UInt8))) c = [] := by
      rcases (show c = 0 ∨ c = 1 ∨ c = 2 ∨ c = 3 by omega) with rfl | rfl | rfl | rfl <;> rfl
    rw [e0]
    refine dcalls_of_vc Tryd.func40 hn40 hc40 (by rw [Tryd.ntmps40]; simp) (by rw [Tryd.ntmps40]; decide) ?_
    simp -dsimp -implicitDefEqProofs (disch := omega) only [VCA, Nat.reduceEqDiff, Nat.reduceAdd, Nat.reduceLeDiff, ↓reduceIte, eNode, c40, d1, eNode]
    exact ⟨_, Sub.refl _, Sub.refl _, .one _ _ .emp⟩
structure RefsSm (l : List HRef) : Prop where
  len : l.length ≤ 1073741824
  each : ∀ x ∈ l, RefSm x
def c30 : SFun := ⟨(.seq (.reg [⟨(some 4), (.mv (.c (.bool false))), none⟩]) (.seq (.seq (.reg [⟨(some 6), (.mv (.t 0)), none⟩, ⟨(some 7), (.len (.t 6)), none⟩, ⟨(some 8), (.mv (.t 1)), none⟩, ⟨(some 9), (.len (.t 8)), none⟩, ⟨(some 10), (.bin .neq (.t 7) (.t 9)), none⟩]) (.cond (.t 10) (.seq (.reg [⟨(some 4), (.mv (.c (.bool false))), none⟩]) .ret) .skip)) (.seq (.seq (.reg [⟨(some 5), (.mv (.c (.int .i64 (0)))), none⟩]) (.block 0 (.loop (.seq (.seq (.reg [⟨(some 11), (.mv (.t 5)), none⟩, ⟨(some 12), (.mv (.t 0)), none⟩, ⟨(some 13), (.len (.t 12)), none⟩, ⟨(some 14), (.bin .lss (.t 11) (.t 13)), none⟩]) (.cond (.t 14) .skip (.exit 0))) (.seq (.block 1 (.seq (.dreg [(⟨(some 17), (.mv (.t 0)), none⟩, none), (⟨(some 18), (.mv (.t 5)), none⟩, none), (⟨(some 19), (.idxA 2 (.t 17) (.t 18)), none⟩, none), (⟨(some 20), (.fldA 0 (.t 19)), none⟩, none), (⟨(some 21), (.ld 1 false (.t 20)), none⟩, none), (⟨(some 22), (.mv (.t 1)), none⟩, none), (⟨(some 23), (.mv (.t 5)), none⟩, none), (⟨(some 24), (.idxA 2 (.t 22) (.t 23)), none⟩, none), (⟨(some 25), (.fldA 0 (.t 24)), none⟩, none), (⟨(some 26), (.ld 1 false (.t 25)), none⟩, none), (⟨(some 27), (.bin .neq (.t 21) (.t 26)), none⟩, none), (⟨(some 28), (.mv (.t 27)), none⟩, none), (⟨(some 29), (.mv (.t 0)), (some (28, false))⟩, none), (⟨(some 30), (.mv (.t 5)), (some (28, false))⟩, none), (⟨(some 31), (.idxA 2 (.t 29) (.t 30)), (some (28, false))⟩, none), (⟨(some 32), (.fldA 1 (.t 31)), (some (28, false))⟩, none), (⟨(some 33), (.ld 1 false (.t 32)), (some (28, false))⟩, none), (⟨(some 34), (.mv (.t 1)), (some (28, false))⟩, none), (⟨(some 35), (.mv (.t 5)), (some (28, false))⟩, none), (⟨(some 36), (.idxA 2 (.t 34) (.t 35)), (some (28, false))⟩, none), (⟨(some 37), (.fldA 1 (.t 36)), (some (28, false))⟩, none), (⟨(some 38), (.ld 1 false (.t 37)), (some (28, false))⟩, none), (⟨(some 39), (.pcall 16 [(.t 33), (.t 38)]), (some (28, false))⟩, none), (⟨(some 40), (.un .not (.t 39)), (some (28, false))⟩, none), (⟨(some 41), (.pick (.t 28) (.c (.bool true)) (.t 40)), none⟩, none)]) (.cond (.t 41) (.seq (.reg [⟨(some 4), (.mv (.c (.bool false))), none⟩]) .ret) .skip))) (.reg [⟨(some 15), (.mv (.t 5)), none⟩, ⟨(some 16), (.bin .add (.t 15) (.c (.int .i64 (1)))), none⟩, ⟨(some 5), (.mv (.t 16)), none⟩])))))) (.seq (.reg [⟨(some 4), (.mv (.c (.bool true))), none⟩]) .ret)))), [(.tmp 4)]⟩
theorem hc30 : toSF Tryd.prog {pure := [16]} Tryd.f30 = some c30 := by kernel_rfl
theorem hn30 : (Tryd.f30.name == "runtime.NumGoroutine") = false := by kernel_rfl
theorem sameRefs_ok (a b : List HRef) (ha : RefsSm a) (hb : RefsSm b) : PCalls (Pg G) 30 [sl eRef a, sl eRef b] (.bool (decide (a = b))) := fun h => by
  have al := ha.len
  have bl := hb.len
  refine dcalls_of_vc Tryd.func30 hn30 hc30 (by rw [Tryd.ntmps30]; simp) (by rw [Tryd.ntmps30]; decide) ?_
  simp -dsimp -implicitDefEqProofs (disch := omega) only [VCA, Nat.reduceEqDiff, ↓reduceIte, reduceCtorEq, c30]
  refine Br.ne (fun h1 => ?_) (fun h1 => ?_)
  · simp -dsimp -implicitDefEqProofs (disch := omega) only [VCA, ↓reduceIte, exists_eq_right_right]
    exact ⟨Sub.refl _, (decide_eq_false fun e => h1 (by rw [e])).symm⟩
  have hl : a.length = b.length := by omega
  simp -dsimp -implicitDefEqProofs (disch := omega) only [VCA]
  refine LoopVC.intro (fun m e h' => ∃ k : Nat, k ≤ a.length ∧ m = a.length - k ∧ e 0 = sl eRef a ∧ e 1 = sl eRef b ∧ e 5 = aInt k ∧ h' = h ∧ ∀ j, j < k → nth a j = nth b j) a.length ⟨0, by omega, by omega, rfl, rfl, rfl, rfl, fun j hj => absurd hj (Nat.not_lt_zero j)⟩ ?_
  rintro m e h' ⟨k, hk, rfl, e0, e1, e5, rfl, hj⟩
  simp -dsimp -implicitDefEqProofs (disch := omega) only [VCA, Nat.reduceEqDiff, ↓reduceIte, reduceCtorEq, e0, e5]
  refine Br.dec (fun hlt => ?_) (fun hge => ?_)
  · have hk' : k < a.length := by omega
    have cS := sameN_ok (G := G) (nth a k).nodes (nth b k).nodes (ha.each _ (nth_mem' hk')).nodes (hb.each _ (nth_mem' (by omega))).nodes
    have no : nth a k ≠ nth b k → false = decide (a = b) := fun q => (decide_eq_false fun e => q (by rw [e])).symm
    by_cases hw : (nth a k).word = (nth b k).word
    · have d1 : ((nth a k).word != (nth b k).word) = false := by simpa using hw
      by_cases hn : (nth a k).nodes = (nth b k).nodes
      · rw [show ((nth a k).nodes == (nth b k).nodes) = true by simpa using hn] at cS
        have he : nth a k = nth b k := by
          generalize nth a k = x at hw hn
          generalize nth b k = y at hw hn
          cases x; cases y; simp_all
        repeat' (first | ((with_reducible refine Br.dec (fun _ => ?_) (fun _ => ?_)) <;> try (exfalso; omega)) | ((with_reducible refine Br.eq (fun _ => ?_) (fun _ => ?_)) <;> try (exfalso; omega)) | ((with_reducible refine Br.ne (fun _ => ?_) (fun _ => ?_)) <;> try (exfalso; omega)) | ((with_reducible refine brNdec (fun _ => ?_) (fun _ => ?_)) <;> try (exfalso; omega)) | ((with_reducible refine brNeq (fun _ => ?_) (fun _ => ?_)) <;> try (exfalso; omega)) | with_reducible refine Br.intro (fun _ => ?_) (fun _ => ?_) | (with_reducible apply pcallE.of; · exact cS) | (with_reducible refine And.intro ?_ ?_; · omega) | simp -dsimp -implicitDefEqProofs (disch := omega) only [↓vcD_sp 28, VCA, Nat.reduceEqDiff, Nat.reduceAdd, Nat.reduceLeDiff, ↓reduceIte, reduceCtorEq, rsOf, rootsOf, rootL, eRef, e0, e1, e5, d1, eRef])
        all_goals first
          | exact ⟨_, by omega, k + 1, by omega, rfl, by omega, fun j hj' => by
              by_cases q : j = k
              · rw [q]; exact he
              · exact hj j (by omega)⟩
          | trace_state
      · rw [show ((nth a k).nodes == (nth b k).nodes) = false by simpa using hn] at cS
        repeat' (first | ((with_reducible refine Br.dec (fun _ => ?_) (fun _ => ?_)) <;> try (exfalso; omega)) | ((with_reducible refine Br.eq (fun _ => ?_) (fun _ => ?_)) <;> try (exfalso; omega)) | ((with_reducible refine Br.ne (fun _ => ?_) (fun _ => ?_)) <;> try (exfalso; omega)) | ((with_reducible refine brNdec (fun _ => ?_) (fun _ => ?_)) <;> try (exfalso; omega)) | ((with_reducible refine brNeq (fun _ => ?_) (fun _ => ?_)) <;> try (exfalso; omega)) | with_reducible refine Br.intro (fun _ => ?_) (fun _ => ?_) | (with_reducible apply pcallE.of; · exact cS) | (with_reducible refine And.intro ?_ ?_; · omega) | simp -dsimp -implicitDefEqProofs (disch := omega) only [↓vcD_sp 28, VCA, Nat.reduceEqDiff, Nat.reduceAdd, Nat.reduceLeDiff, ↓reduceIte, reduceCtorEq, rsOf, rootsOf, exists_eq_right_right, rootL, eRef, e0, e1, e5, d1, eRef])
        all_goals first
          | exact ⟨Sub.refl _, no fun q => hn (by rw [q])⟩
          | trace_state
    · have d1 : ((nth a k).word != (nth b k).word) = true := by simpa using hw
      repeat' (first | ((with_reducible refine Br.dec (fun _ => ?_) (fun _ => ?_)) <;> try (exfalso; omega)) | ((with_reducible refine Br.eq (fun _ => ?_) (fun _ => ?_)) <;> try (exfalso; omega)) | ((with_reducible refine Br.ne (fun _ => ?_) (fun _ => ?_)) <;> try (exfalso; omega)) | ((with_reducible refine brNdec (fun _ => ?_) (fun _ => ?_)) <;> try (exfalso; omega)) | ((with_reducible refine brNeq (fun _ => ?_) (fun _ => ?_)) <;> try (exfalso; omega)) | with_reducible refine Br.intro (fun _ => ?_) (fun _ => ?_) | (with_reducible refine And.intro ?_ ?_; · omega) | simp -dsimp -implicitDefEqProofs (disch := omega) only [↓vcD_sp 28, VCA, Nat.reduceEqDiff, Nat.reduceAdd, Nat.reduceLeDiff, ↓reduceIte, reduceCtorEq, rsOf, rootsOf, exists_eq_right_right, rootL, eRef, e0, e1, e5, d1, eRef])
      all_goals first
        | exact ⟨Sub.refl _, no fun q => hw (by rw [q])⟩
        | trace_state
  · obtain rfl : k = a.length := by omega
    simp -dsimp -implicitDefEqProofs (disch := omega) only [VCA, ↓reduceIte, exists_eq_right_right]
    have he : a = b := by
      apply List.ext_getElem?
      intro j
      by_cases hlt : j < a.length
      · rw [nth_some hlt, nth_some (by omega), hj j hlt]
      · rw [List.getElem?_eq_none (by omega), List.getElem?_eq_none (by omega)]
    exact ⟨Sub.refl _, (decide_eq_true he).symm⟩
structure IdxSm (x : HIdx) : Prop where
  ids : RefsSm x.ids
  classes : RefsSm x.classes
  tags : RefsSm x.tags
  names : RefsSm x.names
def c13 : SFun := ⟨(.seq (.reg [⟨(some 2), (.boxF 29 4 (.t 0)), none⟩, ⟨(some 3), (.boxF 29 4 (.t 1)), none⟩, ⟨(some 4), (.mv (.c (.bool false))), none⟩]) (.seq (.reg [⟨(some 5), (.fldA 0 (.t 2)), none⟩, ⟨(some 6), (.ld 1 false (.t 5)), none⟩, ⟨(some 7), (.fldA 0 (.t 3)), none⟩, ⟨(some 8), (.ld 1 false (.t 7)), none⟩, ⟨(some 9), (.pcall 30 [(.t 6), (.t 8)]), none⟩, ⟨(some 10), (.mv (.t 9)), none⟩, ⟨(some 11), (.fldA 1 (.t 2)), (some (10, true))⟩, ⟨(some 12), (.ld 1 false (.t 11)), (some (10, true))⟩, ⟨(some 13), (.fldA 1 (.t 3)), (some (10, true))⟩, ⟨(some 14), (.ld 1 false (.t 13)), (some (10, true))⟩, ⟨(some 15), (.pcall 30 [(.t 12), (.t 14)]), (some (10, true))⟩, ⟨(some 16), (.pick (.t 10) (.t 15) (.c (.bool false))), none⟩, ⟨(some 17), (.mv (.t 16)), none⟩, ⟨(some 18), (.fldA 2 (.t 2)), (some (17, true))⟩, ⟨(some 19), (.ld 1 false (.t 18)), (some (17, true))⟩, ⟨(some 20), (.fldA 2 (.t 3)), (some (17, true))⟩, ⟨(some 21), (.ld 1 false (.t 20)), (some (17, true))⟩, ⟨(some 22), (.pcall 30 [(.t 19), (.t 21)]), (some (17, true))⟩, ⟨(some 23), (.pick (.t 17) (.t 22) (.c (.bool false))), none⟩, ⟨(some 24), (.mv (.t 23)), none⟩, ⟨(some 25), (.fldA 3 (.t 2)), (some (24, true))⟩, ⟨(some 26), (.ld 1 false (.t 25)), (some (24, true))⟩, ⟨(some 27), (.fldA 3 (.t 3)), (some (24, true))⟩, ⟨(some 28), (.ld 1 false (.t 27)), (some (24, true))⟩, ⟨(some 29), (.pcall 30 [(.t 26), (.t 28)]), (some (24, true))⟩, ⟨(some 30), (.pick (.t 24) (.t 29) (.c (.bool false))), none⟩, ⟨(some 4), (.mv (.t 30)), none⟩]) .ret)), [(.tmp 4)]⟩
theorem hc13 : toSF Tryd.prog {pure := [30]} Tryd.f13 = some c13 := by kernel_rfl
theorem hn13 : (Tryd.f13.name == "runtime.NumGoroutine") = false := by kernel_rfl
theorem sameIndex_ok (a b : HIdx) (ha : IdxSm a) (hb : IdxSm b) : PCalls (Pg G) 13 [.agg (eIdx a), .agg (eIdx b)] (.bool (decide (a = b))) := fun h => by
  have c1 := sameRefs_ok (G := G) a.ids b.ids ha.ids hb.ids
  have c2 := sameRefs_ok (G := G) a.classes b.classes ha.classes hb.classes
  have c3 := sameRefs_ok (G := G) a.tags b.tags ha.tags hb.tags
  have c4 := sameRefs_ok (G := G) a.names b.names ha.names hb.names
  have key : decide (a = b) = (decide (a.ids = b.ids) && (decide (a.classes = b.classes) && (decide (a.tags = b.tags) && decide (a.names = b.names)))) := by
    cases a; cases b; simp
  rw [key]
  refine dcalls_of_vc Tryd.func13 hn13 hc13 (by rw [Tryd.ntmps13]; simp) (by rw [Tryd.ntmps13]; decide) ?_
  simp -dsimp -implicitDefEqProofs (disch := omega) only [VCA, Nat.reduceEqDiff, Nat.reduceAdd, Nat.reduceLeDiff, ↓reduceIte, eIdx, c13, eIdx]
  repeat' (first | ((with_reducible refine Br.dec (fun _ => ?_) (fun _ => ?_)) <;> try (exfalso; omega)) | ((with_reducible refine Br.eq (fun _ => ?_) (fun _ => ?_)) <;> try (exfalso; omega)) | ((with_reducible refine Br.ne (fun _ => ?_) (fun _ => ?_)) <;> try (exfalso; omega)) | ((with_reducible refine brNdec (fun _ => ?_) (fun _ => ?_)) <;> try (exfalso; omega)) | ((with_reducible refine brNeq (fun _ => ?_) (fun _ => ?_)) <;> try (exfalso; omega)) | with_reducible refine Br.intro (fun _ => ?_) (fun _ => ?_) | (with_reducible apply pcallE.of; · exact c1) | (with_reducible apply pcallE.of; · exact c2) | (with_reducible apply pcallE.of; · exact c3) | (with_reducible apply pcallE.of; · exact c4) | (with_reducible refine And.intro ?_ ?_; · omega) | simp -dsimp -implicitDefEqProofs (disch := omega) only [↓vcOps_sp 10, ↓vcOps_sp 17, ↓vcOps_sp 24, VCA, Nat.reduceEqDiff, Nat.reduceAdd, Nat.reduceLeDiff, ↓reduceIte, exists_eq_right_right])
  all_goals exact ⟨Sub.refl _, by simp_all⟩
end Go.Proofs.K
end
section
/- The reference's index: the lists of a document. -/
set_option linter.unusedSimpArgs false
set_option linter.unusedVariables false
namespace Go.Proofs.K
open Go Go.Sim Go.Proofs Go.Shelf
variable {G : Glob}
/-! ## the next word, plain -/
structure Mn (ok : List UInt8 → Bool) (ws : List (List UInt8)) (next : List UInt8) (found : Bool) : Prop where
  no : found = false → ∀ w ∈ ws, ok w = false
  yes : found = true → next ∈ ws ∧ ok next = true ∧ ∀ w ∈ ws, ok w = true → ltS w next = false
theorem Mn.nil (ok : List UInt8 → Bool) (n : List UInt8) : Mn ok [] n false := ⟨(fun _ w hw => by cases hw), (fun h => by cases h)⟩
theorem Mn.skip {ok : List UInt8 → Bool} {ws : List (List UInt8)} {next w : List UInt8} {found : Bool} (M : Mn ok ws next found) (h : ok w = false ∨ (found = true ∧ ltS w next = false)) : Mn ok (ws ++ [w]) next found := by
  refine ⟨fun hf v hv => ?_, fun hf => ?_⟩
  · rcases List.mem_append.1 hv with hv | hv
    · exact M.no hf v hv
    · rw [List.mem_singleton] at hv
      subst hv
      rcases h with h | h
      · exact h
      · rw [hf] at h; cases h.1
  · obtain ⟨h1, h2, h3⟩ := M.yes hf
    refine ⟨List.mem_append_left _ h1, h2, fun v hv hk => ?_⟩
    rcases List.mem_append.1 hv with hv | hv
    · exact h3 v hv hk
    · rw [List.mem_singleton] at hv
      subst hv
      rcases h with h | h
      · rw [hk] at h; cases h
      · exact h.2
theorem Mn.take {ok : List UInt8 → Bool} {ws : List (List UInt8)} {next w : List UInt8} {found : Bool} (M : Mn ok ws next found) (h : ok w = true) (h2 : found = true → ltS w next = true) : Mn ok (ws ++ [w]) w true := by
  refine ⟨(fun hf => by cases hf), fun _ => ⟨List.mem_append_right _ (List.mem_singleton.2 rfl), h, fun v hv hk => ?_⟩⟩
  rcases List.mem_append.1 hv with hv | hv
  · cases hf : found with
    | false => rw [M.no hf v hv] at hk; cases hk
    | true =>
      have h3 := (M.yes hf).2.2 v hv hk
      cases hq : ltS v w with
      | false => rfl
      | true => rw [ltS_trans _ _ _ hq (h2 hf)] at h3; cases h3
  · rw [List.mem_singleton] at hv
    subst hv; exact ltS_irr _
/-! ## the code in parts -/
def c23 : SFun := ⟨(.seq (.reg [⟨(some 2), (.boxF 24 2 (.t 0)), none⟩, ⟨(some 4), (.mv (.c .emp)), none⟩]) (.seq (.reg [⟨(some 5), (.mv (.c .emp)), none⟩]) (.seq (.reg [⟨(some 18), (.ld 2 true (.t 2)), none⟩, ⟨(some 19), (.pcall 39 [(.t 18), (.c (.int .i64 (0)))]), none⟩, ⟨(some 6), (.mv (.t 19)), none⟩]) (.seq (.reg [⟨(some 7), (.mv (.c (.str []))), none⟩, ⟨(some 8), (.mv (.c (.bool false))), none⟩]) (.block 0 (.loop (.block 1 (.seq (.reg [⟨(some 9), (.mv (.c (.str []))), none⟩, ⟨(some 10), (.mv (.c (.bool false))), none⟩]) (.seq (.seq (.reg [⟨(some 11), (.mv (.c (.int .i64 (0)))), none⟩]) (.block 2 (.loop (.seq (.seq (.reg [⟨(some 20), (.mv (.t 11)), none⟩, ⟨(some 21), (.mv (.t 6)), none⟩, ⟨(some 22), (.len (.t 21)), none⟩, ⟨(some 23), (.bin .lss (.t 20) (.t 22)), none⟩]) (.cond (.t 23) .skip (.exit 2))) (.seq (.block 3 (.seq (.dreg [(⟨(some 26), (.fldA 0 (.t 2)), none⟩, none), (⟨(some 27), (.ld 1 false (.t 26)), none⟩, none), (⟨(some 28), (.mv (.t 6)), none⟩, none), (⟨(some 29), (.mv (.t 11)), none⟩, none), (⟨(some 30), (.idxA 1 (.t 28) (.t 29)), none⟩, none), (⟨(some 31), (.ld 1 false (.t 30)), none⟩, none), (⟨(some 32), (.idxA 6 (.t 27) (.t 31)), none⟩, none), (⟨(some 33), (.ld 6 true (.t 32)), none⟩, none), (⟨(some 34), (.mv (.t 1)), none⟩, none), (⟨(some 35), (.pcall 40 [(.t 33), (.t 34)]), none⟩, none), (⟨(some 12), (.mv (.t 35)), none⟩, none)]) (.seq (.reg [⟨(some 13), (.mv (.c (.int .i64 (0)))), none⟩]) (.block 4 (.loop (.seq (.seq (.reg [⟨(some 36), (.mv (.t 13)), none⟩, ⟨(some 37), (.mv (.t 12)), none⟩, ⟨(some 38), (.len (.t 37)), none⟩, ⟨(some 39), (.bin .lss (.t 36) (.t 38)), none⟩]) (.cond (.t 39) .skip (.exit 4))) (.seq (.block 5 (.seq (.reg [⟨(some 42), (.mv (.t 8)), none⟩, ⟨(some 43), (.un .not (.t 42)), none⟩, ⟨(some 44), (.mv (.t 43)), none⟩, ⟨(some 45), (.mv (.t 12)), (some (44, false))⟩, ⟨(some 46), (.mv (.t 13)), (some (44, false))⟩, ⟨(some 47), (.idxA 1 (.t 45) (.t 46)), (some (44, false))⟩, ⟨(some 48), (.ld 1 false (.t 47)), (some (44, false))⟩, ⟨(some 49), (.mv (.t 7)), (some (44, false))⟩, ⟨(some 50), (.bin .gtr (.t 48) (.t 49)), (some (44, false))⟩, ⟨(some 51), (.pick (.t 44) (.c (.bool true)) (.t 50)), none⟩, ⟨(some 52), (.mv (.t 51)), none⟩, ⟨(some 53), (.mv (.t 10)), (some (52, true))⟩, ⟨(some 54), (.un .not (.t 53)), (some (52, true))⟩, ⟨(some 55), (.mv (.t 54)), (some (52, true))⟩, ⟨(some 56), (.mv (.t 12)), (some (55, false))⟩, ⟨(some 57), (.mv (.t 13)), (some (55, false))⟩, ⟨(some 58), (.idxA 1 (.t 56) (.t 57)), (some (55, false))⟩, ⟨(some 59), (.ld 1 false (.t 58)), (some (55, false))⟩, ⟨(some 60), (.mv (.t 9)), (some (55, false))⟩, ⟨(some 61), (.bin .lss (.t 59) (.t 60)), (some (55, false))⟩, ⟨(some 62), (.pick (.t 55) (.c (.bool true)) (.t 61)), (some (52, true))⟩, ⟨(some 63), (.pick (.t 52) (.t 62) (.c (.bool false))), none⟩]) (.cond (.t 63) (.reg [⟨(some 64), (.mv (.t 12)), none⟩, ⟨(some 65), (.mv (.t 13)), none⟩, ⟨(some 66), (.idxA 1 (.t 64) (.t 65)), none⟩, ⟨(some 67), (.ld 1 false (.t 66)), none⟩, ⟨(some 9), (.mv (.t 67)), none⟩, ⟨(some 10), (.mv (.c (.bool true))), none⟩]) .skip))) (.reg [⟨(some 40), (.mv (.t 13)), none⟩, ⟨(some 41), (.bin .add (.t 40) (.c (.int .i64 (1)))), none⟩, ⟨(some 13), (.mv (.t 41)), none⟩])))))))) (.reg [⟨(some 24), (.mv (.t 11)), none⟩, ⟨(some 25), (.bin .add (.t 24) (.c (.int .i64 (1)))), none⟩, ⟨(some 11), (.mv (.t 25)), none⟩])))))) (.seq (.seq (.reg [⟨(some 68), (.mv (.t 10)), none⟩, ⟨(some 69), (.un .not (.t 68)), none⟩]) (.cond (.t 69) (.seq (.reg [⟨(some 70), (.mv (.t 5)), none⟩, ⟨(some 4), (.mv (.t 70)), none⟩]) .ret) .skip)) (.seq (.reg [⟨(some 71), (.mv (.t 9)), none⟩, ⟨(some 72), (.bld [(.str []), .emp] [(0, (1, (.t 71)))]), none⟩, ⟨(some 14), (.new 45 2 [(.str []), .emp]), none⟩, ⟨none, (.st 2 (.t 14) (.t 72)), none⟩]) (.seq (.seq (.reg [⟨(some 15), (.mv (.c (.int .i64 (0)))), none⟩]) (.block 6 (.loop (.seq (.seq (.reg [⟨(some 73), (.mv (.t 15)), none⟩, ⟨(some 74), (.mv (.t 6)), none⟩, ⟨(some 75), (.len (.t 74)), none⟩, ⟨(some 76), (.bin .lss (.t 73) (.t 75)), none⟩]) (.cond (.t 76) .skip (.exit 6))) (.seq (.block 7 (.seq (.dreg [(⟨(some 79), (.fldA 0 (.t 2)), none⟩, none), (⟨(some 80), (.ld 1 false (.t 79)), none⟩, none), (⟨(some 81), (.mv (.t 6)), none⟩, none), (⟨(some 82), (.mv (.t 15)), none⟩, none), (⟨(some 83), (.idxA 1 (.t 81) (.t 82)), none⟩, none), (⟨(some 84), (.ld 1 false (.t 83)), none⟩, none), (⟨(some 85), (.idxA 6 (.t 80) (.t 84)), none⟩, none), (⟨(some 86), (.ld 6 true (.t 85)), none⟩, none), (⟨(some 87), (.mv (.t 1)), none⟩, none), (⟨(some 88), (.pcall 40 [(.t 86), (.t 87)]), none⟩, none), (⟨(some 16), (.mv (.t 88)), none⟩, none)]) (.seq (.reg [⟨(some 17), (.mv (.c (.int .i64 (0)))), none⟩]) (.block 8 (.loop (.seq (.seq (.reg [⟨(some 89), (.mv (.t 17)), none⟩, ⟨(some 90), (.mv (.t 16)), none⟩, ⟨(some 91), (.len (.t 90)), none⟩, ⟨(some 92), (.bin .lss (.t 89) (.t 91)), none⟩]) (.cond (.t 92) .skip (.exit 8))) (.seq (.block 9 (.seq (.reg [⟨(some 95), (.mv (.t 16)), none⟩, ⟨(some 96), (.mv (.t 17)), none⟩, ⟨(some 97), (.idxA 1 (.t 95) (.t 96)), none⟩, ⟨(some 98), (.ld 1 false (.t 97)), none⟩, ⟨(some 99), (.mv (.t 9)), none⟩, ⟨(some 100), (.bin .eql (.t 98) (.t 99)), none⟩]) (.cond (.t 100) (.dreg [(⟨(some 101), (.fldA 1 (.t 14)), none⟩, none), (⟨(some 102), (.ld 1 false (.t 101)), none⟩, none), (⟨(some 103), (.mv (.t 6)), none⟩, none), (⟨(some 104), (.mv (.t 15)), none⟩, none), (⟨(some 105), (.idxA 1 (.t 103) (.t 104)), none⟩, none), (⟨(some 106), (.ld 1 false (.t 105)), none⟩, none), (⟨(some 107), (.bldF 3 1 [(.t 106)]), none⟩, none), (⟨(some 108), (.app 3 1 8 (.t 102) (.t 107)), none⟩, (some [102, 106])), (⟨(some 109), (.fldA 1 (.t 14)), none⟩, none), (⟨none, (.st 1 (.t 109) (.t 108)), none⟩, (some [102, 106]))]) .skip))) (.reg [⟨(some 93), (.mv (.t 17)), none⟩, ⟨(some 94), (.bin .add (.t 93) (.c (.int .i64 (1)))), none⟩, ⟨(some 17), (.mv (.t 94)), none⟩])))))))) (.reg [⟨(some 77), (.mv (.t 15)), none⟩, ⟨(some 78), (.bin .add (.t 77) (.c (.int .i64 (1)))), none⟩, ⟨(some 15), (.mv (.t 78)), none⟩])))))) (.seq (.reg [⟨(some 110), (.mv (.t 5)), none⟩, ⟨(some 111), (.ld 2 true (.t 14)), none⟩, ⟨(some 112), (.bldF 45 2 [(.t 111)]), none⟩, ⟨(some 113), (.app 45 2 40 (.t 110) (.t 112)), none⟩, ⟨(some 5), (.mv (.t 113)), none⟩]) (.reg [⟨(some 114), (.mv (.t 9)), none⟩, ⟨(some 7), (.mv (.t 114)), none⟩, ⟨(some 8), (.mv (.c (.bool true))), none⟩])))))))))))))), [(.tmp 4)]⟩
theorem hc23 : toSF Tryd.prog {pure := [39, 40]} Tryd.f23 = some c23 := by kernel_rfl
theorem hn23 : (Tryd.f23.name == "runtime.NumGoroutine") = false := by kernel_rfl
/-- a round -/
def refB : SCode := cB (cB (cB (cR (cR (cR (cR c23.code))))))
/-- the search for the next word -/
def fstC : SCode := cR (cL (cR refB))
/-- the word's nodes -/
def putC : SCode := cR (cL (cR (cR (cR (cR refB)))))
/-- what the search leaves -/
def Fi (e0 e : Env) : Prop := ∀ t, t ≤ 8 → e t = e0 t
theorem Fi.refl (e : Env) : Fi e e := fun _ _ => rfl
theorem Fi.put {e0 e : Env} (F : Fi e0 e) {k : Nat} (hk : 9 ≤ k) (v : AVal) : Fi e0 (upd e k v) := fun t h1 => by
  rw [upd_ne _ _ (by omega)]; exact F t h1
def okW (begun : Bool) (last w : List UInt8) : Bool := !begun || ltS last w
/-- what is known of the document and the order -/
structure RD (d : HDoc) (l : List Int) : Prop where
  sm : DocSm d
  V : DV d
  ll : l.length ≤ 200
  mem : ∀ n ∈ l, inD d n
theorem gtS_is (a b : List UInt8) : (!(Op.bytesLess a b || a == b)) = ltS b a := by
  rcases ltS_tri a b with h | h | h
  · have h' : Op.bytesLess a b = true := h
    rw [h', ltS_asym h]; rfl
  · subst h
    have h' : Op.bytesLess a a = false := ltS_irr a
    rw [h']; simp [ltS_irr]
  · have h' : Op.bytesLess a b = false := ltS_asym h
    have h2 : (a == b) = false := by
      rw [beq_eq_false_iff_ne]; intro e; subst e; rw [ltS_irr] at h; cases h
    rw [h', h2, h]; rfl
set_option maxHeartbeats 2000000 in
theorem fst_ok {d : HDoc} {l : List Int} (R : RD d l) {c : Nat} (hc : c < 4) {e : Env} {h : Heap} {K : SExit → Env → Heap → Prop} {last : List UInt8} {begun : Bool} (e1 : e 1 = aInt ((c : Int) + 1)) (e2 : e 2 = .pin (eDoc d)) (e6 : e 6 = sl eInt l) (e7 : e 7 = .str last) (e8 : e 8 = .bool begun) (e9 : e 9 = .str []) (e10 : e 10 = .bool false) (e11 : e 11 = aInt 0)
    (hK : ∀ (e' : Env) next found, Fi e e' → e' 9 = .str next → e' 10 = .bool found → Mn (okW begun last) ((prsD d l c).map (·.1)) next found → K .normal e' h) : vc (Pg G) fstC K e h := by
  have hdl := R.V.len
  have hll := R.ll
  skip
  simp -dsimp -implicitDefEqProofs (disch := omega) only [VCA, fstC, refB, cL, cR, cB, c23]
  refine LoopVC.intro (fun m e' h' => ∃ (i : Nat) (next : List UInt8) (found : Bool), i ≤ l.length ∧ m = l.length - i ∧ Fi e e' ∧ e' 9 = .str next ∧ e' 10 = .bool found ∧ e' 11 = aInt i ∧ h' = h ∧ Mn (okW begun last) ((prsD d (l.take i) c).map (·.1)) next found) l.length
    (by exact ⟨0, [], false, by omega, by omega, .refl e, e9, e10, e11, rfl, .nil _ _⟩) ?_
  rintro m e' h' ⟨i, next, found, hi, rfl, hp, e9', e10', e11', rfl, M⟩
  have e1' := (hp 1 (by omega)).trans e1
  have e2' := (hp 2 (by omega)).trans e2
  have e6' := (hp 6 (by omega)).trans e6
  simp -dsimp -implicitDefEqProofs (disch := omega) only [VCA, Nat.reduceEqDiff, ↓reduceIte, e6', e11']
  refine Br.dec (fun hlt => ?_) (fun hge => ?_)
  · have hi' : i < l.length := by omega
    have hn := R.mem _ (nth_mem' hi')
    have n0 := hn.1
    have n1 := hn.2
    have hW := words4_dv R.V hn
    have hx := attV_le (R.V.node _ hn) classS
    have cW := refWordsOf_ok (G := G) (nd d (nth l i)) (R.sm.nd _) (by omega) c hc
    have en : nth d.nodes (nth l i).toNat = nd d (nth l i) := rfl
    have hwl := hW.le c hc
    obtain ⟨W, hWe⟩ : ∃ W, nth (words4 (nd d (nth l i))) c = W := ⟨_, rfl⟩
    have hts : prsD d (l.take (i + 1)) c = prsD d (l.take i) c ++ prs W (nth l i) := by rw [take_snoc hi', prsD_snoc, hWe]
    have hsn : (prsD d (l.take (i + 1)) c).map (·.1) = (prsD d (l.take i) c).map (·.1) ++ W := by
      rw [hts, List.map_append]
      congr 1
      unfold prs
      rw [List.map_map]
      exact List.map_id' _
    rw [hWe] at cW hwl
    unfold eNode at cW
    repeat' (first | ((with_reducible refine Br.dec (fun _ => ?_) (fun _ => ?_)) <;> try (exfalso; omega)) | ((with_reducible refine Br.eq (fun _ => ?_) (fun _ => ?_)) <;> try (exfalso; omega)) | ((with_reducible refine Br.ne (fun _ => ?_) (fun _ => ?_)) <;> try (exfalso; omega)) | ((with_reducible refine brNdec (fun _ => ?_) (fun _ => ?_)) <;> try (exfalso; omega)) | ((with_reducible refine brNeq (fun _ => ?_) (fun _ => ?_)) <;> try (exfalso; omega)) | with_reducible refine Br.intro (fun _ => ?_) (fun _ => ?_) | (with_reducible apply pcallE.of; · exact cW) | (with_reducible refine And.intro ?_ ?_; · omega) | simp -dsimp -implicitDefEqProofs (disch := omega) only [VCA, Nat.reduceEqDiff, Nat.reduceAdd, Nat.reduceLeDiff, ↓reduceIte, rsOf, rootsOf, rootL, eInt, eNode, e1', e2', e6', e11', eDoc, en])
    refine LoopVC.intro (fun m e2 h2 => ∃ (k : Nat) (next : List UInt8) (found : Bool), k ≤ W.length ∧ m = W.length - k ∧ Fi e e2 ∧ e2 9 = .str next ∧ e2 10 = .bool found ∧ e2 11 = aInt i ∧ e2 12 = sl eStr W ∧ e2 13 = aInt k ∧ h2 = h' ∧ Mn (okW begun last) ((prsD d (l.take i) c).map (·.1) ++ W.take k) next found) W.length
      (by exact ⟨0, next, found, by omega, by omega, by repeat' (first | exact hp | refine Fi.put ?_ (by omega) _), e9', e10', e11', rfl, rfl, rfl, by rw [List.take_zero, List.append_nil]; exact M⟩) ?_
    clear M
    rintro m e2 h2 ⟨k, next, found, hk, rfl, hp2, f9, f10, f11, f12, f13, rfl, M⟩
    have f7 := (hp2 7 (by omega)).trans e7
    have f8 := (hp2 8 (by omega)).trans e8
    simp -dsimp -implicitDefEqProofs (disch := omega) only [VCA, Nat.reduceEqDiff, ↓reduceIte, f12, f13]
    refine Br.dec (fun hlt2 => ?_) (fun hge2 => ?_)
    · have hk' : k < W.length := by omega
      have hg := gtS_is (nth W k) last
      have tk : W.take (k + 1) = W.take k ++ [nth W k] := take_snoc hk'
      have fin : ∀ {nx fd}, Mn (okW begun last) ((prsD d (l.take i) c).map (·.1) ++ W.take k ++ [nth W k]) nx fd → Mn (okW begun last) ((prsD d (l.take i) c).map (·.1) ++ W.take (k + 1)) nx fd := fun q => by rw [tk, ← List.append_assoc]; exact q
      cases hb : begun <;> rw [hb] at f8 M fin
      · have ok : okW false last (nth W k) = true := rfl
        cases hf : found <;> rw [hf] at f10 M
        · repeat' (first | ((with_reducible refine Br.dec (fun _ => ?_) (fun _ => ?_)) <;> try (exfalso; omega)) | ((with_reducible refine Br.eq (fun _ => ?_) (fun _ => ?_)) <;> try (exfalso; omega)) | ((with_reducible refine Br.ne (fun _ => ?_) (fun _ => ?_)) <;> try (exfalso; omega)) | ((with_reducible refine brNdec (fun _ => ?_) (fun _ => ?_)) <;> try (exfalso; omega)) | ((with_reducible refine brNeq (fun _ => ?_) (fun _ => ?_)) <;> try (exfalso; omega)) | with_reducible refine Br.intro (fun _ => ?_) (fun _ => ?_) | (with_reducible refine And.intro ?_ ?_; · omega) | simp -dsimp -implicitDefEqProofs (disch := omega) only [↓vcOps_sp 44, ↓vcOps_sp 52, ↓vcOps_sp 55, VCA, Nat.reduceEqDiff, ↓reduceIte, eStr, f8, f10, f11, f12, f13])
          exact ⟨_, by omega, k + 1, _, _, by omega, rfl, by repeat' (first | exact hp2 | refine Fi.put ?_ (by omega) _), rfl, rfl, by omega, fin (M.take ok fun h => by cases h)⟩
        · cases hl : ltS (nth W k) next
          · have hl' : Op.bytesLess (nth W k) next = false := hl
            repeat' (first | ((with_reducible refine Br.dec (fun _ => ?_) (fun _ => ?_)) <;> try (exfalso; omega)) | ((with_reducible refine Br.eq (fun _ => ?_) (fun _ => ?_)) <;> try (exfalso; omega)) | ((with_reducible refine Br.ne (fun _ => ?_) (fun _ => ?_)) <;> try (exfalso; omega)) | ((with_reducible refine brNdec (fun _ => ?_) (fun _ => ?_)) <;> try (exfalso; omega)) | ((with_reducible refine brNeq (fun _ => ?_) (fun _ => ?_)) <;> try (exfalso; omega)) | with_reducible refine Br.intro (fun _ => ?_) (fun _ => ?_) | (with_reducible refine And.intro ?_ ?_; · omega) | simp -dsimp -implicitDefEqProofs (disch := omega) only [↓vcOps_sp 44, ↓vcOps_sp 52, ↓vcOps_sp 55, VCA, Nat.reduceEqDiff, ↓reduceIte, eStr, f8, f9, f10, f11, f12, f13, hl'])
            exact ⟨_, by omega, k + 1, _, _, by omega, rfl, by repeat' (first | exact hp2 | refine Fi.put ?_ (by omega) _), rfl, rfl, by omega, fin (M.skip (.inr ⟨rfl, hl⟩))⟩
          · have hl' : Op.bytesLess (nth W k) next = true := hl
            repeat' (first | ((with_reducible refine Br.dec (fun _ => ?_) (fun _ => ?_)) <;> try (exfalso; omega)) | ((with_reducible refine Br.eq (fun _ => ?_) (fun _ => ?_)) <;> try (exfalso; omega)) | ((with_reducible refine Br.ne (fun _ => ?_) (fun _ => ?_)) <;> try (exfalso; omega)) | ((with_reducible refine brNdec (fun _ => ?_) (fun _ => ?_)) <;> try (exfalso; omega)) | ((with_reducible refine brNeq (fun _ => ?_) (fun _ => ?_)) <;> try (exfalso; omega)) | with_reducible refine Br.intro (fun _ => ?_) (fun _ => ?_) | (with_reducible refine And.intro ?_ ?_; · omega) | simp -dsimp -implicitDefEqProofs (disch := omega) only [↓vcOps_sp 44, ↓vcOps_sp 52, ↓vcOps_sp 55, VCA, Nat.reduceEqDiff, ↓reduceIte, eStr, f8, f9, f10, f11, f12, f13, hl'])
            exact ⟨_, by omega, k + 1, _, _, by omega, rfl, by repeat' (first | exact hp2 | refine Fi.put ?_ (by omega) _), rfl, rfl, by omega, fin (M.take ok fun _ => hl)⟩
      · cases hg2 : ltS last (nth W k) <;> rw [hg2] at hg
        · have ok : okW true last (nth W k) = false := hg2
          repeat' (first | ((with_reducible refine Br.dec (fun _ => ?_) (fun _ => ?_)) <;> try (exfalso; omega)) | ((with_reducible refine Br.eq (fun _ => ?_) (fun _ => ?_)) <;> try (exfalso; omega)) | ((with_reducible refine Br.ne (fun _ => ?_) (fun _ => ?_)) <;> try (exfalso; omega)) | ((with_reducible refine brNdec (fun _ => ?_) (fun _ => ?_)) <;> try (exfalso; omega)) | ((with_reducible refine brNeq (fun _ => ?_) (fun _ => ?_)) <;> try (exfalso; omega)) | with_reducible refine Br.intro (fun _ => ?_) (fun _ => ?_) | (with_reducible refine And.intro ?_ ?_; · omega) | simp -dsimp -implicitDefEqProofs (disch := omega) only [↓vcOps_sp 44, ↓vcOps_sp 52, ↓vcOps_sp 55, VCA, Nat.reduceEqDiff, ↓reduceIte, eStr, f7, f8, f9, f10, f11, f12, f13, hg])
          exact ⟨_, by omega, k + 1, _, _, by omega, rfl, by repeat' (first | exact hp2 | refine Fi.put ?_ (by omega) _), rfl, rfl, by omega, fin (M.skip (.inl ok))⟩
        · have ok : okW true last (nth W k) = true := hg2
          cases hf : found <;> rw [hf] at f10 M
          · repeat' (first | ((with_reducible refine Br.dec (fun _ => ?_) (fun _ => ?_)) <;> try (exfalso; omega)) | ((with_reducible refine Br.eq (fun _ => ?_) (fun _ => ?_)) <;> try (exfalso; omega)) | ((with_reducible refine Br.ne (fun _ => ?_) (fun _ => ?_)) <;> try (exfalso; omega)) | ((with_reducible refine brNdec (fun _ => ?_) (fun _ => ?_)) <;> try (exfalso; omega)) | ((with_reducible refine brNeq (fun _ => ?_) (fun _ => ?_)) <;> try (exfalso; omega)) | with_reducible refine Br.intro (fun _ => ?_) (fun _ => ?_) | (with_reducible refine And.intro ?_ ?_; · omega) | simp -dsimp -implicitDefEqProofs (disch := omega) only [↓vcOps_sp 44, ↓vcOps_sp 52, ↓vcOps_sp 55, VCA, Nat.reduceEqDiff, ↓reduceIte, eStr, f7, f8, f10, f11, f12, f13, hg])
            exact ⟨_, by omega, k + 1, _, _, by omega, rfl, by repeat' (first | exact hp2 | refine Fi.put ?_ (by omega) _), rfl, rfl, by omega, fin (M.take ok fun h => by cases h)⟩
          · cases hl : ltS (nth W k) next
            · have hl' : Op.bytesLess (nth W k) next = false := hl
              repeat' (first | ((with_reducible refine Br.dec (fun _ => ?_) (fun _ => ?_)) <;> try (exfalso; omega)) | ((with_reducible refine Br.eq (fun _ => ?_) (fun _ => ?_)) <;> try (exfalso; omega)) | ((with_reducible refine Br.ne (fun _ => ?_) (fun _ => ?_)) <;> try (exfalso; omega)) | ((with_reducible refine brNdec (fun _ => ?_) (fun _ => ?_)) <;> try (exfalso; omega)) | ((with_reducible refine brNeq (fun _ => ?_) (fun _ => ?_)) <;> try (exfalso; omega)) | with_reducible refine Br.intro (fun _ => ?_) (fun _ => ?_) | (with_reducible refine And.intro ?_ ?_; · omega) | simp -dsimp -implicitDefEqProofs (disch := omega) only [↓vcOps_sp 44, ↓vcOps_sp 52, ↓vcOps_sp 55, VCA, Nat.reduceEqDiff, ↓reduceIte, eStr, f7, f8, f9, f10, f11, f12, f13, hg, hl'])
              exact ⟨_, by omega, k + 1, _, _, by omega, rfl, by repeat' (first | exact hp2 | refine Fi.put ?_ (by omega) _), rfl, rfl, by omega, fin (M.skip (.inr ⟨rfl, hl⟩))⟩
            · have hl' : Op.bytesLess (nth W k) next = true := hl
              repeat' (first | ((with_reducible refine Br.dec (fun _ => ?_) (fun _ => ?_)) <;> try (exfalso; omega)) | ((with_reducible refine Br.eq (fun _ => ?_) (fun _ => ?_)) <;> try (exfalso; omega)) | ((with_reducible refine Br.ne (fun _ => ?_) (fun _ => ?_)) <;> try (exfalso; omega)) | ((with_reducible refine brNdec (fun _ => ?_) (fun _ => ?_)) <;> try (exfalso; omega)) | ((with_reducible refine brNeq (fun _ => ?_) (fun _ => ?_)) <;> try (exfalso; omega)) | with_reducible refine Br.intro (fun _ => ?_) (fun _ => ?_) | (with_reducible refine And.intro ?_ ?_; · omega) | simp -dsimp -implicitDefEqProofs (disch := omega) only [↓vcOps_sp 44, ↓vcOps_sp 52, ↓vcOps_sp 55, VCA, Nat.reduceEqDiff, ↓reduceIte, eStr, f7, f8, f9, f10, f11, f12, f13, hg, hl'])
              exact ⟨_, by omega, k + 1, _, _, by omega, rfl, by repeat' (first | exact hp2 | refine Fi.put ?_ (by omega) _), rfl, rfl, by omega, fin (M.take ok fun _ => hl)⟩
    · obtain rfl : k = W.length := by omega
      rw [List.take_length, ← hsn] at M
      simp -dsimp -implicitDefEqProofs (disch := omega) only [VCA, Nat.reduceEqDiff, ↓reduceIte, f11]
      exact ⟨_, by omega, i + 1, next, found, by omega, rfl, by repeat' (first | exact hp2 | refine Fi.put ?_ (by omega) _), f9, f10, by omega, M⟩
  · obtain rfl : i = l.length := by omega
    rw [List.take_length] at M
    simp -dsimp -implicitDefEqProofs (disch := omega) only [VCA, ↓reduceIte]
    exact hK _ _ _ (by repeat' (first | exact hp | refine Fi.put ?_ (by omega) _)) e9' e10' M
/-! ## the word's nodes -/
def Fj (e0 e : Env) : Prop := ∀ t, t ≤ 10 ∨ t = 14 → e t = e0 t
theorem Fj.refl (e : Env) : Fj e e := fun _ _ => rfl
theorem Fj.put {e0 e : Env} (F : Fj e0 e) {k : Nat} (hk : 15 ≤ k) (v : AVal) : Fj e0 (upd e k v) := fun t h1 => by
  rw [upd_ne _ _ (by omega)]; exact F t h1
/-- the row that is being filled: its word, its numbers in a root of its own -/
structure Rw (h h' : Heap) (r : Nat) (w : List UInt8) (ns : List Int) (a : AVal) : Prop where
  row : h' r = some ⟨.t 45, 2, [[.str w, a]]⟩
  acc : Acc (del h r) 3 1 (ns.map eInt) a h'
  sub : Sim.Sub (del h r) h'
  ne : rootOf a ≠ some r
set_option maxHeartbeats 2000000 in
theorem put2_ok {d : HDoc} {l : List Int} (R : RD d l) {c : Nat} (hc : c < 4) {e : Env} {h : Heap} {K : SExit → Env → Heap → Prop} {w : List UInt8} {r : Nat} (e1 : e 1 = aInt ((c : Int) + 1)) (e2 : e 2 = .pin (eDoc d)) (e6 : e 6 = sl eInt l) (e9 : e 9 = .str w) (e14 : e 14 = .vp r 0) (e15 : e 15 = aInt 0) (hr : h r = some ⟨.t 45, 2, [[.str w, .emp]]⟩)
    (hK : ∀ (e' : Env) h' a, Fj e e' → Rw h h' r w (nodesOf (prsD d l c) w) a → K .normal e' h') : vc (Pg G) putC K e h := by
  have hdl := R.V.len
  have hll := R.ll
  skip
  simp -dsimp -implicitDefEqProofs (disch := omega) only [VCA, putC, refB, cL, cR, cB, c23]
  refine LoopVC.intro (fun m e' h' => ∃ (i : Nat) (a : AVal), i ≤ l.length ∧ m = l.length - i ∧ Fj e e' ∧ e' 15 = aInt i ∧ Rw h h' r w (nodesOf (prsD d (l.take i) c) w) a) l.length
    (by exact ⟨0, .emp, by omega, by omega, .refl e, e15, hr, .nil, fun t o ht => by
      unfold del at ht; split at ht
      · cases ht
      · exact ht, fun q => by cases q⟩) ?_
  rintro m e' h' ⟨i, a, hi, rfl, hp, e15', W0⟩
  have e1' := (hp 1 (by omega)).trans e1
  have e2' := (hp 2 (by omega)).trans e2
  have e6' := (hp 6 (by omega)).trans e6
  simp -dsimp -implicitDefEqProofs (disch := omega) only [VCA, Nat.reduceEqDiff, ↓reduceIte, e6', e15']
  refine Br.dec (fun hlt => ?_) (fun hge => ?_)
  · have hi' : i < l.length := by omega
    have hn := R.mem _ (nth_mem' hi')
    have n0 := hn.1
    have n1 := hn.2
    have hW := words4_dv R.V hn
    have hx := attV_le (R.V.node _ hn) classS
    have cW := refWordsOf_ok (G := G) (nd d (nth l i)) (R.sm.nd _) (by omega) c hc
    have en : nth d.nodes (nth l i).toNat = nd d (nth l i) := rfl
    have hwl := hW.le c hc
    obtain ⟨W, hWe⟩ : ∃ W, nth (words4 (nd d (nth l i))) c = W := ⟨_, rfl⟩
    have hts : prsD d (l.take (i + 1)) c = prsD d (l.take i) c ++ prs W (nth l i) := by rw [take_snoc hi', prsD_snoc, hWe]
    have hpl := prsD_len R.V (l := l.take i) (fun n hn => R.mem n (List.mem_of_mem_take hn)) hc
    have hpl2 : (l.take i).length = i := by rw [List.length_take]; omega
    rw [hpl2] at hpl
    obtain ⟨P, hP⟩ : ∃ P, prsD d (l.take i) c = P := ⟨_, rfl⟩
    rw [hP] at W0 hts hpl
    rw [hWe] at cW hwl
    unfold eNode at cW
    repeat' (first | ((with_reducible refine Br.dec (fun _ => ?_) (fun _ => ?_)) <;> try (exfalso; omega)) | ((with_reducible refine Br.eq (fun _ => ?_) (fun _ => ?_)) <;> try (exfalso; omega)) | ((with_reducible refine Br.ne (fun _ => ?_) (fun _ => ?_)) <;> try (exfalso; omega)) | ((with_reducible refine brNdec (fun _ => ?_) (fun _ => ?_)) <;> try (exfalso; omega)) | ((with_reducible refine brNeq (fun _ => ?_) (fun _ => ?_)) <;> try (exfalso; omega)) | with_reducible refine Br.intro (fun _ => ?_) (fun _ => ?_) | (with_reducible apply pcallE.of; · exact cW) | (with_reducible refine And.intro ?_ ?_; · omega) | simp -dsimp -implicitDefEqProofs (disch := omega) only [VCA, Nat.reduceEqDiff, Nat.reduceAdd, Nat.reduceLeDiff, ↓reduceIte, rsOf, rootsOf, rootL, eInt, eNode, e1', e2', e6', e15', eDoc, en])
    refine LoopVC.intro (fun m e2 h2 => ∃ (k : Nat) (a : AVal), k ≤ W.length ∧ m = W.length - k ∧ Fj e e2 ∧ e2 15 = aInt i ∧ e2 16 = sl eStr W ∧ e2 17 = aInt k ∧ Rw h h2 r w (nodesOf (P ++ prs (W.take k) (nth l i)) w) a) W.length
      (by exact ⟨0, a, by omega, by omega, by repeat' (first | exact hp | refine Fj.put ?_ (by omega) _), e15', rfl, rfl, by rw [List.take_zero]; show Rw h h' r w (nodesOf (P ++ []) w) a; rw [List.append_nil]; exact W0⟩) ?_
    clear W0
    rintro m e2 h2 ⟨k, a, hk, rfl, hp2, f15, f16, f17, W1⟩
    have f9 := (hp2 9 (by omega)).trans e9
    have f6 := (hp2 6 (by omega)).trans e6
    have f14 := (hp2 14 (by omega)).trans e14
    have hrow := W1.row
    simp -dsimp -implicitDefEqProofs (disch := omega) only [VCA, Nat.reduceEqDiff, ↓reduceIte, f16, f17]
    refine Br.dec (fun hlt2 => ?_) (fun hge2 => ?_)
    · have hk' : k < W.length := by omega
      have tk : P ++ prs (W.take (k + 1)) (nth l i) = (P ++ prs (W.take k) (nth l i)) ++ [(nth W k, nth l i)] := by
        rw [take_snoc hk', List.append_assoc]; unfold prs; rw [List.map_append]; rfl
      by_cases hw : nth W k = w
      · have d1 : (nth W k == w) = true := by simpa using hw
        have hln := nodesOf_len (P ++ prs (W.take k) (nth l i)) w
        rw [List.length_append, prs_len, List.length_take] at hln
        have ns : nodesOf (P ++ prs (W.take (k + 1)) (nth l i)) w = nodesOf (P ++ prs (W.take k) (nth l i)) w ++ [nth l i] := by
          rw [tk, nodesOf_app, nodesOf_one, if_pos hw]
        simp -dsimp -implicitDefEqProofs (disch := omega) only [VCA, Nat.reduceEqDiff, Nat.reduceAdd, Nat.reduceLT, ↓reduceIte, rsOf, rootsOf, okParts, forall_eq, exists_eq_left, exists_eq_left', rootL, eInt, eStr, f6, f9, f14, f15, f16, f17, d1, hrow]
        refine ⟨⟨by omega, by omega⟩, ⟨by omega, by omega⟩, W1.acc.appW W1.sub (by simp only [List.length_map, List.length_cons, List.length_nil]; omega) (by simp only [List.length_map, List.length_cons, List.length_nil]; omega) fun a' h3 A' S' kp => ?_⟩
        obtain ⟨k1, k2⟩ := kp r _ hrow W1.ne
        refine ⟨fun p hp hc => ?_, ?_⟩
        · rw [List.mem_singleton] at hp; subst hp; simp [SOp.rd] at hc
        have iv := (OwnS.of_acc A').1.isV
        simp -dsimp -implicitDefEqProofs (disch := omega) only [VCA, Nat.reduceEqDiff, Nat.reduceBEq, Nat.reduceAdd, Nat.reduceLT, ↓reduceIte, rsOf, rootsOf, SOp.rd, SI.rd, SX.rd, setAt, exists_eq_left', rootL, f14, f15, f16, f17, k1]
        refine ⟨iv.1, by rw [iv.2]; rfl, _, by omega, k + 1, a', by omega, rfl, by repeat' (first | exact hp2 | refine Fj.put ?_ (by omega) _), by omega, ?_⟩
        rw [ns]
        refine ⟨?_, ?_, ?_, k2⟩
        · rw [upd_same, iv.2]; rfl
        · rw [List.map_append]
          exact A'.keepA k2 _
        · exact S'.upd (by unfold del; rw [if_pos rfl])
      · have d1 : (nth W k == w) = false := by simpa using hw
        have ns : nodesOf (P ++ prs (W.take (k + 1)) (nth l i)) w = nodesOf (P ++ prs (W.take k) (nth l i)) w := by
          rw [tk, nodesOf_app, nodesOf_one, if_neg hw, List.append_nil]
        rw [← ns] at W1
        simp -dsimp -implicitDefEqProofs (disch := omega) only [VCA, Nat.reduceEqDiff, ↓reduceIte, eStr, f9, f16, f17, d1]
        exact ⟨⟨by omega, by omega⟩, _, by omega, k + 1, a, by omega, rfl, by repeat' (first | exact hp2 | refine Fj.put ?_ (by omega) _), f15, by omega, W1⟩
    · obtain rfl : k = W.length := by omega
      rw [List.take_length, ← hts] at W1
      simp -dsimp -implicitDefEqProofs (disch := omega) only [VCA, Nat.reduceEqDiff, ↓reduceIte, f15]
      exact ⟨_, by omega, i + 1, a, by omega, rfl, by repeat' (first | exact hp2 | refine Fj.put ?_ (by omega) _), by omega, W1⟩
  · obtain rfl : i = l.length := by omega
    rw [List.take_length] at W0
    simp -dsimp -implicitDefEqProofs (disch := omega) only [VCA, ↓reduceIte]
    exact hK _ _ _ (by repeat' (first | exact hp | refine Fj.put ?_ (by omega) _)) W0
/-! ## a list of rows of one's own -/
structure RA (h0 h : Heap) (L : List HRef) (a : AVal) (nv : Nat → AVal) : Prop where
  acc : Acc h0 45 2 (rowsR L nv) a h
  sub : Sim.Sub h0 h
  num : ∀ j, j < L.length → OwnS h 3 1 ((nth L j).nodes.map eInt) (nv j) ∧ ∀ r, rootOf (nv j) = some r → h0 r = none ∧ rootOf a ≠ some r
theorem RA.nil (h : Heap) : RA h h [] .emp fun _ => .emp := ⟨.nil, Sub.refl _, fun j hj => absurd hj (Nat.not_lt_zero j)⟩
theorem RA.vwN {h0 h : Heap} {L : List HRef} {a : AVal} {nv : Nat → AVal} (R : RA h0 h L a nv) : Vw (newH h0 h) a (sl eRef L) := by
  obtain ⟨O, hf, M⟩ := OwnS.of_acc R.acc
  exact spine_vwN O M hf fun j hj => ⟨(R.num j hj).1, fun r hr => ((R.num j hj).2 r hr).1⟩
theorem rowsR_snoc (l : List HRef) (nv : Nat → AVal) (x : HRef) (v : AVal) : rowsR (l ++ [x]) (fun j => if j < l.length then nv j else v) = rowsR l nv ++ [[.str x.word, v]] := by
  unfold rowsR
  rw [List.length_append, List.length_singleton, List.range_succ, List.map_append]
  congr 1
  · refine List.map_congr_left fun j hj => ?_
    have hj := List.mem_range.1 hj
    have e1 : nth (l ++ [x]) j = nth l j := by
      unfold nth
      rw [List.getD_eq_getElem?_getD, List.getD_eq_getElem?_getD, List.getElem?_append_left hj]
    unfold rowR
    simp only [if_pos hj, e1]
  · have e1 : nth (l ++ [x]) l.length = x := by
      unfold nth
      rw [List.getD_eq_getElem?_getD, List.getElem?_append_right (Nat.le_refl _), Nat.sub_self]; rfl
    unfold rowR
    simp only [List.map_cons, List.map_nil, if_neg (Nat.lt_irrefl _), e1]
theorem RA.keep {h0 h h2 : Heap} {L : List HRef} {a : AVal} {nv : Nat → AVal} (A : RA h0 h L a nv) (hs : Sim.Sub h h2) : RA h0 h2 L a nv :=
  ⟨A.acc.re fun r o h1 h3 => ⟨h1, hs r o h3⟩, fun r o hr => hs r o (A.sub r o hr), fun j hj => ⟨(A.num j hj).1.keep fun r o _ ho => hs r o ho, (A.num j hj).2⟩⟩
theorem RA.snoc {h0 h h2 : Heap} {L : List HRef} {a a2 v : AVal} {nv : Nat → AVal} {x : HRef} (A : RA h0 h L a nv) (O : OwnS h 3 1 (x.nodes.map eInt) v) (hv : ∀ r, rootOf v = some r → h0 r = none ∧ rootOf a ≠ some r)
    (A2 : Acc h0 45 2 (rowsR L nv ++ [[.str x.word, v]]) a2 h2) (S2 : Sim.Sub h0 h2) (kp : ∀ r o, h r = some o → rootOf a ≠ some r → h2 r = some o ∧ rootOf a2 ≠ some r) : RA h0 h2 (L ++ [x]) a2 (fun j => if j < L.length then nv j else v) := by
  refine ⟨by rw [rowsR_snoc]; exact A2, S2, fun j hj => ?_⟩
  have one : ∀ {ns : List Int} {b : AVal}, OwnS h 3 1 (ns.map eInt) b → (∀ r, rootOf b = some r → h0 r = none ∧ rootOf a ≠ some r) → OwnS h2 3 1 (ns.map eInt) b ∧ ∀ r, rootOf b = some r → h0 r = none ∧ rootOf a2 ≠ some r := fun O hb =>
    ⟨O.keep fun r o hr ho => (kp r o ho (hb r hr).2).1, fun r hr => by
      obtain ⟨o, ho⟩ := O.root hr
      exact ⟨(hb r hr).1, (kp r o ho (hb r hr).2).2⟩⟩
  by_cases q : j < L.length
  · simp only [if_pos q]
    have e1 : nth (L ++ [x]) j = nth L j := by
      unfold nth
      rw [List.getD_eq_getElem?_getD, List.getD_eq_getElem?_getD, List.getElem?_append_left q]
    rw [e1]
    exact one (A.num j q).1 (A.num j q).2
  · simp only [if_neg q]
    rw [List.length_append, List.length_singleton] at hj
    have e0 : j = L.length := by omega
    have e1 : nth (L ++ [x]) j = x := by
      unfold nth
      rw [e0, List.getD_eq_getElem?_getD, List.getElem?_append_right (Nat.le_refl _), Nat.sub_self]; rfl
    rw [e1]
    exact one O hv
/-- the next word, by what is there -/
theorem next_is {L : List HRef} {P : Pairs} (S : Spec L P) {k : Nat} (hk : k ≤ L.length) {last next : List UInt8} {found : Bool} (hl : 0 < k → last = (nth L (k - 1)).word) (M : Mn (okW (decide (0 < k)) last) (P.map (·.1)) next found) :
    (found = true → k < L.length ∧ next = (nth L k).word) ∧ (found = false → k = L.length) := by
  have mem : ∀ w, w ∈ P.map (·.1) ↔ ∃ j, j < L.length ∧ (nth L j).word = w := fun w => by
    constructor
    · intro h
      obtain ⟨⟨v, m⟩, hm, rfl⟩ := List.mem_map.1 h
      exact S.all v fun e => by have := mem_nodesOf.2 hm; rw [e] at this; cases this
    · rintro ⟨j, hj, rfl⟩
      obtain ⟨m, hm⟩ := List.exists_mem_of_ne_nil _ (S.row j hj).2
      exact List.mem_map.2 ⟨_, mem_nodesOf.1 hm, rfl⟩
  have ok : ∀ j, j < L.length → (okW (decide (0 < k)) last (nth L j).word = true ↔ k ≤ j) := fun j hj => by
    unfold okW
    by_cases h0 : 0 < k
    · rw [decide_eq_true h0, hl h0]
      show (false || ltS _ _) = true ↔ _
      rw [Bool.false_or]
      constructor
      · intro h
        refine Classical.byContradiction fun hc => ?_
        by_cases e : j = k - 1
        · rw [e, ltS_irr] at h; cases h
        · have := S.rise.lt (show j < k - 1 by omega) (by omega)
          rw [ltS_asym this] at h; cases h
      · intro h; exact S.rise.lt (by omega) hj
    · rw [decide_eq_false h0]
      exact ⟨fun _ => by omega, fun _ => rfl⟩
  refine ⟨fun hf => ?_, fun hf => ?_⟩
  · obtain ⟨h1, h2, h3⟩ := M.yes hf
    obtain ⟨j, hj, rfl⟩ := (mem _).1 h1
    have hkj := (ok j hj).1 h2
    have hkl : k < L.length := by omega
    refine ⟨hkl, ?_⟩
    have h4 := h3 _ ((mem _).2 ⟨k, hkl, rfl⟩) ((ok k hkl).2 (Nat.le_refl _))
    by_cases e : j = k
    · rw [e]
    · rw [S.rise.lt (show k < j by omega) hj] at h4; cases h4
  · refine Classical.byContradiction fun hc => ?_
    have hkl : k < L.length := by omega
    have := M.no hf _ ((mem _).2 ⟨k, hkl, rfl⟩)
    rw [(ok k hkl).2 (Nat.le_refl _)] at this; cases this
end Go.Proofs.K
end
section
/- The reference's index of a document. -/
set_option linter.unusedSimpArgs false
set_option linter.unusedVariables false
namespace Go.Proofs.K
open Go Go.Sim Go.Proofs Go.Shelf
variable {G : Glob}
set_option maxHeartbeats 2000000 in
theorem refs_ok (d : HDoc) (V : DV d) (sm : DocSm d) {c : Nat} (hc : c < 4) : PCalls (Pg G) 23 [.agg (eDoc d), aInt ((c : Int) + 1)] (sl eRef (idxC d c)) := PCalls.outV fun h => by
  have h0 := V.zero
  have cB := below_ok (G := G) d V sm 0 h0
  have RDl : RD d (below d 0) := ⟨sm, V, by have := below_len V h0; have := V.len; omega, below_in V 0 h0⟩
  have S := idxC_is d c
  have hLl := idxL_len (prsD d (below d 0) c)
  have hpl := prsD_len V (l := below d 0) (below_in V 0 h0) hc
  have hll := RDl.ll
  obtain ⟨L, hL⟩ : ∃ L, idxC d c = L := ⟨_, rfl⟩
  rw [show idxL (prsD d (below d 0) c) = idxC d c from rfl, hL] at hLl
  rw [hL] at S ⊢
  obtain ⟨l, hl⟩ : ∃ l, below d 0 = l := ⟨_, rfl⟩
  rw [hl] at cB RDl S hpl hll hLl
  unfold eDoc at cB
  refine dcalls_of_vc Tryd.func23 hn23 hc23 (by rw [Tryd.ntmps23]; simp) (by rw [Tryd.ntmps23]; decide) ?_
  simp -dsimp -implicitDefEqProofs (disch := omega) only [VCA, Nat.reduceEqDiff, Nat.reduceAdd, ↓reduceIte, c23, eDoc]
  repeat' (first | ((with_reducible refine Br.dec (fun _ => ?_) (fun _ => ?_)) <;> try (exfalso; omega)) | ((with_reducible refine Br.eq (fun _ => ?_) (fun _ => ?_)) <;> try (exfalso; omega)) | ((with_reducible refine Br.ne (fun _ => ?_) (fun _ => ?_)) <;> try (exfalso; omega)) | ((with_reducible refine brNdec (fun _ => ?_) (fun _ => ?_)) <;> try (exfalso; omega)) | ((with_reducible refine brNeq (fun _ => ?_) (fun _ => ?_)) <;> try (exfalso; omega)) | with_reducible refine Br.intro (fun _ => ?_) (fun _ => ?_) | (with_reducible apply pcallE.of; · exact cB) | (with_reducible refine And.intro ?_ ?_; · omega) | simp -dsimp -implicitDefEqProofs (disch := omega) only [VCA, ↓reduceIte])
  refine LoopVC.intro (fun m e h' => ∃ (k : Nat) (nv : Nat → AVal) (last : List UInt8), k ≤ L.length ∧ m = L.length - k ∧ e 1 = aInt ((c : Int) + 1) ∧ e 2 = .pin (eDoc d) ∧ e 6 = sl eInt l ∧ e 7 = .str last ∧ e 8 = .bool (decide (0 < k)) ∧ RA h h' (L.take k) (e 5) nv ∧ (0 < k → last = (nth L (k - 1)).word)) L.length
    (by exact ⟨0, _, [], by omega, by omega, rfl, rfl, rfl, rfl, rfl, RA.nil h, fun h => absurd h (Nat.lt_irrefl 0)⟩) ?_
  rintro m e h' ⟨k, nv, last, hk, rfl, e1, e2, e6, e7, e8, A, hlast⟩
  simp -dsimp -implicitDefEqProofs (disch := omega) only [VCA]
  refine fst_ok (G := G) RDl hc (last := last) (begun := decide (0 < k)) ?_ ?_ ?_ ?_ ?_ ?_ ?_ ?_ ?_
  · exact e1
  · exact e2
  · exact e6
  · exact e7
  · exact e8
  · rfl
  · rfl
  · rfl
  intro e' next found hp f9 f10 M
  obtain ⟨N1, N2⟩ := next_is S hk hlast M
  have g1 := (hp 1 (by omega)).trans e1
  have g2 := (hp 2 (by omega)).trans e2
  have g5 := hp 5 (by omega)
  have g6 := (hp 6 (by omega)).trans e6
  cases hf : found
  · obtain rfl := N2 hf
    rw [hf] at f10
    rw [List.take_length] at A
    simp -dsimp -implicitDefEqProofs (disch := omega) only [VCA, Nat.reduceEqDiff, ↓reduceIte, f10, g5]
    exact ⟨_, Sub.refl _, A.sub, .one _ _ A.vwN⟩
  · obtain ⟨hk', hw⟩ := N1 hf
    rw [hf] at f10
    have hS := (S.row k hk').1
    rw [← hw] at hS
    have hln := nodesOf_len (prsD d l c) next
    simp -dsimp -implicitDefEqProofs (disch := omega) only [VCA, Nat.reduceEqDiff, Nat.reduceAdd, Nat.reduceLT, Nat.reduceLeDiff, ↓reduceIte, fillA, okFill, setAt, exists_eq_left', f9, f10]
    intro r hr
    refine put2_ok (G := G) RDl hc (w := next) (r := r) ?_ ?_ ?_ ?_ ?_ ?_ ?_ ?_
    · exact g1
    · exact g2
    · exact g6
    · exact f9
    · rfl
    · rfl
    · exact upd_same _ _ _
    intro e2 h3 a hq W
    have q9 : e2 9 = .str next := (hq 9 (by omega)).trans f9
    have q1 : e2 1 = _ := (hq 1 (by omega)).trans g1
    have q2 : e2 2 = _ := (hq 2 (by omega)).trans g2
    have q5 : e2 5 = e 5 := (hq 5 (by omega)).trans g5
    have q6 : e2 6 = _ := (hq 6 (by omega)).trans g6
    have q14 : e2 14 = .vp r 0 := hq 14 (by omega)
    have hrow := W.row
    have hs : Sim.Sub h' h3 := fun t o ht => W.sub t o (by
      have hne : t ≠ r := fun e => by rw [e, hr] at ht; cases ht
      unfold del; rw [if_neg hne, upd_ne _ _ hne]; exact ht)
    have A3 := A.keep hs
    obtain ⟨O, hfr, M2⟩ := OwnS.of_acc W.acc
    rw [← hS] at O
    have iv := O.isV
    have hv : ∀ t, rootOf a = some t → h t = none ∧ rootOf (e 5) ≠ some t := fun t ht => by
      have h1 := hfr t ht
      have hne : t ≠ r := fun e => W.ne (by rw [ht, e])
      unfold del at h1
      rw [if_neg hne, upd_ne _ _ hne] at h1
      refine ⟨A.sub.none h1, fun e => ?_⟩
      obtain ⟨o, ho⟩ := (OwnS.of_acc A.acc).1.root e
      rw [h1] at ho; cases ho
    have hll2 : (L.take k).length = k := by rw [List.length_take]; omega
    simp -dsimp -implicitDefEqProofs (disch := omega) only [VCA, Nat.reduceEqDiff, Nat.reduceAdd, Nat.reduceLT, ↓reduceIte, okParts, forall_eq, exists_eq_left, exists_eq_left', q5, q14, hrow]
    refine A3.acc.appW A3.sub (by rw [rowsR_len, hll2]; simp only [List.length_cons, List.length_nil]; omega) (by rw [rowsR_len, hll2]; simp only [List.length_cons, List.length_nil]; omega) fun a2 h4 A4 S4 kp => ?_
    rw [hw] at A4
    have A5 := A3.snoc (x := nth L k) O hv A4 S4 kp
    rw [← take_snoc hk'] at A5
    simp -dsimp -implicitDefEqProofs (disch := omega) only [VCA, Nat.reduceEqDiff, ↓reduceIte, q9]
    refine ⟨_, by omega, k + 1, _, next, by omega, rfl, q1, q2, q6, rfl, ?_, A5, fun _ => ?_⟩
    · congr 1
    · rw [Nat.add_sub_cancel]; exact hw
def c9 : SFun := ⟨(.seq (.reg [⟨(some 1), (.boxF 24 2 (.t 0)), none⟩, ⟨(some 2), (.new 29 4 [.emp, .emp, .emp, .emp]), none⟩]) (.seq (.dreg [(⟨(some 3), (.ld 2 true (.t 1)), none⟩, none), (⟨(some 4), (.pcall 23 [(.t 3), (.c (.int .i64 (1)))]), none⟩, none), (⟨(some 5), (.ld 2 true (.t 1)), none⟩, none), (⟨(some 6), (.pcall 23 [(.t 5), (.c (.int .i64 (2)))]), none⟩, none), (⟨(some 7), (.ld 2 true (.t 1)), none⟩, none), (⟨(some 8), (.pcall 23 [(.t 7), (.c (.int .i64 (3)))]), none⟩, none), (⟨(some 9), (.ld 2 true (.t 1)), none⟩, none), (⟨(some 10), (.pcall 23 [(.t 9), (.c (.int .i64 (4)))]), none⟩, none), (⟨(some 11), (.bld [.emp, .emp, .emp, .emp] [(0, (1, (.t 4))), (1, (1, (.t 6))), (2, (1, (.t 8))), (3, (1, (.t 10)))]), none⟩, none), (⟨none, (.st 4 (.t 2) (.t 11)), none⟩, (some [9, 7, 5, 3]))]) .ret)), [(.cell 2 4 true)]⟩
theorem hc9 : toSF Tryd.prog {pure := [23]} Tryd.f9 = some c9 := by kernel_rfl
theorem hn9 : (Tryd.f9.name == "runtime.NumGoroutine") = false := by kernel_rfl
theorem refIndexOf_ok (d : HDoc) (V : DV d) (sm : DocSm d) : PCalls (Pg G) 9 [.agg (eDoc d)] (.agg (eIdx (idxD d))) := PCalls.outV fun h => by
  have c1 : PCalls (Pg G) 23 [.agg (eDoc d), aInt 1] (sl eRef (idxC d 0)) := refs_ok d V sm (c := 0) (by decide)
  have c2 : PCalls (Pg G) 23 [.agg (eDoc d), aInt 2] (sl eRef (idxC d 1)) := refs_ok d V sm (c := 1) (by decide)
  have c3 : PCalls (Pg G) 23 [.agg (eDoc d), aInt 3] (sl eRef (idxC d 2)) := refs_ok d V sm (c := 2) (by decide)
  have c4 : PCalls (Pg G) 23 [.agg (eDoc d), aInt 4] (sl eRef (idxC d 3)) := refs_ok d V sm (c := 3) (by decide)
  unfold idxD eIdx
  unfold eDoc at c1 c2 c3 c4
  obtain ⟨x0, h0⟩ : ∃ x, idxC d 0 = x := ⟨_, rfl⟩
  obtain ⟨x1, h1⟩ : ∃ x, idxC d 1 = x := ⟨_, rfl⟩
  obtain ⟨x2, h2⟩ : ∃ x, idxC d 2 = x := ⟨_, rfl⟩
  obtain ⟨x3, h3⟩ : ∃ x, idxC d 3 = x := ⟨_, rfl⟩
  rw [h0] at c1 ⊢
  rw [h1] at c2 ⊢
  rw [h2] at c3 ⊢
  rw [h3] at c4 ⊢
  refine dcalls_of_vc Tryd.func9 hn9 hc9 (by rw [Tryd.ntmps9]; simp) (by rw [Tryd.ntmps9]; decide) ?_
  simp -dsimp -implicitDefEqProofs (disch := omega) only [VCA, Nat.reduceEqDiff, Nat.reduceAdd, ↓reduceIte, rsOf, rootsOf, rootL, c9, eDoc]
  intro r hr
  repeat' (first | ((with_reducible refine Br.dec (fun _ => ?_) (fun _ => ?_)) <;> try (exfalso; omega)) | ((with_reducible refine Br.eq (fun _ => ?_) (fun _ => ?_)) <;> try (exfalso; omega)) | ((with_reducible refine Br.ne (fun _ => ?_) (fun _ => ?_)) <;> try (exfalso; omega)) | ((with_reducible refine brNdec (fun _ => ?_) (fun _ => ?_)) <;> try (exfalso; omega)) | ((with_reducible refine brNeq (fun _ => ?_) (fun _ => ?_)) <;> try (exfalso; omega)) | with_reducible refine Br.intro (fun _ => ?_) (fun _ => ?_) | (with_reducible apply pcallE.of; · exact c1) | (with_reducible apply pcallE.of; · exact c2) | (with_reducible apply pcallE.of; · exact c3) | (with_reducible apply pcallE.of; · exact c4) | (with_reducible refine And.intro ?_ ?_; · omega) | simp -dsimp -implicitDefEqProofs (disch := omega) only [VCA, Nat.reduceEqDiff, Nat.reduceAdd, Nat.reduceLT, Nat.reduceLeDiff, ↓reduceIte, rsOf, rootsOf, SOp.rd, SI.rd, SX.rd, fillA, okFill, setAt, exists_eq_left', rootL])
  exact ⟨_, Sub.refl _, (Sub.refl h).upd hr, .one _ _ (.refl _)⟩
end Go.Proofs.K
end
section
/- The law's document with a form. -/
set_option linter.unusedSimpArgs false
set_option linter.unusedVariables false
namespace Go.Proofs.K
open Go Go.Sim Go.Proofs
variable {G : Glob}
def formD : HDoc := ⟨[⟨1, [], [], [], -1, [1]⟩, ⟨2, [102, 111, 114, 109], [], [], 0, [2]⟩, ⟨2, [105, 110, 112, 117, 116], [⟨[110, 97, 109, 101], [113]⟩, ⟨[118, 97, 108, 117, 101], [97, 32, 98]⟩], [], 1, []⟩], false⟩
theorem formD_sm : DocSm formD := ⟨by decide, by
  intro x hx
  have : x = ⟨1, [], [], [], -1, [1]⟩ ∨ x = ⟨2, [102, 111, 114, 109], [], [], 0, [2]⟩ ∨ x = ⟨2, [105, 110, 112, 117, 116], [⟨[110, 97, 109, 101], [113]⟩, ⟨[118, 97, 108, 117, 101], [97, 32, 98]⟩], [], 1, []⟩ := by simpa [formD] using hx
  rcases this with rfl | rfl | rfl <;> exact ⟨by decide, by decide, by decide, by decide, by decide⟩⟩
def c29 : SFun := ⟨(.seq (.reg [⟨(some 0), (.new 24 2 [.emp, (.bool false)]), none⟩]) (.seq (.reg [⟨(some 1), (.bldF 3 1 [(.c (.int .i64 (1)))]), none⟩, ⟨(some 2), (.bld [(.int .i64 (0)), (.str []), .emp, (.str []), (.int .i64 (0)), .emp] [(0, (1, (.c (.int .i64 (1))))), (4, (1, (.c (.int .i64 (-1))))), (5, (1, (.t 1)))]), none⟩, ⟨(some 3), (.bldF 3 1 [(.c (.int .i64 (2)))]), none⟩, ⟨(some 4), (.bld [(.int .i64 (0)), (.str []), .emp, (.str []), (.int .i64 (0)), .emp] [(0, (1, (.c (.int .i64 (2))))), (1, (1, (.c (.str [102, 111, 114, 109])))), (5, (1, (.t 3)))]), none⟩, ⟨(some 5), (.bld [(.str []), (.str [])] [(0, (1, (.c (.str [110, 97, 109, 101])))), (1, (1, (.c (.str [113]))))]), none⟩, ⟨(some 6), (.bld [(.str []), (.str [])] [(0, (1, (.c (.str [118, 97, 108, 117, 101])))), (1, (1, (.c (.str [97, 32, 98]))))]), none⟩, ⟨(some 7), (.bldF 77 2 [(.t 5), (.t 6)]), none⟩, ⟨(some 8), (.bld [(.int .i64 (0)), (.str []), .emp, (.str []), (.int .i64 (0)), .emp] [(0, (1, (.c (.int .i64 (2))))), (1, (1, (.c (.str [105, 110, 112, 117, 116])))), (4, (1, (.c (.int .i64 (1))))), (2, (1, (.t 7)))]), none⟩, ⟨(some 9), (.bldF 53 6 [(.t 2), (.t 4), (.t 8)]), none⟩, ⟨(some 10), (.bld [.emp, (.bool false)] [(0, (1, (.t 9)))]), none⟩, ⟨none, (.st 2 (.t 0) (.t 10)), none⟩]) .ret)), [(.cell 0 2 true)]⟩
theorem hc29 : toSF Tryd.prog {} Tryd.f29 = some c29 := by kernel_rfl
theorem hn29 : (Tryd.f29.name == "runtime.NumGoroutine") = false := by kernel_rfl
theorem oneForm_ok : PCalls (Pg G) 29 [] (.agg (eDoc formD)) := fun h => by
  refine DCalls.res (K := fun a h' => a = .agg [.slc [[.int .i64 1, .str [], .emp, .str [], .int .i64 (-1), .slc [[.int .i64 1]]], [.int .i64 2, .str [102, 111, 114, 109], .emp, .str [], .int .i64 0, .slc [[.int .i64 2]]], [.int .i64 2, .str [105, 110, 112, 117, 116], .slc [[.str [110, 97, 109, 101], .str [113]], [.str [118, 97, 108, 117, 101], .str [97, 32, 98]]], .str [], .int .i64 1, .emp]], .bool false] ∧ h' = h) ?_ ?_
  · refine dcalls_of_vc Tryd.func29 hn29 hc29 (by rw [Tryd.ntmps29]; simp) (by rw [Tryd.ntmps29]; decide) ?_
    simp -dsimp -implicitDefEqProofs (disch := omega) only [VCA, Nat.reduceEqDiff, Nat.reduceAdd, Nat.reduceLT, Nat.reduceLeDiff, ↓reduceIte, reduceCtorEq, okParts, fillA, okFill, setAt, exists_eq_right_right, exists_eq_left', c29]
    intro r hr
    exact (Sub.refl _).upd hr
  · rintro a h' ⟨rfl, rfl⟩
    exact ⟨_, Wk.agg' (.cons (Wk.slc' (.cons (.cons (.refl _) (.cons (.refl _) (.cons .emp (.cons (.refl _) (.cons (.refl _) (.cons (.refl _) .nil)))))) (.cons (.cons (.refl _) (.cons (.refl _) (.cons .emp (.cons (.refl _) (.cons (.refl _) (.cons (.refl _) .nil)))))) (.cons (.cons (.refl _) (.cons (.refl _) (.cons (.refl _) (.cons (.refl _) (.cons (.refl _) (.cons .emp .nil)))))) .nil)))) (.cons (.refl _) .nil)), rfl, rfl⟩
end Go.Proofs.K
end
section
/- A text's first bytes. -/
set_option linter.unusedSimpArgs false
set_option linter.unusedVariables false
namespace Go.Proofs.K
open Go Go.Sim Go.Proofs
variable {G : Glob}
def c6 : SFun := ⟨(.seq (.reg [⟨(some 4), (.mv (.c (.str []))), none⟩]) (.seq (.reg [⟨(some 5), (.mv (.t 0)), none⟩, ⟨(some 6), (.mv (.t 0)), none⟩, ⟨(some 7), (.lenS (.t 6)), none⟩, ⟨(some 8), (.mv (.t 1)), none⟩, ⟨(some 9), (.min2 (.t 7) (.t 8)), none⟩, ⟨(some 10), (.slS (.t 5) none (some (.t 9))), none⟩, ⟨(some 4), (.mv (.t 10)), none⟩]) .ret)), [(.tmp 4)]⟩
theorem hc6 : toSF Tryd.prog {} Tryd.f6 = some c6 := by kernel_rfl
theorem hn6 : (Tryd.f6.name == "runtime.NumGoroutine") = false := by kernel_rfl
theorem some_ok (s : List UInt8) (n : Nat) (hs : s.length ≤ 1073741824) : PCalls (Pg G) 6 [.str s, aInt n] (.str (s.take n)) := fun h => by
  refine dcalls_of_vc Tryd.func6 hn6 hc6 (by rw [Tryd.ntmps6]; simp) (by rw [Tryd.ntmps6]; decide) ?_
  simp -dsimp -implicitDefEqProofs (disch := omega) only [VCA, Nat.reduceEqDiff, ↓reduceIte, reduceCtorEq, exists_eq_right_right, c6]
  refine ⟨by omega, Sub.refl _, ?_⟩
  have : (min (s.length : Int) n).toNat = min s.length n := by omega
  have e : s.take (min s.length n) = s.take n := by rw [List.take_eq_take_iff]; omega
  rw [this, e]
end Go.Proofs.K
end
section
/- The index: the law of Of and Words. -/
set_option linter.unusedSimpArgs false
set_option linter.unusedVariables false
namespace Go.Proofs.K
open Go Go.Sim Go.Proofs Go.Shelf
variable {G : Glob}
theorem addW_mem {F : List (List UInt8)} : ∀ {L : List (List UInt8)} {w : List UInt8}, w ∈ F.foldl addW L → w ∈ L ∨ w ∈ F := by
  induction F with
  | nil => exact fun h => .inl h
  | cons x r ih =>
    intro L w h
    rcases ih h with h | h
    · unfold addW at h
      split at h
      · exact .inl h
      · rcases List.mem_append.1 h with h | h
        · exact .inl h
        · rw [List.mem_singleton] at h
          exact .inr (by rw [h]; exact List.mem_cons_self)
    · exact .inr (List.mem_cons_of_mem _ h)
theorem wordsM_le (s : List UInt8) : ∀ w ∈ wordsM s, w.length ≤ s.length := fun w hw => by
  rcases addW_mem hw with h | h
  · cases h
  · obtain ⟨x, hx, rfl⟩ := List.mem_map.1 h
    have h2 := (spansM_is s).2 x hx
    have := seg_len (s := s) (a := x.1) (b := x.2) h2.2
    omega
theorem one1_le {s w : List UInt8} (h : w ∈ one1 s) : w = s := by
  unfold one1 at h
  split at h
  · cases h
  · exact List.mem_singleton.1 h
theorem words4_le {x : HNode} (h : nodeE x = 0) {c : Nat} (hc : c < 4) : ∀ w ∈ nth (words4 x) c, w.length ≤ 400 := fun w hw => by
  have hn := ((nodeE_iff _).1 h).2.2.2.2.2
  have c0 : ∀ (a b c d : List (List UInt8)), nth [a, b, c, d] 0 = a := fun _ _ _ _ => rfl
  have c1 : ∀ (a b c d : List (List UInt8)), nth [a, b, c, d] 1 = b := fun _ _ _ _ => rfl
  have c2 : ∀ (a b c d : List (List UInt8)), nth [a, b, c, d] 2 = c := fun _ _ _ _ => rfl
  have c3 : ∀ (a b c d : List (List UInt8)), nth [a, b, c, d] 3 = d := fun _ _ _ _ => rfl
  unfold words4 at hw
  rcases (show c = 0 ∨ c = 1 ∨ c = 2 ∨ c = 3 by omega) with rfl | rfl | rfl | rfl <;> split at hw <;> simp only [c0, c1, c2, c3] at hw
  · cases hw
  · rw [one1_le hw]; exact attV_le h _
  · cases hw
  · exact Nat.le_trans (wordsM_le _ w hw) (attV_le h _)
  · cases hw
  · rw [List.mem_singleton.1 hw]; exact hn
  · cases hw
  · rw [one1_le hw]; exact attV_le h _
theorem prsD_sm {d : HDoc} (V : DV d) {l : List Int} (hl : ∀ n ∈ l, inD d n) {c : Nat} (hc : c < 4) : ∀ w m, (w, m) ∈ prsD d l c → w.length ≤ 400 := fun w m h => by
  obtain ⟨n, hn, h2⟩ := List.mem_flatMap.1 h
  exact words4_le (V.node n (hl n hn)) hc w (mem_prs h2).1
theorem idxC_sm {d : HDoc} (V : DV d) {c : Nat} (hc : c < 4) : RefsSm (idxC d c) := by
  have S := idxC_is d c
  have hb := below_in V 0 V.zero
  have hpl := prsD_len V (l := below d 0) hb hc
  have hbl := below_len V V.zero
  have hdl := V.len
  have h1 := idxL_len (prsD d (below d 0) c)
  have hL : (idxC d c).length ≤ (prsD d (below d 0) c).length := h1
  refine ⟨by omega, fun x hx => ?_⟩
  obtain ⟨j, hj, rfl⟩ := mem_nth hx
  obtain ⟨r1, r2⟩ := S.row j hj
  have h2 := nodesOf_len (prsD d (below d 0) c) (nth (idxC d c) j).word
  obtain ⟨m, hm⟩ := List.exists_mem_of_ne_nil _ r2
  have h3 := prsD_sm V hb hc _ m (mem_nodesOf.1 hm)
  exact ⟨by omega, by rw [r1]; omega⟩
theorem noIdx_sm : IdxSm noIdx := ⟨⟨by decide, fun x hx => by cases hx⟩, ⟨by decide, fun x hx => by cases hx⟩, ⟨by decide, fun x hx => by cases hx⟩, ⟨by decide, fun x hx => by cases hx⟩⟩
theorem idxD_sm {d : HDoc} (V : DV d) : IdxSm (idxD d) := ⟨idxC_sm V (by decide), idxC_sm V (by decide), idxC_sm V (by decide), idxC_sm V (by decide)⟩
theorem ofD_sm (d : HDoc) : IdxSm (ofD d) := by
  unfold ofD
  split
  · rename_i h; exact idxD_sm (docE_DV h)
  · exact noIdx_sm
def formI : HIdx := ⟨[], [], [⟨[102, 111, 114, 109], [1]⟩, ⟨[105, 110, 112, 117, 116], [2]⟩], [⟨[113], [2]⟩]⟩
theorem formI_is : ofD formD = formI := by decide +kernel
theorem formE : docE formD = 0 := by decide +kernel
def c12 : SFun := ⟨(.seq (.reg [⟨(some 0), (.mv (.c (.bool false))), none⟩]) (.seq (.reg [⟨(some 6), (.pcall 29 []), none⟩, ⟨(some 7), (.pcall 7 [(.t 6)]), none⟩, ⟨(some 5), (.mv (.t 7)), none⟩, ⟨(some 8), (.ext (.t 5) 0), none⟩, ⟨(some 9), (.ext (.t 5) 1), none⟩, ⟨(some 1), (.new 29 4 [.emp, .emp, .emp, .emp]), none⟩, ⟨none, (.st 4 (.t 1) (.t 8)), none⟩, ⟨(some 2), (.mv (.t 9)), none⟩]) (.seq (.reg [⟨(some 11), (.fldA 3 (.t 1)), none⟩, ⟨(some 12), (.ld 1 false (.t 11)), none⟩, ⟨(some 13), (.pcall 14 [(.t 12), (.c (.str [113]))]), none⟩, ⟨(some 10), (.mv (.t 13)), none⟩, ⟨(some 14), (.ext (.t 10) 0), none⟩, ⟨(some 15), (.ext (.t 10) 1), none⟩, ⟨(some 3), (.mv (.t 14)), none⟩, ⟨(some 4), (.mv (.t 15)), none⟩]) (.seq (.reg [⟨(some 16), (.mv (.t 2)), none⟩, ⟨(some 17), (.bin .eql (.t 16) (.c (.int .i64 (0)))), none⟩, ⟨(some 18), (.mv (.t 17)), none⟩, ⟨(some 19), (.mv (.t 3)), (some (18, true))⟩, ⟨(some 20), (.bin .eql (.t 19) (.c (.int .i64 (2)))), (some (18, true))⟩, ⟨(some 21), (.pick (.t 18) (.t 20) (.c (.bool false))), none⟩, ⟨(some 22), (.mv (.t 21)), none⟩, ⟨(some 23), (.mv (.t 4)), (some (22, true))⟩, ⟨(some 24), (.pick (.t 22) (.t 23) (.c (.bool false))), none⟩, ⟨(some 25), (.mv (.t 24)), none⟩, ⟨(some 26), (.fldA 2 (.t 1)), (some (25, true))⟩, ⟨(some 27), (.ld 1 false (.t 26)), (some (25, true))⟩, ⟨(some 28), (.len (.t 27)), (some (25, true))⟩, ⟨(some 29), (.bin .eql (.t 28) (.c (.int .i64 (2)))), (some (25, true))⟩, ⟨(some 30), (.pick (.t 25) (.t 29) (.c (.bool false))), none⟩, ⟨(some 31), (.mv (.t 30)), none⟩, ⟨(some 32), (.pcall 10 [(.c (.str [32, 97, 32, 98, 32, 97]))]), (some (31, true))⟩, ⟨(some 33), (.len (.t 32)), (some (31, true))⟩, ⟨(some 34), (.bin .eql (.t 33) (.c (.int .i64 (2)))), (some (31, true))⟩, ⟨(some 35), (.pick (.t 31) (.t 34) (.c (.bool false))), none⟩, ⟨(some 0), (.mv (.t 35)), none⟩]) .ret)))), [(.tmp 0)]⟩
theorem hc12 : toSF Tryd.prog {pure := [7, 14, 10, 29]} Tryd.f12 = some c12 := by kernel_rfl
theorem hn12 : (Tryd.f12.name == "runtime.NumGoroutine") = false := by kernel_rfl
theorem indexBegun_ok : PCalls (Pg G) 12 [] (.bool true) := fun h => by
  have cO := ixOf_ok (G := G) formD formD_sm
  rw [formI_is, formE] at cO
  have cF := oneForm_ok (G := G)
  have cN := ixFirst_ok (G := G) [⟨[113], [2]⟩] [113] (by decide) (fun x hx => by rw [List.mem_singleton] at hx; subst hx; exact ⟨by decide, by decide⟩) (by decide)
  have hr : refN [⟨[113], [2]⟩] [113] = [2] := by decide
  rw [hr] at cN
  have cW := words_ok (G := G) [32, 97, 32, 98, 32, 97] (by decide)
  have hw : wordsM [32, 97, 32, 98, 32, 97] = [[97], [98]] := by decide +kernel
  rw [hw] at cW
  have ei : eIdx formI = [sl eRef [], sl eRef [], sl eRef [⟨[102, 111, 114, 109], [1]⟩, ⟨[105, 110, 112, 117, 116], [2]⟩], sl eRef [⟨[113], [2]⟩]] := rfl
  have hd2 : ([2] : List Int).headD 0 = 2 := rfl
  have hdd : decide (([2] : List Int) ≠ []) = true := rfl
  rw [hd2, hdd] at cN
  rw [ei] at cO
  refine dcalls_of_vc Tryd.func12 hn12 hc12 (by rw [Tryd.ntmps12]; simp) (by rw [Tryd.ntmps12]; decide) ?_
  simp -dsimp -implicitDefEqProofs (disch := omega) only [VCA, c12]
  have z0 : ((0 : Int) == 0) = true := rfl
  have z2 : ((2 : Int) == 2) = true := rfl
  repeat' (first | ((with_reducible refine Br.dec (fun _ => ?_) (fun _ => ?_)) <;> try (exfalso; omega)) | ((with_reducible refine Br.eq (fun _ => ?_) (fun _ => ?_)) <;> try (exfalso; omega)) | ((with_reducible refine Br.ne (fun _ => ?_) (fun _ => ?_)) <;> try (exfalso; omega)) | ((with_reducible refine brNdec (fun _ => ?_) (fun _ => ?_)) <;> try (exfalso; omega)) | ((with_reducible refine brNeq (fun _ => ?_) (fun _ => ?_)) <;> try (exfalso; omega)) | with_reducible refine Br.intro (fun _ => ?_) (fun _ => ?_) | (with_reducible apply pcallE.of; · exact cF) | (with_reducible apply pcallE.of; · exact cO) | ((intro r hr)) | (with_reducible apply pcallE.of; · exact cN) | (with_reducible apply pcallE.of; · exact cW) | (with_reducible refine And.intro ?_ ?_; · omega) | simp -dsimp -implicitDefEqProofs (disch := omega) only [↓vcOps_sp 18, ↓vcOps_sp 22, ↓vcOps_sp 25, ↓vcOps_sp 31, VCA, Nat.reduceEqDiff, Nat.reduceAdd, Nat.reduceLT, Nat.reduceLeDiff, ↓reduceIte, setAt, exists_eq_right_right, exists_eq_left', z0, z2])
  all_goals exact ⟨(Sub.refl h).upd hr, by decide⟩
theorem eIdx_len (x : HIdx) : (eIdx x).length = 4 := rfl
theorem eIdx_take (x : HIdx) : (eIdx x).take 4 = eIdx x := rfl
def c3 : SFun := ⟨(.seq (.reg [⟨(some 2), (.box 24 2 (.t 0)), none⟩, ⟨(some 4), (.mv (.c (.bool false))), none⟩]) (.seq (.reg [⟨(some 12), (.ld 2 true (.t 2)), none⟩, ⟨(some 13), (.pcall 5 [(.t 12), (.c (.int .i64 (50)))]), none⟩, ⟨(some 14), (.mv (.t 1)), none⟩, ⟨(some 15), (.pcall 6 [(.t 14), (.c (.int .i64 (200)))]), none⟩, ⟨none, (.st 2 (.t 2) (.t 13)), none⟩, ⟨(some 1), (.mv (.t 15)), none⟩]) (.seq (.reg [⟨(some 17), (.ld 2 true (.t 2)), none⟩, ⟨(some 18), (.pcall 7 [(.t 17)]), none⟩, ⟨(some 16), (.mv (.t 18)), none⟩, ⟨(some 19), (.ext (.t 16) 0), none⟩, ⟨(some 20), (.ext (.t 16) 1), none⟩, ⟨(some 5), (.new 29 4 [.emp, .emp, .emp, .emp]), none⟩, ⟨none, (.st 4 (.t 5) (.t 19)), none⟩, ⟨(some 6), (.mv (.t 20)), none⟩]) (.seq (.reg [⟨(some 21), (.ld 2 true (.t 2)), none⟩, ⟨(some 22), (.pcall 8 [(.t 21)]), none⟩, ⟨(some 7), (.mv (.t 22)), none⟩]) (.seq (.reg [⟨(some 8), (.new 29 4 [.emp, .emp, .emp, .emp]), none⟩]) (.seq (.seq (.reg [⟨(some 23), (.mv (.t 7)), none⟩, ⟨(some 24), (.bin .eql (.t 23) (.c (.int .i64 (0)))), none⟩]) (.cond (.t 24) (.reg [⟨(some 25), (.ld 2 true (.t 2)), none⟩, ⟨(some 26), (.pcall 9 [(.t 25)]), none⟩, ⟨none, (.st 4 (.t 8) (.t 26)), none⟩]) .skip)) (.seq (.reg [⟨(some 27), (.mv (.t 1)), none⟩, ⟨(some 28), (.pcall 10 [(.t 27)]), none⟩, ⟨(some 29), (.mv (.t 1)), none⟩, ⟨(some 30), (.pcall 11 [(.t 29)]), none⟩, ⟨(some 9), (.mv (.t 28)), none⟩, ⟨(some 10), (.mv (.t 30)), none⟩]) (.seq (.seq (.reg [⟨(some 11), (.mv (.c (.int .i64 (0)))), none⟩]) (.block 0 (.loop (.seq (.seq (.reg [⟨(some 31), (.mv (.t 11)), none⟩, ⟨(some 32), (.mv (.t 9)), none⟩, ⟨(some 33), (.len (.t 32)), none⟩, ⟨(some 34), (.bin .lss (.t 31) (.t 33)), none⟩, ⟨(some 35), (.mv (.t 34)), none⟩, ⟨(some 36), (.mv (.t 11)), (some (35, true))⟩, ⟨(some 37), (.mv (.t 10)), (some (35, true))⟩, ⟨(some 38), (.len (.t 37)), (some (35, true))⟩, ⟨(some 39), (.bin .lss (.t 36) (.t 38)), (some (35, true))⟩, ⟨(some 40), (.pick (.t 35) (.t 39) (.c (.bool false))), none⟩]) (.cond (.t 40) .skip (.exit 0))) (.seq (.block 1 (.seq (.dreg [(⟨(some 43), (.mv (.t 9)), none⟩, none), (⟨(some 44), (.mv (.t 11)), none⟩, none), (⟨(some 45), (.idxA 1 (.t 43) (.t 44)), none⟩, none), (⟨(some 46), (.ld 1 false (.t 45)), none⟩, none), (⟨(some 47), (.mv (.t 10)), none⟩, none), (⟨(some 48), (.mv (.t 11)), none⟩, none), (⟨(some 49), (.idxA 1 (.t 47) (.t 48)), none⟩, none), (⟨(some 50), (.ld 1 false (.t 49)), none⟩, none), (⟨(some 51), (.bin .neq (.t 46) (.t 50)), none⟩, none)]) (.cond (.t 51) (.seq (.reg [⟨(some 4), (.mv (.c (.bool false))), none⟩]) .ret) .skip))) (.reg [⟨(some 41), (.mv (.t 11)), none⟩, ⟨(some 42), (.bin .add (.t 41) (.c (.int .i64 (1)))), none⟩, ⟨(some 11), (.mv (.t 42)), none⟩])))))) (.seq (.reg [⟨(some 52), (.pcall 12 []), none⟩, ⟨(some 53), (.mv (.t 52)), none⟩, ⟨(some 54), (.ld 4 true (.t 5)), (some (53, true))⟩, ⟨(some 55), (.ld 4 true (.t 8)), (some (53, true))⟩, ⟨(some 56), (.pcall 13 [(.t 54), (.t 55)]), (some (53, true))⟩, ⟨(some 57), (.pick (.t 53) (.t 56) (.c (.bool false))), none⟩, ⟨(some 58), (.mv (.t 57)), none⟩, ⟨(some 59), (.mv (.t 6)), (some (58, true))⟩, ⟨(some 60), (.mv (.t 7)), (some (58, true))⟩, ⟨(some 61), (.bin .eql (.t 59) (.t 60)), (some (58, true))⟩, ⟨(some 62), (.pick (.t 58) (.t 61) (.c (.bool false))), none⟩, ⟨(some 63), (.mv (.t 62)), none⟩, ⟨(some 64), (.mv (.t 9)), (some (63, true))⟩, ⟨(some 65), (.len (.t 64)), (some (63, true))⟩, ⟨(some 66), (.mv (.t 10)), (some (63, true))⟩, ⟨(some 67), (.len (.t 66)), (some (63, true))⟩, ⟨(some 68), (.bin .eql (.t 65) (.t 67)), (some (63, true))⟩, ⟨(some 69), (.pick (.t 63) (.t 68) (.c (.bool false))), none⟩, ⟨(some 4), (.mv (.t 69)), none⟩]) .ret))))))))), [(.tmp 4)]⟩
theorem hc3 : toSF Tryd.prog {pure := [7, 10, 5, 6, 8, 9, 11, 13, 12], how := [(2, 6)]} Tryd.f3 = some c3 := by kernel_rfl
theorem hn3 : (Tryd.f3.name == "runtime.NumGoroutine") = false := by kernel_rfl
set_option maxHeartbeats 2000000 in
theorem indexMakes_ok (d : HDoc) (sm : DocSm d) (s : List UInt8) (hs : s.length ≤ 1073741824) : PCalls (Pg G) 3 [.agg (eDoc d), .str s] (.bool true) := fun h => by
  have hF : PCalls (Pg G) 5 [.agg (eDoc d), .int .i64 50] (.agg (eDoc ⟨d.nodes.take 50, d.quirks⟩)) := few_ok (G := G) d 50 sm
  have fs := sm.few 50
  generalize (⟨d.nodes.take 50, d.quirks⟩ : HDoc) = f at *
  have hSo : PCalls (Pg G) 6 [.str s, .int .i64 200] (.str (s.take 200)) := some_ok s 200 hs
  have hs2 : (s.take 200).length ≤ 200 := by rw [List.length_take]; omega
  generalize s.take 200 = s2 at *
  have cO := ixOf_ok (G := G) f fs
  have cD := docErr_ok (G := G) f fs
  have cB := indexBegun_ok (G := G)
  have cW := words_ok (G := G) s2 (by omega)
  have cR := refIxWords_ok (G := G) s2 (by omega)
  have hS := sameIndex_ok (G := G) (ofD f) (ofD f) (ofD_sm f) (ofD_sm f)
  rw [decide_eq_true rfl] at hS
  have hwl := wordsM_len s2
  generalize wordsM s2 = W at *
  by_cases h0 : docE f = 0
  · have cI := refIndexOf_ok (G := G) f (docE_DV h0) fs
    have eo : ofD f = idxD f := if_pos h0
    rw [h0] at cO cD
    rw [eo] at cO hS
    generalize idxD f = x at *
    have cS := hS
    obtain ⟨E, hE⟩ : ∃ E : Int, E = 0 := ⟨_, rfl⟩
    rw [← hE] at cO cD
    have z0 : (E == 0) = true := by simpa using hE
    refine dcalls_of_vc Tryd.func3 hn3 hc3 (by rw [Tryd.ntmps3]; simp) (by rw [Tryd.ntmps3]; decide) ?_
    simp -dsimp -implicitDefEqProofs (disch := omega) only [VCA, Nat.reduceEqDiff, Nat.reduceLT, ↓reduceIte, exists_eq_left', c3, eDoc_len, eDoc_take]
    intro r2 hr2
    repeat' (first | ((with_reducible refine Br.dec (fun _ => ?_) (fun _ => ?_)) <;> try (exfalso; omega)) | ((with_reducible refine Br.eq (fun _ => ?_) (fun _ => ?_)) <;> try (exfalso; omega)) | ((with_reducible refine Br.ne (fun _ => ?_) (fun _ => ?_)) <;> try (exfalso; omega)) | ((with_reducible refine brNdec (fun _ => ?_) (fun _ => ?_)) <;> try (exfalso; omega)) | ((with_reducible refine brNeq (fun _ => ?_) (fun _ => ?_)) <;> try (exfalso; omega)) | with_reducible refine Br.intro (fun _ => ?_) (fun _ => ?_) | (with_reducible apply pcallE.of; · exact hF) | (with_reducible apply pcallE.of; · exact hSo) | (with_reducible apply pcallE.of; · exact cO) | (with_reducible refine And.intro ?_ ?_; · omega) | simp -dsimp -implicitDefEqProofs (disch := omega) only [VCA, ↓upd_none, Nat.reduceEqDiff, Nat.reduceAdd, Nat.reduceLT, ↓reduceIte, setAt, ne_eq, exists_eq_left', eDoc_len, eDoc_take, eDoc_drp, eIdx_len])
    intro r5 hr5
    have m1 : ¬ r5 = r2 := hr5.1
    have m2 : ¬ r2 = r5 := fun h => m1 h.symm
    repeat' (first | ((with_reducible refine Br.dec (fun _ => ?_) (fun _ => ?_)) <;> try (exfalso; omega)) | ((with_reducible refine Br.eq (fun _ => ?_) (fun _ => ?_)) <;> try (exfalso; omega)) | ((with_reducible refine Br.ne (fun _ => ?_) (fun _ => ?_)) <;> try (exfalso; omega)) | ((with_reducible refine brNdec (fun _ => ?_) (fun _ => ?_)) <;> try (exfalso; omega)) | ((with_reducible refine brNeq (fun _ => ?_) (fun _ => ?_)) <;> try (exfalso; omega)) | with_reducible refine Br.intro (fun _ => ?_) (fun _ => ?_) | (with_reducible apply pcallE.of; · exact cD) | (with_reducible refine And.intro ?_ ?_; · omega) | simp -dsimp -implicitDefEqProofs (disch := omega) only [VCA, ↓upd_none, Nat.reduceEqDiff, Nat.reduceLT, ↓reduceIte, ne_eq, exists_eq_left', eDoc_len, eDoc_take, z0, m2])
    intro r8 hr8
    have k1 : ¬ r8 = r2 := hr8.2.1
    have k2 : ¬ r2 = r8 := fun h => k1 h.symm
    have k3 : ¬ r8 = r5 := hr8.1
    have k4 : ¬ r5 = r8 := fun h => k3 h.symm
    repeat' (first | ((with_reducible refine Br.dec (fun _ => ?_) (fun _ => ?_)) <;> try (exfalso; omega)) | ((with_reducible refine Br.eq (fun _ => ?_) (fun _ => ?_)) <;> try (exfalso; omega)) | ((with_reducible refine Br.ne (fun _ => ?_) (fun _ => ?_)) <;> try (exfalso; omega)) | ((with_reducible refine brNdec (fun _ => ?_) (fun _ => ?_)) <;> try (exfalso; omega)) | ((with_reducible refine brNeq (fun _ => ?_) (fun _ => ?_)) <;> try (exfalso; omega)) | with_reducible refine Br.intro (fun _ => ?_) (fun _ => ?_) | (with_reducible apply pcallE.of; · exact cI) | (with_reducible apply pcallE.of; · exact cW) | (with_reducible apply pcallE.of; · exact cR) | (with_reducible refine And.intro ?_ ?_; · omega) | simp -dsimp -implicitDefEqProofs (disch := omega) only [VCA, Nat.reduceEqDiff, Nat.reduceAdd, Nat.reduceLT, ↓reduceIte, setAt, exists_eq_left', eDoc_len, eDoc_take, eIdx_len, k2])
    refine LoopVC.intro (fun m e h' => ∃ k : Nat, k ≤ W.length ∧ m = W.length - k ∧ e 5 = .vp r5 0 ∧ e 6 = aInt E ∧ e 7 = aInt E ∧ e 8 = .vp r8 0 ∧ e 9 = sl eStr W ∧ e 10 = sl eStr W ∧ e 11 = aInt k ∧ h' r5 = some ⟨.t 29, 4, [eIdx x]⟩ ∧ h' r8 = some ⟨.t 29, 4, [eIdx x]⟩ ∧ Sim.Sub h h') W.length
      (by exact ⟨0, by omega, by omega, rfl, rfl, rfl, rfl, rfl, rfl, rfl, by rw [upd_ne _ _ k4]; exact upd_same _ _ _, upd_same _ _ _, ((((Sub.refl h).upd hr2).upd hr5.2).upd hr8.2.2)⟩) ?_
    rintro m e h' ⟨k, hk, rfl, e5, e6, e7, e8, e9, e10, e11, g5, g8, hs⟩
    by_cases hlt : k < W.length
    · have hd : decide ((k : Int) < (W.length : Int)) = true := decide_eq_true (by omega)
      have hne : (nth W k != nth W k) = false := by simp
      repeat' (first | ((with_reducible refine Br.dec (fun _ => ?_) (fun _ => ?_)) <;> try (exfalso; omega)) | ((with_reducible refine Br.eq (fun _ => ?_) (fun _ => ?_)) <;> try (exfalso; omega)) | ((with_reducible refine Br.ne (fun _ => ?_) (fun _ => ?_)) <;> try (exfalso; omega)) | ((with_reducible refine brNdec (fun _ => ?_) (fun _ => ?_)) <;> try (exfalso; omega)) | ((with_reducible refine brNeq (fun _ => ?_) (fun _ => ?_)) <;> try (exfalso; omega)) | with_reducible refine Br.intro (fun _ => ?_) (fun _ => ?_) | (with_reducible refine And.intro ?_ ?_; · omega) | simp -dsimp -implicitDefEqProofs (disch := omega) only [↓vcOps_sp 35, VCA, Nat.reduceEqDiff, ↓reduceIte, rsOf, rootsOf, rootL, eStr, e9, e10, e11, hd, hne])
      exact ⟨_, by omega, k + 1, by omega, rfl, e5, e6, e7, e8, by omega, g5, g8, hs⟩
    · have hd : decide ((k : Int) < (W.length : Int)) = false := decide_eq_false (by omega)
      have ee : (E == E) = true := by simp
      have ll : ((W.length : Int) == (W.length : Int)) = true := by simp
      repeat' (first | ((with_reducible refine Br.dec (fun _ => ?_) (fun _ => ?_)) <;> try (exfalso; omega)) | ((with_reducible refine Br.eq (fun _ => ?_) (fun _ => ?_)) <;> try (exfalso; omega)) | ((with_reducible refine Br.ne (fun _ => ?_) (fun _ => ?_)) <;> try (exfalso; omega)) | ((with_reducible refine brNdec (fun _ => ?_) (fun _ => ?_)) <;> try (exfalso; omega)) | ((with_reducible refine brNeq (fun _ => ?_) (fun _ => ?_)) <;> try (exfalso; omega)) | with_reducible refine Br.intro (fun _ => ?_) (fun _ => ?_) | (with_reducible apply pcallE.of; · exact cB) | (with_reducible apply pcallE.of; · exact cS) | (with_reducible refine And.intro ?_ ?_; · omega) | simp -dsimp -implicitDefEqProofs (disch := omega) only [↓vcOps_sp 35, ↓vcOps_sp 53, ↓vcOps_sp 58, ↓vcOps_sp 63, VCA, Nat.reduceEqDiff, Nat.reduceLT, ↓reduceIte, exists_eq_right, exists_eq_left', e5, e6, e7, e8, e9, e10, e11, g5, g8, hd, ee, ll, eIdx_len, eIdx_take])
      all_goals exact hs
  · have eo : ofD f = noIdx := if_neg h0
    rw [eo] at cO hS
    obtain ⟨E, hE⟩ : ∃ E, docE f = E := ⟨_, rfl⟩
    rw [hE] at cO cD h0
    have z0 : (E == 0) = false := by simpa using h0
    have cS : PCalls (Pg G) 13 [.agg (eIdx noIdx), .agg [.emp, .emp, .emp, .emp]] (.bool true) := hS.wk (.cons (.refl _) (.cons (Wk.agg' (.cons .emp (.cons .emp (.cons .emp (.cons .emp .nil))))) .nil))
    obtain ⟨x, hx⟩ : ∃ x, noIdx = x := ⟨_, rfl⟩
    rw [hx] at cO cS
    refine dcalls_of_vc Tryd.func3 hn3 hc3 (by rw [Tryd.ntmps3]; simp) (by rw [Tryd.ntmps3]; decide) ?_
    simp -dsimp -implicitDefEqProofs (disch := omega) only [VCA, Nat.reduceEqDiff, Nat.reduceLT, ↓reduceIte, exists_eq_left', c3, eDoc_len, eDoc_take]
    intro r2 hr2
    repeat' (first | ((with_reducible refine Br.dec (fun _ => ?_) (fun _ => ?_)) <;> try (exfalso; omega)) | ((with_reducible refine Br.eq (fun _ => ?_) (fun _ => ?_)) <;> try (exfalso; omega)) | ((with_reducible refine Br.ne (fun _ => ?_) (fun _ => ?_)) <;> try (exfalso; omega)) | ((with_reducible refine brNdec (fun _ => ?_) (fun _ => ?_)) <;> try (exfalso; omega)) | ((with_reducible refine brNeq (fun _ => ?_) (fun _ => ?_)) <;> try (exfalso; omega)) | with_reducible refine Br.intro (fun _ => ?_) (fun _ => ?_) | (with_reducible apply pcallE.of; · exact hF) | (with_reducible apply pcallE.of; · exact hSo) | (with_reducible apply pcallE.of; · exact cO) | (with_reducible refine And.intro ?_ ?_; · omega) | simp -dsimp -implicitDefEqProofs (disch := omega) only [VCA, ↓upd_none, Nat.reduceEqDiff, Nat.reduceAdd, Nat.reduceLT, ↓reduceIte, setAt, ne_eq, exists_eq_left', eDoc_len, eDoc_take, eDoc_drp, eIdx_len])
    intro r5 hr5
    have m1 : ¬ r5 = r2 := hr5.1
    have m2 : ¬ r2 = r5 := fun h => m1 h.symm
    repeat' (first | ((with_reducible refine Br.dec (fun _ => ?_) (fun _ => ?_)) <;> try (exfalso; omega)) | ((with_reducible refine Br.eq (fun _ => ?_) (fun _ => ?_)) <;> try (exfalso; omega)) | ((with_reducible refine Br.ne (fun _ => ?_) (fun _ => ?_)) <;> try (exfalso; omega)) | ((with_reducible refine brNdec (fun _ => ?_) (fun _ => ?_)) <;> try (exfalso; omega)) | ((with_reducible refine brNeq (fun _ => ?_) (fun _ => ?_)) <;> try (exfalso; omega)) | with_reducible refine Br.intro (fun _ => ?_) (fun _ => ?_) | (with_reducible apply pcallE.of; · exact cD) | (with_reducible refine And.intro ?_ ?_; · omega) | simp -dsimp -implicitDefEqProofs (disch := omega) only [VCA, ↓upd_none, Nat.reduceEqDiff, Nat.reduceLT, ↓reduceIte, ne_eq, exists_eq_left', eDoc_len, eDoc_take, z0, m2])
    intro r8 hr8
    have k1 : ¬ r8 = r2 := hr8.2.1
    have k2 : ¬ r2 = r8 := fun h => k1 h.symm
    have k3 : ¬ r8 = r5 := hr8.1
    have k4 : ¬ r5 = r8 := fun h => k3 h.symm
    repeat' (first | ((with_reducible refine Br.dec (fun _ => ?_) (fun _ => ?_)) <;> try (exfalso; omega)) | ((with_reducible refine Br.eq (fun _ => ?_) (fun _ => ?_)) <;> try (exfalso; omega)) | ((with_reducible refine Br.ne (fun _ => ?_) (fun _ => ?_)) <;> try (exfalso; omega)) | ((with_reducible refine brNdec (fun _ => ?_) (fun _ => ?_)) <;> try (exfalso; omega)) | ((with_reducible refine brNeq (fun _ => ?_) (fun _ => ?_)) <;> try (exfalso; omega)) | with_reducible refine Br.intro (fun _ => ?_) (fun _ => ?_) | (with_reducible apply pcallE.of; · exact cW) | (with_reducible apply pcallE.of; · exact cR) | (with_reducible refine And.intro ?_ ?_; · omega) | simp -dsimp -implicitDefEqProofs (disch := omega) only [VCA, Nat.reduceEqDiff, ↓reduceIte])
    refine LoopVC.intro (fun m e h' => ∃ k : Nat, k ≤ W.length ∧ m = W.length - k ∧ e 5 = .vp r5 0 ∧ e 6 = aInt E ∧ e 7 = aInt E ∧ e 8 = .vp r8 0 ∧ e 9 = sl eStr W ∧ e 10 = sl eStr W ∧ e 11 = aInt k ∧ h' r5 = some ⟨.t 29, 4, [eIdx x]⟩ ∧ h' r8 = some ⟨.t 29, 4, [[.emp, .emp, .emp, .emp]]⟩ ∧ Sim.Sub h h') W.length
      (by exact ⟨0, by omega, by omega, rfl, rfl, rfl, rfl, rfl, rfl, rfl, by rw [upd_ne _ _ k4]; exact upd_same _ _ _, upd_same _ _ _, ((((Sub.refl h).upd hr2).upd hr5.2).upd hr8.2.2)⟩) ?_
    rintro m e h' ⟨k, hk, rfl, e5, e6, e7, e8, e9, e10, e11, g5, g8, hs⟩
    by_cases hlt : k < W.length
    · have hd : decide ((k : Int) < (W.length : Int)) = true := decide_eq_true (by omega)
      have hne : (nth W k != nth W k) = false := by simp
      repeat' (first | ((with_reducible refine Br.dec (fun _ => ?_) (fun _ => ?_)) <;> try (exfalso; omega)) | ((with_reducible refine Br.eq (fun _ => ?_) (fun _ => ?_)) <;> try (exfalso; omega)) | ((with_reducible refine Br.ne (fun _ => ?_) (fun _ => ?_)) <;> try (exfalso; omega)) | ((with_reducible refine brNdec (fun _ => ?_) (fun _ => ?_)) <;> try (exfalso; omega)) | ((with_reducible refine brNeq (fun _ => ?_) (fun _ => ?_)) <;> try (exfalso; omega)) | with_reducible refine Br.intro (fun _ => ?_) (fun _ => ?_) | (with_reducible refine And.intro ?_ ?_; · omega) | simp -dsimp -implicitDefEqProofs (disch := omega) only [↓vcOps_sp 35, VCA, Nat.reduceEqDiff, ↓reduceIte, rsOf, rootsOf, rootL, eStr, e9, e10, e11, hd, hne])
      exact ⟨_, by omega, k + 1, by omega, rfl, e5, e6, e7, e8, by omega, g5, g8, hs⟩
    · have hd : decide ((k : Int) < (W.length : Int)) = false := decide_eq_false (by omega)
      have ee : (E == E) = true := by simp
      have ll : ((W.length : Int) == (W.length : Int)) = true := by simp
      repeat' (first | ((with_reducible refine Br.dec (fun _ => ?_) (fun _ => ?_)) <;> try (exfalso; omega)) | ((with_reducible refine Br.eq (fun _ => ?_) (fun _ => ?_)) <;> try (exfalso; omega)) | ((with_reducible refine Br.ne (fun _ => ?_) (fun _ => ?_)) <;> try (exfalso; omega)) | ((with_reducible refine brNdec (fun _ => ?_) (fun _ => ?_)) <;> try (exfalso; omega)) | ((with_reducible refine brNeq (fun _ => ?_) (fun _ => ?_)) <;> try (exfalso; omega)) | with_reducible refine Br.intro (fun _ => ?_) (fun _ => ?_) | (with_reducible apply pcallE.of; · exact cB) | (with_reducible apply pcallE.of; · exact cS) | (with_reducible refine And.intro ?_ ?_; · omega) | simp -dsimp -implicitDefEqProofs (disch := omega) only [↓vcOps_sp 35, ↓vcOps_sp 53, ↓vcOps_sp 58, ↓vcOps_sp 63, VCA, Nat.reduceEqDiff, Nat.reduceAdd, Nat.reduceLT, ↓reduceIte, exists_eq_right, exists_eq_left', e5, e6, e7, e8, e9, e10, e11, g5, g8, hd, ee, ll, eIdx_len, eIdx_take])
      all_goals exact hs
end Go.Proofs.K
end
