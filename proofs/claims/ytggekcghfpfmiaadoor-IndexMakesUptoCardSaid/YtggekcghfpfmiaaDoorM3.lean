/- Texts of this claim, one behind the other. -/
import Derived.Test.YtggekcghfpfmiaaDoorM2
import Derived.ChangeArms
import Derived.RowKit3
import Derived.ReadAgain
import Derived.OpenShut
import Derived.JoinedCond
import Derived.Shelf.Vars
section
/- From a row's reading of an argument to what its cells stand for. -/
namespace Go.Sim
open Go

/-- cells stand for abstract values, whatever the roots are: all that lies there is frozen -/
def CellsR (w : World) (cs : List Value) (as : List AVal) : Prop :=
  cs.length = as.length ∧ ∀ g : Ghost, (∀ b, b < w.heap.size → g.fz b) → ∀ (j : Nat) (u : Value) (c : AVal), cs[j]? = some u → as[j]? = some c → u.oneCell' = true ∧ VRel g w u c
theorem CellsR.append {w : World} {cs cs' : List Value} {as as' : List AVal} (h : CellsR w cs as) (h' : CellsR w cs' as') : CellsR w (cs ++ cs') (as ++ as') := by
  refine ⟨by simp [h.1, h'.1], fun g hg j u c hu hc => ?_⟩
  by_cases hj : j < cs.length
  · rw [List.getElem?_append_left hj] at hu
    rw [List.getElem?_append_left (by rw [← h.1]; exact hj)] at hc
    exact h.2 g hg j u c hu hc
  · rw [List.getElem?_append_right (by omega)] at hu
    rw [List.getElem?_append_right (by rw [← h.1]; omega), ← h.1] at hc
    exact h'.2 g hg _ u c hu hc
theorem CellsR.one {w : World} {v : Value} {a : AVal} (h1 : v.oneCell' = true) (h : ∀ g : Ghost, (∀ b, b < w.heap.size → g.fz b) → VRel g w v a) : CellsR w [v] [a] := by
  refine ⟨rfl, fun g hg j u c hu hc => ?_⟩
  cases j with
  | zero => simp at hu hc; subst hu hc; exact ⟨h1, h g hg⟩
  | succ j => simp at hu

/-- what a measure of readings must bear -/
structure Bulk {H : Type} (B : DataW H → Nat) : Prop where
  str : ∀ l, l.length ≤ B (.lit (.string l))
  len : ∀ es sp, es.length ≤ B (.slice es sp)
  elem : ∀ es sp d, d ∈ es → B d ≤ B (.slice es sp)
  part : ∀ ps d, d ∈ ps → B d ≤ B (.agg ps)

def Rdr {H : Type} (eh : TypeId × Value → H) (P : Program) (w : World) (B : DataW H → Nat) (t : TypeId) {α : Type} (enc : α → List AVal) (good : Nat → α → Prop) : Prop :=
  ∀ (base : Nat) (spare : Nat → Bool) (held : Bool) (n : Nat) (cs : List Value) (x : DataW H × List MemPlace), DataW.trod eh P w base spare held n t cs = some x → ∃ a : α, CellsR w cs (enc a) ∧ good (B x.1) a
def Mono {α : Type} (good : Nat → α → Prop) : Prop := ∀ k k' a, k ≤ k' → good k a → good k' a

section
variable {H : Type} {eh : TypeId × Value → H} {P : Program} {w : World} {B : DataW H → Nat} {t : TypeId}
theorem Rdr.map {α β : Type} {enc : α → List AVal} {enc' : β → List AVal} {good : Nat → α → Prop} {good' : Nat → β → Prop} (r : Rdr eh P w B t enc good) (f : α → β) (he : ∀ a, enc' (f a) = enc a) (hg : ∀ k a, good k a → good' k (f a)) : Rdr eh P w B t enc' good' := by
  intro base spare held n cs x h
  obtain ⟨a, h1, h2⟩ := r base spare held n cs x h
  exact ⟨f a, by rw [he]; exact h1, hg _ _ h2⟩
theorem Rdr.bool (ht : P.underlying t = some .bool) : Rdr eh P w B t (fun b : Bool => [.bool b]) (fun _ _ => True) := by
  intro base spare held n cs x h
  obtain ⟨b, rfl, rfl⟩ := DataW.trod_bool ht h
  exact ⟨b, .one rfl fun g _ => .bool b, trivial⟩
theorem Rdr.int {k : IntKind} (ht : P.underlying t = some (.int k)) : Rdr eh P w B t (fun n : Int => [.int k n]) (fun _ n => (Lit.int k n).wf = true) := by
  intro base spare held n cs x h
  obtain ⟨m, rfl, rfl, hw⟩ := DataW.trod_int ht h
  exact ⟨m, .one rfl fun g _ => .int k m, hw⟩
theorem Rdr.str (hB : Bulk B) (ht : P.underlying t = some .string) : Rdr eh P w B t (fun l : List UInt8 => [.str l]) (fun k l => l.length ≤ k) := by
  intro base spare held n cs x h
  obtain ⟨s, rfl, rfl, _⟩ := DataW.trod_string ht h
  exact ⟨s.data.toList, .one rfl fun g _ => .str s, hB.str _⟩
theorem list_choose {α : Type} {n : Nat} {p : Nat → α → Prop} (h : ∀ i, i < n → ∃ x, p i x) : ∃ l : List α, l.length = n ∧ ∀ i a, l[i]? = some a → p i a := by
  induction n with
  | zero => exact ⟨[], rfl, fun i a h => by simp at h⟩
  | succ n ih =>
    obtain ⟨l, hl, hp⟩ := ih fun i hi => h i (by omega)
    obtain ⟨x, hx⟩ := h n (by omega)
    refine ⟨l ++ [x], by simp [hl], fun i a ha => ?_⟩
    by_cases hi : i < n
    · rw [List.getElem?_append_left (by omega)] at ha; exact hp i a ha
    · have hlt := (List.getElem?_eq_some_iff.1 ha).1
      have hin : i = n := by simp at hlt; omega
      subst hin
      rw [List.getElem?_append_right (by omega)] at ha
      simp [hl] at ha; subst ha; exact hx
theorem Rdr.slice {e : TypeId} {sz : Nat} {α : Type} {enc : α → List AVal} {good : Nat → α → Prop} (hB : Bulk B) (hm : Mono good) (ht : P.underlying t = some (.slice e)) (hsz : P.cellsOf e = sz) (h0 : 0 < sz)
    (henc : ∀ a, (enc a).length = sz) (r : Rdr eh P w B e enc good) : Rdr eh P w B t (fun l : List α => [.slc (l.map enc)]) (fun k l => l.length ≤ k ∧ ∀ a ∈ l, good k a) := by
  intro base spare held n cs x h
  rcases DataW.trod_slice ht h with ⟨rfl, rfl⟩ | ⟨ad, len, cap, elems, rest, n, rfl, rfl, rfl, hb, hl, _, hlen, hel, _, _⟩
  · exact ⟨[], .one rfl fun g _ => .slc0 none 0, by simp, fun a ha => by cases ha⟩
  · have each : ∀ i, i < len → ∃ a : α, ∃ cs', w.cells? base (ad.add (i * sz)) sz = some cs' ∧ CellsR w cs' (enc a) ∧ good (B (.slice (elems.map (·.1)) (rest.map (·.1)))) a := by
      intro i hi
      have hi' : i < elems.length := by omega
      have h1 := hel i hi
      rw [List.getElem?_eq_getElem hi', hsz, Option.bind_eq_some_iff] at h1
      obtain ⟨cs', h2, h3⟩ := h1
      obtain ⟨a, h4, h5⟩ := r base spare held n cs' _ h3
      exact ⟨a, cs', h2, h4, hm _ _ a (hB.elem _ _ _ (List.mem_map.2 ⟨_, List.getElem_mem hi', rfl⟩)) h5⟩
    obtain ⟨l, hll, hp⟩ := list_choose each
    refine ⟨l, .one rfl fun g hg => ?_, by rw [hll, ← hlen]; simpa using hB.len (elems.map (·.1)) (rest.map (·.1)), fun a ha => ?_⟩
    · by_cases hz : len = 0
      · subst hz
        have : l = [] := List.eq_nil_of_length_eq_zero hll
        subst this
        exact .slc0 _ _
      · have cell : ∀ (i j : Nat) (f : List AVal) (y : AVal), (l.map enc)[i]? = some f → f[j]? = some y → ∃ u, w.cell? (ad.add (i * sz + j)) = some u ∧ u.oneCell' = true ∧ VRel g w u y := by
          intro i j f y hf hy
          rw [List.getElem?_map, Option.map_eq_some_iff] at hf
          obtain ⟨a, ha, rfl⟩ := hf
          obtain ⟨cs', h1, h2, _⟩ := hp i a ha
          obtain ⟨_, h3, h4⟩ := World.cells?_some h1
          have hj : j < sz := by rw [← henc a]; exact (List.getElem?_eq_some_iff.1 hy).1
          have h5 := h4 j hj
          rw [Addr.add_add'] at h5
          have h6 : cs'[j]? = some cs'[j] := List.getElem?_eq_getElem (by omega)
          rw [h6] at h5
          have := h2.2 g hg j _ y h6 hy
          exact ⟨_, h5, this.1, this.2⟩
        have hpos : 0 < l.length := by omega
        obtain ⟨a0, ha0⟩ : ∃ a, l[0]? = some a := ⟨_, List.getElem?_eq_getElem hpos⟩
        have hf0 : (l.map enc)[0]? = some (enc a0) := by rw [List.getElem?_map, ha0]; rfl
        have he0 : (enc a0)[0]? = some ((enc a0)[0]'(by rw [henc]; exact h0)) := List.getElem?_eq_getElem _
        obtain ⟨u, hu, _, _⟩ := cell 0 0 _ _ hf0 he0
        have hspot : ad.spot = none := by
          have := World.cell?_spot hu
          simpa [Addr.add] using this
        have hblk : ad.block < w.heap.size := by
          have hh : w.cell? ad = some u := by simpa [Addr.add] using hu
          unfold World.cell? at hh
          split at hh
          · rename_i c _ _ hc
            exact (Array.getElem?_eq_some_iff.1 hc).1
          · cases hh
        have key := VRel.slc_mk (g := g) (w := w) (ad := ad) (c := cap) (sz := sz) (es := l.map enc) (by simp [hll]; exact hl) (fun f hf => by obtain ⟨a, _, rfl⟩ := List.mem_map.1 hf; exact henc a) hspot (hg _ hblk) cell
        rw [List.length_map, hll] at key
        exact key
    · obtain ⟨i, hi⟩ := List.mem_iff_getElem?.1 ha
      exact (hp i a hi).choose_spec.2.2
/-- the fields of a struct from an offset on -/
inductive RdrFs {H : Type} (eh : TypeId × Value → H) (P : Program) (w : World) (B : DataW H → Nat) : List Field → Nat → (α : Type) → (α → List AVal) → (Nat → α → Prop) → Prop
  | nil (off : Nat) : RdrFs eh P w B [] off Unit (fun _ => []) (fun _ _ => True)
  | cons {f : Field} {fs : List Field} {off sz : Nat} {α β : Type} {enc : α → List AVal} {encs : β → List AVal} {good : Nat → α → Prop} {goods : Nat → β → Prop} (hf : f.offset = off) (hs : P.cellsOf f.type = sz) (hm : Mono good)
      (r : Rdr eh P w B f.type enc good) (t : RdrFs eh P w B fs (off + sz) β encs goods) : RdrFs eh P w B (f :: fs) off (α × β) (fun p => enc p.1 ++ encs p.2) (fun k p => good k p.1 ∧ goods k p.2)
theorem RdrFs.read {fs : List Field} {off : Nat} {α : Type} {enc : α → List AVal} {good : Nat → α → Prop} (R : RdrFs eh P w B fs off α enc good) :
    ∀ {base : Nat} {spare : Nat → Bool} {held : Bool} {n k : Nat} {cs : List Value} {xs : List (DataW H × List MemPlace)}, (∀ (i : Nat) (f : Field), fs[i]? = some f → DataW.trod eh P w base spare held n f.type ((cs.drop f.offset).take (P.cellsOf f.type)) = xs[i]?) →
      xs.length = fs.length → (∀ x ∈ xs, B x.1 ≤ k) → ∃ (a : α) (m : Nat), CellsR w ((cs.drop off).take m) (enc a) ∧ m = (fs.map fun f => P.cellsOf f.type).sum ∧ good k a := by
  induction R with
  | nil off => intro base spare held n k cs xs _ _ _; exact ⟨(), 0, ⟨by simp, fun g _ j u c hu => by simp at hu⟩, rfl, trivial⟩
  | cons hf hs hm r t ih =>
    intro base spare held n k cs xs h hl hb
    cases xs with
    | nil => simp at hl
    | cons x xs =>
      have h0 := h 0 _ rfl
      rw [hf, hs] at h0
      obtain ⟨a, ha, hga⟩ := r _ _ _ _ _ _ h0
      obtain ⟨b, m, hbm, hms, hgb⟩ := ih (fun i f hi => h (i + 1) f (by simpa using hi)) (by simpa using hl) (fun y hy => hb y (List.mem_cons_of_mem _ hy))
      subst hs
      refine ⟨(a, b), _ + m, ?_, by rw [List.map_cons, List.sum_cons, hms], hm _ _ _ (hb x List.mem_cons_self) hga, hgb⟩
      rw [List.take_add, List.drop_drop]
      exact ha.append hbm
theorem Rdr.struct {fs : Array Field} {α : Type} {enc : α → List AVal} {good : Nat → α → Prop} (hB : Bulk B) (ht : P.underlying t = some (.struct fs)) (hc : P.cellsOf t = (fs.toList.map fun f => P.cellsOf f.type).sum) (R : RdrFs eh P w B fs.toList 0 α enc good) : Rdr eh P w B t enc good := by
  intro base spare held n cs x h
  obtain ⟨xs, n, rfl, rfl, hl, hxl, hx⟩ := DataW.trod_struct ht h
  obtain ⟨a, m, h1, h2, h3⟩ := R.read (k := B (.agg (xs.map (·.1)))) (cs := cs) (xs := xs) (fun i f hi => hx i f (by simpa using hi)) (by simpa using hxl) (fun y hy => hB.part _ _ (List.mem_map.2 ⟨y, hy, rfl⟩))
  refine ⟨a, ?_, h3⟩
  rw [List.drop_zero, h2, ← hc, ← hl, List.take_length] at h1
  exact h1
end
end Go.Sim
end
section
/- A contract that holds whatever the heap is, as a walk of the row. -/
namespace Go.Sim
open Go

def g0 (w : World) : Ghost := { eta := fun _ => 0, bo := fun _ => 0, cap := fun _ => 0, sz := fun _ => 0, nxt := 0, fz := fun b => b < w.heap.size }
theorem HRel.g0 (w : World) : HRel (fun _ => none) (g0 w) w := ⟨(fun r o hr => by cases hr), (fun r r' o o' hr => by cases hr), (fun b hb => hb), (fun b ⟨r, hr, _⟩ => by cases hr), .none⟩

/-- nothing old has changed -/
structure Old (w w' : World) : Prop where
  keep : ∀ b, b < w.heap.size → w'.heap[b]? = w.heap[b]?
  os : w'.os = w.os
  output : w'.output = w.output

theorem PCalls.law {P : PG} {f : Nat} {as : List AVal} (hp : PCalls P f as (.bool true)) {w : World} {vs : Array Value} (GR : GRel P.gl (g0 w) w) (V : VRelL (g0 w) w vs as) :
    Calls P f vs w fun e w' => e = .returned (.bool true) ∧ Old w w' := by
  refine ((hp _).2 (Sim.g0 w) w vs (HRel.g0 w) GR V).mono fun e w' ⟨v, r, h', g', he, ⟨hr, _⟩, _, Vr, S⟩ => ?_
  subst hr he
  rw [Vr.bool_inv]
  exact ⟨rfl, S.keep, S.os, S.output⟩

/-- a contract by another road: of what is not read by its code here -/
theorem PCalls.ofRun {P : PG} {f : Nat} {as : List AVal} {r : AVal} (hc : Callable P.p f)
    (h : ∀ (g : Ghost) (w : World) (vs : Array Value), GRel P.gl g w → VRelL g w vs as → Calls P.p f vs w fun e w' => ∃ v, e = .returned v ∧ w' = w ∧ VRel g w v r) : PCalls P f as r :=
  fun h0 => ⟨hc, fun g w vs H GR V => (h g w vs GR V).mono fun e w' ⟨v, he, hw, hv⟩ => by
    subst hw; exact ⟨v, r, h0, g, he, ⟨rfl, rfl⟩, H, hv, GS.refl g _⟩⟩
theorem VRelL.two_inv {g : Ghost} {w : World} {vs : Array Value} {a b : AVal} (V : VRelL g w vs [a, b]) : ∃ u v, vs = #[u, v] ∧ VRel g w u a ∧ VRel g w v b := by
  obtain ⟨hs, hv⟩ := V
  obtain ⟨l⟩ := vs
  match l, hs with
  | [u, v], _ => exact ⟨u, v, rfl, hv 0 u a rfl rfl, hv 1 v b rfl rfl⟩
/-- a variable of the library's that holds some integer -/
theorem GRel.int {G : Glob} {g : Ghost} {w : World} {b : Nat} {k : IntKind} {m : Int} (GR : GRel G g w) (hG : G b = .pin [.int k m]) : w.cell? ⟨b, 0, none⟩ = some (.int k m) := by
  have h := (GR b).2
  rw [hG] at h
  obtain ⟨ad, he, _, _, hc⟩ := h.pin_inv
  cases he
  obtain ⟨u, h1, _, h3⟩ := hc 0 _ rfl
  rw [h3.int_inv'] at h1
  simpa [Addr.add] using h1
theorem VRel.pinInt {w : World} {b : Nat} {k : IntKind} {m : Int} (h : w.cell? ⟨b, 0, none⟩ = some (.int k m)) : VRel (g0 w) w (.pointer (some ⟨b, 0, none⟩)) (.pin [.int k m]) := by
  refine .pin ⟨b, 0, none⟩ _ (fun _ => .int k m) rfl ?_ (fun j a hj => ?_) (fun j a hj => rfl) (fun j a hj => ?_)
  · show b < w.heap.size
    unfold World.cell? at h
    split at h
    · rename_i c _ _ hc
      exact (Array.getElem?_eq_some_iff.1 hc).1
    · cases h
  · cases j with
    | zero => simpa [Addr.add] using h
    | succ j => simp at hj
  · cases j with
    | zero => simp at hj; subst hj; exact .int k m
    | succ j => simp at hj

section
variable {H : Type} {enc : TypeId × Value → H}
end

section
variable {H : Type} {enc : TypeId × Value → H} {P : Program} {w w' : World}
theorem Old.sameAt (O : Old w w') {p : MemPlace} (hp : p.block < w.heap.size) : w.sameAt w' p := by
  cases p with
  | cell b off => exact World.cell?_of_block (O.keep b hp)
  | map b => exact O.keep b hp
theorem trodAll_old (O : Old w w') {base : Nat} {spare : Nat → Bool} {held : Bool} : ∀ {ts : List TypeId} {vs : List Value} {ds : List (DataW H)} {ps : List MemPlace}, DataW.TrodAll enc P w base spare held ts vs ds ps → DataW.TrodAll enc P w' base spare held ts vs ds ps
  | [], [], [], _, h => h
  | _ :: _, _ :: _, _ :: _, _, ⟨p, q, ⟨n, h1⟩, h2, e⟩ => ⟨p, q, ⟨n, DataW.trod_carry n _ _ _ h1 fun x hx => O.sameAt (DataW.trod_lt n _ _ _ h1 x hx)⟩, trodAll_old O h2, e⟩
theorem law_post {f : Func} {s : ChangeSpec} {args : Array Value} {ds : List (DataW H)} {before : List MemPlace} {tb : TypeId} (O : Old w w')
    (hW : DataW.Whole enc P f.params.toList s.vars false w args.toList ds [] before) (hv : s.vars = [])
    (h1 : (s.fn H (ds ++ [])).results = [.lit (.bool true)]) (h2 : (s.fn H (ds ++ [])).args = ds) (h3 : (s.fn H (ds ++ [])).vars = [])
    (hr : f.resultTypes = #[tb]) (htb : P.underlying tb = some .bool) (hl : laidOutB P = true) (hm : mapsRowed P = true) (hs : ((List.range P.types.size).all fun t => match P.underlying t with | some (.slice e) => decide (0 < P.cellsOf e) | _ => true) = true)
    (hT : ∀ t ∈ f.params.toList, t < P.types.size) : s.post enc P f false true false false w args (.bool true) w' := by
  obtain ⟨p, q, hA, hV, rfl, _, _⟩ := id hW
  rw [hv] at hV
  have hq : q = [] := by cases q with | nil => rfl | cons _ _ => simp [DataW.TrodVars] at hV
  subst hq
  refine ⟨ds, [], _, [], p, [], hW, ?_, ?_, ?_, ?_, fun h => by cases h⟩
  · rw [h1, hr]
    exact ⟨[], [], ⟨1, by simp [DataW.trod, Value.cells, htb]⟩, rfl, rfl⟩
  · rw [h2]
    refine trodAll_old O (DataW.TrodAll.respare (kids_rows hl hm) (fun t e ht => slices_full_of P hs t e ht) hT hA fun x hx => ?_)
    simpa using hA.lt x hx
  · rw [h3, hv]; rfl
  · exact World.keptBut_mono (fun _ h => h.elim) (World.keptBut_none_iff.2 ⟨O.os, O.output, O.keep⟩)
/-- an argument that is one cell -/
theorem arg_one {r : Reach} {base : Nat} {t : TypeId} {v : Value} {a : AVal} {d : TypeDesc} (hu : P.underlying t = some d) (hd : match d with | .slice _ | .int _ | .bool | .string => True | _ => False) (hv : Value.okWide P w r base t v) (h : CellsR w v.cells.toList [a]) : VRel (g0 w) w v a := by
  have hc : v.cells = #[v] := by
    unfold Value.okWide at hv
    cases d <;> simp at hd <;> simp only [hu, Cell.okWide, Cell.ok] at hv <;> cases v <;> first | rfl | (simp at hv)
  rw [hc] at h
  exact (h.2 (g0 w) (fun _ h => h) 0 v a rfl rfl).2
/-- .. a struct -/
theorem arg_agg {r : Reach} {base : Nat} {t : TypeId} {v : Value} {as : List AVal} {fs : Array Field} (hu : P.underlying t = some (.struct fs)) (hv : Value.okWide P w r base t v) (h : CellsR w v.cells.toList as) : VRel (g0 w) w v (.agg as) := by
  unfold Value.okWide at hv
  simp only [hu] at hv
  obtain ⟨cs, rfl, _⟩ := hv
  have hc : (Value.agg cs).cells = cs := rfl
  rw [hc] at h
  refine .agg cs as (by simpa using h.1) (fun j u hj => ?_) fun j u c hj hc => (h.2 (g0 w) (fun _ h => h) j u c (by simpa using hj) hc).2
  have hjl : j < as.length := by rw [← h.1]; simpa using (Array.getElem?_eq_some_iff.1 hj).1
  exact (h.2 (g0 w) (fun _ h => h) j u _ (by simpa using hj) (List.getElem?_eq_getElem hjl)).1
theorem VRelL.two {g : Ghost} {u v : Value} {a b : AVal} (h1 : VRel g w u a) (h2 : VRel g w v b) : VRelL g w #[u, v] [a, b] := by
  refine ⟨rfl, fun j x c hx hc => ?_⟩
  match j with
  | 0 => simp at hx hc; subst hx hc; exact h1
  | 1 => simp at hx hc; subst hx hc; exact h2
  | j + 2 => simp at hx
inductive VAll (g : Ghost) (w : World) : List Value → List AVal → Prop
  | nil : VAll g w [] []
  | cons {v : Value} {a : AVal} {vs : List Value} {as : List AVal} (h : VRel g w v a) (t : VAll g w vs as) : VAll g w (v :: vs) (a :: as)
theorem VAll.rel {g : Ghost} {w : World} {vs : List Value} {as : List AVal} (h : VAll g w vs as) : VRelL g w vs.toArray as := by
  induction h with
  | nil => exact ⟨rfl, fun j u a hu => by simp at hu⟩
  | cons h t ih =>
    refine ⟨by simpa using ih.1, fun j u a hu ha => ?_⟩
    cases j with
    | zero => simp at hu ha; subst hu ha; exact h
    | succ j => exact ih.2 j u a (by simpa using hu) (by simpa using ha)
end
end Go.Sim
end
section
/- The rules by which conditions are worked out, in bundles. -/
set_option linter.defProp false
namespace Go.Sim
open Go
def VC1 := (And.intro (And.intro (And.intro (And.intro @vc_skip @vc_reg) (And.intro @vc_dreg @vc_seq)) (And.intro (And.intro @vc_cond @vc_block) (And.intro @vc_loop @vc_exit))) (And.intro (And.intro (And.intro @vc_range @setPs_cons) (And.intro @setPs_nil @roundK_normal)) (And.intro (And.intro @roundK_exit @roundK_ret) (And.intro @vc_ret @thenK_normal))))
def VC2 := (And.intro (And.intro (And.intro (And.intro @thenK_exit @thenK_ret) (And.intro @blockK_normal @blockK_ret)) (And.intro (And.intro @blockK_exit @vcOps_nil) (And.intro @vcOps_cons @vcD_nil))) (And.intro (And.intro (And.intro @vcD_false @vcD_true) (And.intro @vcV_none @vcV_some)) (And.intro (And.intro @gateX_bool @gateX_tup) (And.intro @Sp_bool @Sp_tup))))
def VC3 := (And.intro (And.intro (And.intro (And.intro @retK_normalS @retK_retS) (And.intro @vcI_mv @vcI_pick)) (And.intro (And.intro @vcI_bin @vcI_eqs) (And.intro @vcI_eqb @vcI_un))) (And.intro (And.intro (And.intro @vcI_cvi @vcI_idc) (And.intro @vcI_fld @vcI_fldA)) (And.intro (And.intro @vcI_idxA @vcI_idxS) (And.intro @vcI_ld @vcI_slS))))
def VC4 := (And.intro (And.intro (And.intro (And.intro @vcI_slA @vcI_slM) (And.intro @vcI_ext @vcI_bld)) (And.intro (And.intro @vcI_bldF @vcI_len) (And.intro @vcI_lenS @vcI_min2))) (And.intro (And.intro (And.intro @vcI_max2 @vcI_mkf) (And.intro @vcI_isnil @vcI_bldR)) (And.intro (And.intro @vcI_box @vcI_boxF) (And.intro @vcI_new @vcI_newnil))))
def VC5 := (And.intro (And.intro (And.intro (And.intro @vcI_st @vcI_app) (And.intro @vcI_appS @vcI_appIn)) (And.intro (And.intro @vcI_appF @vcI_frz) (And.intro @vcI_slX @vcI_mks))) (And.intro (And.intro (And.intro @vcI_copy @vcI_clear) (And.intro @vcI_b2s @vcI_usd)) (And.intro (And.intro @vcI_ustr @vcI_call) (And.intro @vcI_pcall @ev_t))))
def VC6 := (And.intro (And.intro (And.intro (And.intro @ev_c @evO_some) (And.intro @evO_none @setD_some)) (And.intro (And.intro @setD_none @upd_apply) (And.intro @keepR_nil @keepR_cons))) (And.intro (And.intro (And.intro @dropR_nil @dropR_cons) (And.intro @List.contains_cons.{0} @List.contains_nil.{0})) (And.intro (And.intro @Bool.or_false @Bool.false_or) (And.intro @Bool.or_true @Bool.true_or))))
def VC7 := (And.intro (And.intro (And.intro (And.intro @Option.getD_some.{0} @upd_upd) (And.intro @getD_map_enc @Bool.and_true)) (And.intro (And.intro @Bool.false_xor @Bool.true_xor) (And.intro @Bool.xor_false @natCast_succ_sub))) (And.intro (And.intro (And.intro @Int.toNat_natCast_add_one @List.map_cons.{0, 0}) (And.intro @List.map_nil.{0, 0} @aLen_sl)) (And.intro (And.intro @okLen_sl @okIdxA_sl) (And.intro @aIdxA_sl @aSlA_sl))))
def VC8 := (And.intro (And.intro (And.intro (And.intro @okSlA_sl @Rd_sl) (And.intro @nil_sl @wrap_i64)) (And.intro (And.intro @aBin_add @okBin_add) (And.intro @aBin_sub @okBin_sub))) (And.intro (And.intro (And.intro @aBin_mul @okBin_mul) (And.intro @aBin_quo @okBin_quo)) (And.intro (And.intro @aBin_rem @okBin_rem) (And.intro @aBin_shl @okBin_shl))))
def VC9 := (And.intro (And.intro (And.intro (And.intro @aBin_shr @okBin_shr) (And.intro @aBin_eql @okBin_eql)) (And.intro (And.intro @aBin_neq @okBin_neq) (And.intro @aBin_lss @okBin_lss))) (And.intro (And.intro (And.intro @aBin_leq @okBin_leq) (And.intro @aBin_gtr @okBin_gtr)) (And.intro (And.intro @aBin_geq @okBin_geq) (And.intro @aBin_and @okBin_and))))
def VC10 := (And.intro (And.intro (And.intro (And.intro @aBin_or @okBin_or) (And.intro @aBin_xor @okBin_xor)) (And.intro (And.intro @aBin_andNot @okBin_andNot) (And.intro @aBinS_add @okBinS_add))) (And.intro (And.intro (And.intro @aBinS_eql @okBinS_eql) (And.intro @aBinS_neq @okBinS_neq)) (And.intro (And.intro @aBinS_lss @okBinS_lss) (And.intro @aBinS_geq @okBinS_geq))))
def VC11 := (And.intro (And.intro (And.intro (And.intro @aBinS_gtr @okBinS_gtr) (And.intro @aBinS_leq @okBinS_leq)) (And.intro (And.intro @aUn_not @okUn_not) (And.intro @aUn_neg @okUn_neg))) (And.intro (And.intro (And.intro @aUn_xor @okUn_xor) (And.intro @aEqb_bool @okEqb_bool)) (And.intro (And.intro @aEqs_agg @okEqs_agg) (And.intro @aCvi_int @okCvi_int))))
def VC12 := (And.intro (And.intro (And.intro (And.intro @aPick_bool @okPick_bool) (And.intro @aFld_agg @okFld_agg)) (And.intro (And.intro @cutV_true @cutV_false) (And.intro @aFldA_pin @okFldA_pin))) (And.intro (And.intro (And.intro @aFldA_ptr @okFldA_ptr) (And.intro @deVp_vp @deVp_ptr)) (And.intro (And.intro @deVp_pin @aFldA_vp) (And.intro @okFldA_vp @okLd_vp))))
def VC13 := (And.intro (And.intro (And.intro (And.intro @aLd_vp @nil_vp) (And.intro @cells_vp @isV_vp)) (And.intro (And.intro @stE_vp @aIdxA_osl) (And.intro @okIdxA_osl @aIdxA_slc))) (And.intro (And.intro (And.intro @okIdxA_slc @aIdxS_str) (And.intro @okIdxS_str @aLd_pin)) (And.intro (And.intro @okLd_pin @okLd_ptr) (And.intro @aLd_ptr @ldO_some))))
def VC14 := (And.intro (And.intro (And.intro (And.intro @aExt_tup @okExt_tup) (And.intro @aLen_osl @okLen_osl)) (And.intro (And.intro @aLen_slc @okLen_slc) (And.intro @aLen_emp @okLen_emp))) (And.intro (And.intro (And.intro @aLenS_str @okLenS_str) (And.intro @aMin_int @aMax_int)) (And.intro (And.intro @ok2i_int @aSlS_str) (And.intro @okSlS_str @loOf_int))))
def VC15 := (And.intro (And.intro (And.intro (And.intro @loOf_none @hiOf_int) (And.intro @hiOf_none @okB_int)) (And.intro (And.intro @okB_none @aSlA_osl) (And.intro @okSlA_osl @aSlA_emp))) (And.intro (And.intro (And.intro @okSlA_emp @okSlM_osl) (And.intro @nil_slc @nil_emp)) (And.intro (And.intro @nil_osl @nil_snil) (And.intro @nil_ptr @nil_pin))))
def VC16 := (And.intro (And.intro (And.intro (And.intro @nil_pnil @nil_fn) (And.intro @nil_fnil @stE_ptr)) (And.intro (And.intro @stE_pin @aIdxG_pin) (And.intro @aR2s_int @blockK_goto))) (And.intro (And.intro (And.intro @gotoK_exit @gotoK_goto) (And.intro @gotoK_normal @gotoK_ret)) (And.intro (And.intro @noGoK_exit @noGoK_normal) (And.intro @noGoK_ret @okIdxG_pin))))
def VC17 := (And.intro (And.intro (And.intro (And.intro @thenK_goto @vcI_idxG) (And.intro @vcI_r2s @vc_goto)) (And.intro (And.intro @vc_label @vc_scope) (And.intro @appE_emp @appE_osl))) (And.intro (And.intro (And.intro @appFE_emp @appFE_osl) (And.intro @frzE_emp @frzE_slc)) (And.intro (And.intro @frzE_sl @frzE_osl) (And.intro @Rd_slc @Rd_emp))))
def VC18 := (And.intro (And.intro (And.intro (And.intro @cells_agg @cells_int) (And.intro @isV_int @cells_bool)) (And.intro (And.intro @isV_bool @cells_str) (And.intro @isV_str @cells_slc))) (And.intro (And.intro (And.intro @isV_slc @cells_emp) (And.intro @isV_emp @cells_osl)) (And.intro (And.intro @isV_osl @cells_ptr) (And.intro @isV_ptr @cells_pin))))
def VC19 := (And.intro (And.intro (And.intro (And.intro @isV_pin @cells_fn) (And.intro @isV_fn @isV_agg)) (And.intro (And.intro @cells_sl @isV_sl) (And.intro @callE_fn @allOK_nil))) (And.intro (And.intro (And.intro @allOK_cons @resOK_tmp) (And.intro @resOK_cell @resV_tmp)) (And.intro (And.intro @resV_cell @retV_one) (And.intro @retV_two @retV_nil))))
def VC20 := (And.intro (And.intro (And.intro (And.intro @initE_at @initE_gl) (And.intro @Br_true @Br_false)) (And.intro (And.intro @condOn_br @Rd_oslE) (And.intro @appInE_osl @slXE_osl))) (And.intro (And.intro (And.intro @mksE_int @copyE_osl) (And.intro @clearE_osl @usdE_emp)) (And.intro (And.intro @usdE_osl @ustrE_anyp) (And.intro @ustrE_ptr @List.set_cons_zero.{0}))))
def VC21 := (And.intro (And.intro (And.intro (And.intro @List.set_cons_succ.{0} @List.set_nil.{0}) (And.intro @List.getD_cons_zero.{0} @List.getD_cons_succ.{0})) (And.intro (And.intro @List.headD_cons.{0} @List.drop_zero.{0}) (And.intro @List.drop_succ_cons.{0} @List.take_succ_cons.{0}))) (And.intro (And.intro (And.intro @List.take_zero.{0} @List.length_cons.{0}) (And.intro @List.length_nil.{0} @List.length_map.{0, 0})) (And.intro (And.intro @List.nil_append.{0} @List.cons_append.{0}) (And.intro @List.append_nil.{0} @List.mem_cons.{0}))))
def VC22 := (And.intro (And.intro (And.intro (And.intro @List.not_mem_nil.{0} @or_false) (And.intro @or_true @Int.toNat_zero)) (And.intro (And.intro @List.take_length.{0} @List.isEmpty_cons.{0}) (And.intro @List.isEmpty_nil.{0} @Nat.le_refl))) (And.intro (And.intro (And.intro @Int.toNat_natCast @true_and) (And.intro @and_true @Bool.true_eq_false)) (And.intro (And.intro @Bool.false_eq_true @Bool.not_true) (And.intro @Bool.not_false @false_implies))))
def VC23 := (And.intro (And.intro (And.intro (And.intro @true_implies @not_true_eq_false) (And.intro @not_false_eq_true @AVal.int.injEq)) (And.intro (And.intro @AVal.bool.injEq @AVal.str.injEq) (And.intro @Option.some.injEq.{0} @imp_self))) (And.intro (And.intro (And.intro @and_self @Nat.zero_add) (And.intro @Nat.add_zero @Nat.sub_zero)) (And.intro (And.intro @vcI_mkm @vcI_mup) (And.intro @vcI_lkp @mupE_mpr))))
def VC24 := (And.intro (And.intro (And.intro (And.intro @okLkp_mpr @aLkp_mpr) (And.intro @entsOf_some @isM_m)) (And.intro (And.intro @ents_m @setM_m) (And.intro @isKeyA_int @isKeyA_str))) (And.intro (And.intro (And.intro @isV_mpr @cells_mpr) (And.intro @aFound_int @aFound_int2)) (And.intro (And.intro @aFound_set @all_eM) (And.intro @mFind_eM @mPut_eM))))
def VC25 := (And.intro (And.intro (And.intro @all_eMs @mFind_eMs) (And.intro @mPut_eMs (And.intro @OTy.lit @vcI_s2b))) (And.intro (And.intro @s2bE_str @vcI_rng) (And.intro @rngE_str (And.intro @vcI_nxt @nxtE_ptr))))
def VCA := (And.intro (And.intro (And.intro (And.intro VC1 (And.intro VC2 VC3)) (And.intro VC4 (And.intro VC5 VC6))) (And.intro (And.intro VC7 (And.intro VC8 VC9)) (And.intro VC10 (And.intro VC11 VC12)))) (And.intro (And.intro (And.intro VC13 (And.intro VC14 VC15)) (And.intro VC16 (And.intro VC17 VC18))) (And.intro (And.intro VC19 (And.intro VC20 VC21)) (And.intro (And.intro VC22 VC23) (And.intro VC24 VC25)))))
end Go.Sim
end
section
/- Results that lie in many roots of the call's own: data all at once. -/
namespace Go.Sim
open Go
section
variable {P : PG} {g : Ghost} {w : World} {h h0 h1 : Heap}
/-- all roots of a part of the heap frozen -/
def Ghost.frzs (g : Ghost) (h1 : Heap) : Ghost := { g with fz := fun b => g.fz b ∨ ∃ r o, h1 r = some o ∧ g.cap r ≠ 0 ∧ g.eta r = b }
theorem GS.frzs (H : HRel h g w) (hs : Sub h1 h) : GS g w (g.frzs h1) w where
  nxt := Nat.le_refl _
  eta _ _ := rfl
  bo _ _ := rfl
  cap _ _ := rfl
  sz _ _ := rfl
  fz b hb := .inl hb
  keep _ _ := rfl
  os := rfl
  tape := rfl
  output := rfl
  size := Nat.le_refl _
  own _ _ _ := rfl
  new _ _ ho := ho
  fzn b _ hn hf := by
    rcases hf with hf | ⟨r, o, hr, hc, he⟩
    · exact hf
    · exact absurd ⟨r, (H.obj r o (hs r o hr)).lt, hc, he⟩ hn
  fzc b hf := by
    rcases hf with hf | ⟨r, o, hr, hc, he⟩
    · exact .inl hf
    · refine .inr fun ⟨ob, hob, hcl⟩ => ?_
      obtain ⟨cur, t, f, hw⟩ := H.ow b ⟨r, (H.obj r o (hs r o hr)).lt, hc, he⟩
      rw [hw] at hob
      cases hob
      simp [Obj.isCells] at hcl
theorem HRel.frzs (H : HRel h g w) (h0s : Sub h0 h) (h1s : Sub h1 h) (hd : ∀ r o, h1 r = some o → h0 r = none) : HRel h0 (g.frzs h1) w := by
  have S := GS.frzs H h1s
  refine ⟨fun r o hr => ?_, fun r r' o o' hr hr' => H.inj r r' o o' (h0s r o hr) (h0s r' o' hr'), fun b hb => ?_, fun b hb => H.ow b hb, H.mob.step S fun _ _ _ ⟨sz, cs, ht⟩ => ⟨sz, cs, h0s _ _ ht⟩⟩
  · have O := H.obj r o (h0s r o hr)
    refine ⟨O.lt, O.sz, O.pos, O.len, O.le, ?_⟩
    by_cases hc0 : g.cap r = 0
    · exact .inl hc0
    rcases O.block with hc | ⟨hlt, hnf, cur, hcur, hsz, hcell⟩
    · exact .inl hc
    · refine .inr ⟨hlt, ?_, cur, hcur, hsz, fun i j e a he ha => ?_⟩
      · rintro (hf | ⟨r', o', hr', hc', he'⟩)
        · exact hnf hf
        · have e := H.inj r' r o' o (h1s r' o' hr') (h0s r o hr) hc' hc0 he'
          subst e
          rw [hd r' o' hr'] at hr
          cases hr
      · obtain ⟨u, hu, h1', h2⟩ := hcell i j e a he ha
        exact ⟨u, hu, h1', h2.step S.toGStep⟩
  · rcases hb with hb | ⟨r, o, hr, hc, he⟩
    · exact H.fz b hb
    · rcases (H.obj r o (h1s r o hr)).block with h0 | ⟨hlt, _⟩
      · exact absurd h0 hc
      · rw [← he]; exact hlt
theorem Vw.relF (H : HRel h g w) (hs : Sub h1 h) {a b : AVal} (hv : Vw h1 a b) : ∀ {v : Value}, VRel g w v a → VRel (g.frzs h1) w v b := by
  have S := GS.frzs H hs
  induction hv with
  | refl a => intro v V; exact V.step S.toGStep
  | emp =>
    intro v V
    obtain ⟨A, rfl, _⟩ := V.emp_inv
    exact .slc0 A 0
  | agg as bs hl hh ih =>
    intro v V
    obtain ⟨vs, rfl, hvl, h1, h2⟩ := V.agg_inv
    refine .agg vs bs (hvl.trans hl) h1 fun j u b hu hb => ?_
    have hj : j < as.length := by rw [hl]; exact (List.getElem?_eq_some_iff.1 hb).1
    exact ih j _ b (List.getElem?_eq_getElem hj) hb (h2 j u _ hu (List.getElem?_eq_getElem hj))
  | slc es fs hl hle hh ih =>
    intro v V
    obtain ⟨A, c, rfl, hin⟩ := V.slc_inv
    by_cases hp : 0 < es.length
    · obtain ⟨hc, ad, sz, rfl, hsp, hf, hsz, hcell⟩ := hin hp
      rw [hl]
      refine .slc_mk (sz := sz) (by omega) (fun f hf' => ?_) hsp (.inl hf) fun i j f x hi hx => ?_
      · obtain ⟨i, hi⟩ := List.mem_iff_getElem?.1 hf'
        have hil : i < es.length := by rw [hl]; exact (List.getElem?_eq_some_iff.1 hi).1
        rw [← hle i _ f (List.getElem?_eq_getElem hil) hi]
        exact hsz _ (List.getElem_mem hil)
      · have hil : i < es.length := by rw [hl]; exact (List.getElem?_eq_some_iff.1 hi).1
        have he := List.getElem?_eq_getElem hil
        have hjl : j < es[i].length := by rw [hle i _ f he hi]; exact (List.getElem?_eq_some_iff.1 hx).1
        obtain ⟨u, hu, h1, h2⟩ := hcell i j _ _ he (List.getElem?_eq_getElem hjl)
        exact ⟨u, hu, h1, ih i j _ f _ x he hi (List.getElem?_eq_getElem hjl) hx h2⟩
    · have h0 : es.length = 0 := by omega
      have hfs : fs = [] := List.eq_nil_of_length_eq_zero (by omega)
      subst hfs
      rw [h0]
      exact .slc0 A c
  | osl r sz i n o fs hr hle hl hll hh ih =>
    intro v V
    obtain ⟨hrl, hsz, hc⟩ := V.osl_inv
    have O := H.obj r o (hs r o hr)
    by_cases hn : n = 0
    · subst hn
      have hfs : fs = [] := List.eq_nil_of_length_eq_zero hl
      subst hfs
      rcases hc with ⟨rfl, _⟩ | ⟨cap, off, rfl, _⟩
      · exact .slc0 _ _
      · exact .slc0 _ _
    · rcases hc with ⟨_, _, h0, _⟩ | ⟨cap, off, rfl, hnc, hm, hi, hoff⟩
      · exact absurd h0 hn
      · have hof := hoff (by omega)
        rcases O.block with h0 | ⟨hlt, _, cur, hcur, _, hcell⟩
        · have := O.le; omega
        · rw [← hl]
          refine .slc_mk (sz := sz) (by omega) hll rfl (.inr ⟨r, o, hr, by have := O.le; omega, rfl⟩) fun k j f x hk hx => ?_
          have hkn : k < n := by rw [← hl]; exact (List.getElem?_eq_some_iff.1 hk).1
          have hki : i + k < o.es.length := by omega
          have he := List.getElem?_eq_getElem hki
          have hjl : j < o.es[i + k].length := by
            rw [O.len _ (List.getElem_mem hki), ← O.sz, hsz, ← hll f (List.mem_of_getElem? hk)]
            exact (List.getElem?_eq_some_iff.1 hx).1
          obtain ⟨u, hu, h1, h2⟩ := hcell _ j _ _ he (List.getElem?_eq_getElem hjl)
          refine ⟨u, ?_, h1, ih k j _ f _ x he hk (List.getElem?_eq_getElem hjl) hx h2⟩
          rw [Addr.add_lit, hcur.cell, ← hu, hof, ← O.sz, hsz, Nat.add_mul]
          congr 1; omega
  | ptr r i j o fs hr hi hl hh ih =>
    intro v V
    obtain ⟨hrl, rfl⟩ := V.ptr_inv
    have O := H.obj r o (hs r o hr)
    have hcap : g.cap r ≠ 0 := by have := O.le; omega
    refine VRel.pin_mk rfl (.inr ⟨r, o, hr, hcap, rfl⟩) fun k b hb => ?_
    have hkl : k < ((o.es.getD i []).drop j).length := by
      have := (List.getElem?_eq_some_iff.1 hb).1
      rw [List.length_drop]
      omega
    have hka := List.getElem?_eq_getElem hkl
    obtain ⟨u, hu, h1, h2⟩ := O.cells hi j k _ hka
    exact ⟨u, hu, h1, ih k _ b hka hb h2⟩
  | vp r j b hh ih => intro v V; exact ih V.deVp
/-- .. of a result, which may be a tuple -/
inductive VwT (h : Heap) : AVal → AVal → Prop
  | one (a b : AVal) (hv : Vw h a b) : VwT h a b
  | tup (as bs : List AVal) (hl : as.length = bs.length) (hh : ∀ (j : Nat) (a b : AVal), as[j]? = some a → bs[j]? = some b → Vw h a b) : VwT h (.tup as) (.tup bs)
theorem VwT.relF (H : HRel h g w) (hs : Sub h1 h) {a b : AVal} (hv : VwT h1 a b) {v : Value} (V : VRel g w v a) : VRel (g.frzs h1) w v b := by
  cases hv with
  | one a b hv => exact hv.relF H hs V
  | tup as bs hl hh =>
    obtain ⟨vs, rfl, hvl, h2⟩ := V.tup_inv
    refine .tup vs bs (hvl.trans hl) fun j u b hu hb => ?_
    have hj : j < as.length := by rw [hl]; exact (List.getElem?_eq_some_iff.1 hb).1
    exact (hh j _ b (List.getElem?_eq_getElem hj) hb).relF H hs (h2 j u _ hu (List.getElem?_eq_getElem hj))
/-- A RESULT IN ROOTS OF THE CALL's OWN IS DATA FROM NOW ON. -/
theorem DCalls.outV {f : Nat} {args : List AVal} {K0 K : AVal → Heap → Prop} (hd : DCalls P f args h K0)
    (hk : ∀ a h', K0 a h' → ∃ h0 h1 b, Sub h0 h' ∧ Sub h1 h' ∧ (∀ r o, h1 r = some o → h0 r = none) ∧ VwT h1 a b ∧ K b h0) : DCalls P f args h K := by
  refine ⟨hd.1, fun g w vs H GR V => (hd.2 g w vs H GR V).mono fun e w' ⟨v', a, h', g', he, k0, H', Va, S⟩ => ?_⟩
  obtain ⟨h0, h1, b, s0, s1, hdj, hv, k⟩ := hk a h' k0
  exact ⟨v', b, h0, _, he, k, H'.frzs s0 s1 hdj, hv.relF H' s1 Va, S.trans (GS.frzs H' s1)⟩
/-- what of a heap is new -/
def newH (h h' : Heap) : Heap := fun r => match h r with
  | none => h' r
  | some _ => none
theorem newH_none {h h' : Heap} {r : Nat} (hr : h r = none) : newH h h' r = h' r := by unfold newH; rw [hr]
theorem newH_sub (h h' : Heap) : Sub (newH h h') h' := fun r o hr => by
  unfold newH at hr
  cases hh : h r with
  | none => rw [hh] at hr; exact hr
  | some x => rw [hh] at hr; cases hr
theorem newH_disj (h h' : Heap) : ∀ r o, newH h h' r = some o → h r = none := fun r o hr => by
  unfold newH at hr
  cases hh : h r with
  | none => rfl
  | some x => rw [hh] at hr; cases hr
theorem PCalls.outV {f : Nat} {args : List AVal} {v : AVal} (hd : ∀ h, DCalls P f args h fun a h' => Sub h h' ∧ VwT (newH h h') a v) : PCalls P f args v := fun h =>
  (hd h).outV fun _ h' ⟨S, hv⟩ => ⟨h, newH h h', v, S, newH_sub h h', newH_disj h h', hv, rfl, rfl⟩
theorem Vw.agg' {as bs : List AVal} (hh : F2 (Vw h) as bs) : Vw h (.agg as) (.agg bs) := .agg as bs hh.len hh.get
theorem VwT.tup' {as bs : List AVal} (hh : F2 (Vw h) as bs) : VwT h (.tup as) (.tup bs) := .tup as bs hh.len hh.get
theorem Vw.osl0 {r sz n : Nat} {o : AObj} {fs : List (List AVal)} (hr : h r = some o) (hl : fs.length = n) (hle : n ≤ o.es.length) (hll : ∀ f ∈ fs, f.length = sz) (hh : F2 (F2 (Vw h)) (o.es.take n) fs) : Vw h (.osl r sz 0 n) (.slc fs) := by
  refine .osl r sz 0 n o fs hr (by omega) hl hll fun k j e f a b he hf ha hb => ?_
  rw [Nat.zero_add] at he
  have hk : k < n := by rw [← hl]; exact (List.getElem?_eq_some_iff.1 hf).1
  have he' : (o.es.take n)[k]? = some e := by rw [List.getElem?_take, if_pos hk]; exact he
  exact (hh.get k e f he' hf).get j a b ha hb
theorem F2.refl {α : Type} {R : α → α → Prop} (hr : ∀ a, R a a) : ∀ l : List α, F2 R l l
  | [] => .nil
  | a :: l => .cons (hr a) (F2.refl hr l)
end
end Go.Sim
end
