/- From a row's reading of an argument to what its cells stand for. -/
import Derived.Test.YtmfechcelhchcaaDoorSimKit
import Derived.ChangeArms
namespace Go.Sim
open Go

/-- cells stand for abstract values, whatever the roots are: all that lies there is frozen -/
def CellsR (w : World) (cs : List Value) (as : List AVal) : Prop :=
  cs.length = as.length ∧ ∀ g : Ghost, (∀ b, b < w.heap.size → g.fz b) → ∀ (j : Nat) (u : Value) (c : AVal), cs[j]? = some u → as[j]? = some c → u.oneCell' = true ∧ VRel g w u c
theorem CellsR.append {w : World} {cs cs' : List Value} {as as' : List AVal} (h : CellsR w cs as) (h' : CellsR w cs' as') : CellsR w (cs ++ cs') (as ++ as') := by
  refine ⟨by simp [h.1, h'.1], fun g hg j u c hu hc => ?_⟩
  by_cases hj : j < cs.length
  · rw [List.getElem?_append_left hj] at hu
    rw [List.getElem?_append_left (by rw [← h.1]; exact hj)] at hc
    exact h.2 g hg j u c hu hc
  · rw [List.getElem?_append_right (by omega)] at hu
    rw [List.getElem?_append_right (by rw [← h.1]; omega), ← h.1] at hc
    exact h'.2 g hg _ u c hu hc
theorem CellsR.one {w : World} {v : Value} {a : AVal} (h1 : v.oneCell' = true) (h : ∀ g : Ghost, (∀ b, b < w.heap.size → g.fz b) → VRel g w v a) : CellsR w [v] [a] := by
  refine ⟨rfl, fun g hg j u c hu hc => ?_⟩
  cases j with
  | zero => simp at hu hc; subst hu hc; exact ⟨h1, h g hg⟩
  | succ j => simp at hu

/-- what a measure of readings must bear -/
structure Bulk {H : Type} (B : DataW H → Nat) : Prop where
  str : ∀ l, l.length ≤ B (.lit (.string l))
  len : ∀ es sp, es.length ≤ B (.slice es sp)
  elem : ∀ es sp d, d ∈ es → B d ≤ B (.slice es sp)
  part : ∀ ps d, d ∈ ps → B d ≤ B (.agg ps)

def Rdr {H : Type} (eh : TypeId × Value → H) (P : Program) (w : World) (B : DataW H → Nat) (t : TypeId) {α : Type} (enc : α → List AVal) (good : Nat → α → Prop) : Prop :=
  ∀ (base : Nat) (spare : Nat → Bool) (held : Bool) (n : Nat) (cs : List Value) (x : DataW H × List MemPlace), DataW.trod eh P w base spare held n t cs = some x → ∃ a : α, CellsR w cs (enc a) ∧ good (B x.1) a
def Mono {α : Type} (good : Nat → α → Prop) : Prop := ∀ k k' a, k ≤ k' → good k a → good k' a

section
variable {H : Type} {eh : TypeId × Value → H} {P : Program} {w : World} {B : DataW H → Nat} {t : TypeId}
theorem Rdr.map {α β : Type} {enc : α → List AVal} {enc' : β → List AVal} {good : Nat → α → Prop} {good' : Nat → β → Prop} (r : Rdr eh P w B t enc good) (f : α → β) (he : ∀ a, enc' (f a) = enc a) (hg : ∀ k a, good k a → good' k (f a)) : Rdr eh P w B t enc' good' := by
  intro base spare held n cs x h
  obtain ⟨a, h1, h2⟩ := r base spare held n cs x h
  exact ⟨f a, by rw [he]; exact h1, hg _ _ h2⟩
theorem Rdr.bool (ht : P.underlying t = some .bool) : Rdr eh P w B t (fun b : Bool => [.bool b]) (fun _ _ => True) := by
  intro base spare held n cs x h
  obtain ⟨b, rfl, rfl⟩ := DataW.trod_bool ht h
  exact ⟨b, .one rfl fun g _ => .bool b, trivial⟩
theorem Rdr.int {k : IntKind} (ht : P.underlying t = some (.int k)) : Rdr eh P w B t (fun n : Int => [.int k n]) (fun _ n => (Lit.int k n).wf = true) := by
  intro base spare held n cs x h
  obtain ⟨m, rfl, rfl, hw⟩ := DataW.trod_int ht h
  exact ⟨m, .one rfl fun g _ => .int k m, hw⟩
theorem Rdr.str (hB : Bulk B) (ht : P.underlying t = some .string) : Rdr eh P w B t (fun l : List UInt8 => [.str l]) (fun k l => l.length ≤ k) := by
  intro base spare held n cs x h
  obtain ⟨s, rfl, rfl, _⟩ := DataW.trod_string ht h
  exact ⟨s.data.toList, .one rfl fun g _ => .str s, hB.str _⟩
theorem list_choose {α : Type} {n : Nat} {p : Nat → α → Prop} (h : ∀ i, i < n → ∃ x, p i x) : ∃ l : List α, l.length = n ∧ ∀ i a, l[i]? = some a → p i a := by
  induction n with
  | zero => exact ⟨[], rfl, fun i a h => by simp at h⟩
  | succ n ih =>
    obtain ⟨l, hl, hp⟩ := ih fun i hi => h i (by omega)
    obtain ⟨x, hx⟩ := h n (by omega)
    refine ⟨l ++ [x], by simp [hl], fun i a ha => ?_⟩
    by_cases hi : i < n
    · rw [List.getElem?_append_left (by omega)] at ha; exact hp i a ha
    · have hlt := (List.getElem?_eq_some_iff.1 ha).1
      have hin : i = n := by simp at hlt; omega
      subst hin
      rw [List.getElem?_append_right (by omega)] at ha
      simp [hl] at ha; subst ha; exact hx
theorem Rdr.slice {e : TypeId} {sz : Nat} {α : Type} {enc : α → List AVal} {good : Nat → α → Prop} (hB : Bulk B) (hm : Mono good) (ht : P.underlying t = some (.slice e)) (hsz : P.cellsOf e = sz) (h0 : 0 < sz)
    (henc : ∀ a, (enc a).length = sz) (r : Rdr eh P w B e enc good) : Rdr eh P w B t (fun l : List α => [.slc (l.map enc)]) (fun k l => l.length ≤ k ∧ ∀ a ∈ l, good k a) := by
  intro base spare held n cs x h
  rcases DataW.trod_slice ht h with ⟨rfl, rfl⟩ | ⟨ad, len, cap, elems, rest, n, rfl, rfl, rfl, hb, hl, _, hlen, hel, _, _⟩
  · exact ⟨[], .one rfl fun g _ => .slc0 none 0, by simp, fun a ha => by cases ha⟩
  · have each : ∀ i, i < len → ∃ a : α, ∃ cs', w.cells? base (ad.add (i * sz)) sz = some cs' ∧ CellsR w cs' (enc a) ∧ good (B (.slice (elems.map (·.1)) (rest.map (·.1)))) a := by
      intro i hi
      have hi' : i < elems.length := by omega
      have h1 := hel i hi
      rw [List.getElem?_eq_getElem hi', hsz, Option.bind_eq_some_iff] at h1
      obtain ⟨cs', h2, h3⟩ := h1
      obtain ⟨a, h4, h5⟩ := r base spare held n cs' _ h3
      exact ⟨a, cs', h2, h4, hm _ _ a (hB.elem _ _ _ (List.mem_map.2 ⟨_, List.getElem_mem hi', rfl⟩)) h5⟩
    obtain ⟨l, hll, hp⟩ := list_choose each
    refine ⟨l, .one rfl fun g hg => ?_, by rw [hll, ← hlen]; simpa using hB.len (elems.map (·.1)) (rest.map (·.1)), fun a ha => ?_⟩
    · by_cases hz : len = 0
      · subst hz
        have : l = [] := List.eq_nil_of_length_eq_zero hll
        subst this
        exact .slc0 _ _
      · have cell : ∀ (i j : Nat) (f : List AVal) (y : AVal), (l.map enc)[i]? = some f → f[j]? = some y → ∃ u, w.cell? (ad.add (i * sz + j)) = some u ∧ u.oneCell' = true ∧ VRel g w u y := by
          intro i j f y hf hy
          rw [List.getElem?_map, Option.map_eq_some_iff] at hf
          obtain ⟨a, ha, rfl⟩ := hf
          obtain ⟨cs', h1, h2, _⟩ := hp i a ha
          obtain ⟨_, h3, h4⟩ := World.cells?_some h1
          have hj : j < sz := by rw [← henc a]; exact (List.getElem?_eq_some_iff.1 hy).1
          have h5 := h4 j hj
          rw [Addr.add_add'] at h5
          have h6 : cs'[j]? = some cs'[j] := List.getElem?_eq_getElem (by omega)
          rw [h6] at h5
          have := h2.2 g hg j _ y h6 hy
          exact ⟨_, h5, this.1, this.2⟩
        have hpos : 0 < l.length := by omega
        obtain ⟨a0, ha0⟩ : ∃ a, l[0]? = some a := ⟨_, List.getElem?_eq_getElem hpos⟩
        have hf0 : (l.map enc)[0]? = some (enc a0) := by rw [List.getElem?_map, ha0]; rfl
        have he0 : (enc a0)[0]? = some ((enc a0)[0]'(by rw [henc]; exact h0)) := List.getElem?_eq_getElem _
        obtain ⟨u, hu, _, _⟩ := cell 0 0 _ _ hf0 he0
        have hspot : ad.spot = none := by
          have := World.cell?_spot hu
          simpa [Addr.add] using this
        have hblk : ad.block < w.heap.size := by
          have hh : w.cell? ad = some u := by simpa [Addr.add] using hu
          unfold World.cell? at hh
          split at hh
          · rename_i c _ _ hc
            exact (Array.getElem?_eq_some_iff.1 hc).1
          · cases hh
        have key := VRel.slc_mk (g := g) (w := w) (ad := ad) (c := cap) (sz := sz) (es := l.map enc) (by simp [hll]; exact hl) (fun f hf => by obtain ⟨a, _, rfl⟩ := List.mem_map.1 hf; exact henc a) hspot (hg _ hblk) cell
        rw [List.length_map, hll] at key
        exact key
    · obtain ⟨i, hi⟩ := List.mem_iff_getElem?.1 ha
      exact (hp i a hi).choose_spec.2.2
/-- the fields of a struct from an offset on -/
inductive RdrFs {H : Type} (eh : TypeId × Value → H) (P : Program) (w : World) (B : DataW H → Nat) : List Field → Nat → (α : Type) → (α → List AVal) → (Nat → α → Prop) → Prop
  | nil (off : Nat) : RdrFs eh P w B [] off Unit (fun _ => []) (fun _ _ => True)
  | cons {f : Field} {fs : List Field} {off sz : Nat} {α β : Type} {enc : α → List AVal} {encs : β → List AVal} {good : Nat → α → Prop} {goods : Nat → β → Prop} (hf : f.offset = off) (hs : P.cellsOf f.type = sz) (hm : Mono good)
      (r : Rdr eh P w B f.type enc good) (t : RdrFs eh P w B fs (off + sz) β encs goods) : RdrFs eh P w B (f :: fs) off (α × β) (fun p => enc p.1 ++ encs p.2) (fun k p => good k p.1 ∧ goods k p.2)
theorem RdrFs.read {fs : List Field} {off : Nat} {α : Type} {enc : α → List AVal} {good : Nat → α → Prop} (R : RdrFs eh P w B fs off α enc good) :
    ∀ {base : Nat} {spare : Nat → Bool} {held : Bool} {n k : Nat} {cs : List Value} {xs : List (DataW H × List MemPlace)}, (∀ (i : Nat) (f : Field), fs[i]? = some f → DataW.trod eh P w base spare held n f.type ((cs.drop f.offset).take (P.cellsOf f.type)) = xs[i]?) →
      xs.length = fs.length → (∀ x ∈ xs, B x.1 ≤ k) → ∃ (a : α) (m : Nat), CellsR w ((cs.drop off).take m) (enc a) ∧ m = (fs.map fun f => P.cellsOf f.type).sum ∧ good k a := by
  induction R with
  | nil off => intro base spare held n k cs xs _ _ _; exact ⟨(), 0, ⟨by simp, fun g _ j u c hu => by simp at hu⟩, rfl, trivial⟩
  | cons hf hs hm r t ih =>
    intro base spare held n k cs xs h hl hb
    cases xs with
    | nil => simp at hl
    | cons x xs =>
      have h0 := h 0 _ rfl
      rw [hf, hs] at h0
      obtain ⟨a, ha, hga⟩ := r _ _ _ _ _ _ h0
      obtain ⟨b, m, hbm, hms, hgb⟩ := ih (fun i f hi => h (i + 1) f (by simpa using hi)) (by simpa using hl) (fun y hy => hb y (List.mem_cons_of_mem _ hy))
      subst hs
      refine ⟨(a, b), _ + m, ?_, by rw [List.map_cons, List.sum_cons, hms], hm _ _ _ (hb x List.mem_cons_self) hga, hgb⟩
      rw [List.take_add, List.drop_drop]
      exact ha.append hbm
theorem Rdr.struct {fs : Array Field} {α : Type} {enc : α → List AVal} {good : Nat → α → Prop} (hB : Bulk B) (ht : P.underlying t = some (.struct fs)) (hc : P.cellsOf t = (fs.toList.map fun f => P.cellsOf f.type).sum) (R : RdrFs eh P w B fs.toList 0 α enc good) : Rdr eh P w B t enc good := by
  intro base spare held n cs x h
  obtain ⟨xs, n, rfl, rfl, hl, hxl, hx⟩ := DataW.trod_struct ht h
  obtain ⟨a, m, h1, h2, h3⟩ := R.read (k := B (.agg (xs.map (·.1)))) (cs := cs) (xs := xs) (fun i f hi => hx i f (by simpa using hi)) (by simpa using hxl) (fun y hy => hB.part _ _ (List.mem_map.2 ⟨y, hy, rfl⟩))
  refine ⟨a, ?_, h3⟩
  rw [List.drop_zero, h2, ← hc, ← hl, List.take_length] at h1
  exact h1
end
end Go.Sim
