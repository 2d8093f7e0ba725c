/- Using contracts: owned memory that becomes data; owned memory that is lent to a reader; weaker readings. -/
import Derived.Test.YtmfechcelhchcaaDoorSimLib
namespace Go.Sim
open Go

/-- b says of a value no more than a does: an empty slice reads as the empty list; roots read as what they hold. -/
inductive Vw (h : Heap) : AVal → AVal → Prop
  | refl (a : AVal) : Vw h a a
  | emp : Vw h .emp (.slc [])
  | agg (as bs : List AVal) (hl : as.length = bs.length) (hh : ∀ (j : Nat) (a b : AVal), as[j]? = some a → bs[j]? = some b → Vw h a b) : Vw h (.agg as) (.agg bs)
  | slc (es fs : List (List AVal)) (hl : es.length = fs.length) (hle : ∀ (i : Nat) (e f : List AVal), es[i]? = some e → fs[i]? = some f → e.length = f.length)
      (hh : ∀ (i j : Nat) (e f : List AVal) (a b : AVal), es[i]? = some e → fs[i]? = some f → e[j]? = some a → f[j]? = some b → Vw h a b) : Vw h (.slc es) (.slc fs)
  | osl (r sz i n : Nat) (o : AObj) (fs : List (List AVal)) (hr : h r = some o) (hle : i + n ≤ o.es.length) (hl : fs.length = n) (hll : ∀ f ∈ fs, f.length = sz)
      (hh : ∀ (k j : Nat) (e f : List AVal) (a b : AVal), o.es[i + k]? = some e → fs[k]? = some f → e[j]? = some a → f[j]? = some b → Vw h a b) : Vw h (.osl r sz i n) (.slc fs)
  | ptr (r i j : Nat) (o : AObj) (fs : List AVal) (hr : h r = some o) (hi : i < o.es.length) (hl : fs.length ≤ (o.es.getD i []).length - j)
      (hh : ∀ (k : Nat) (a b : AVal), ((o.es.getD i []).drop j)[k]? = some a → fs[k]? = some b → Vw h a b) : Vw h (.ptr r i j) (.pin fs)
  | vp (r j : Nat) (b : AVal) (hh : Vw h (.ptr r 0 j) b) : Vw h (.vp r j) b

inductive Scal : AVal → Prop
  | int (k : IntKind) (n : Int) : Scal (.int k n)
  | bool (b : Bool) : Scal (.bool b)
  | str (l : List UInt8) : Scal (.str l)
  | tup (as : List AVal) (hh : ∀ (j : Nat) (a : AVal), as[j]? = some a → Scal a) : Scal (.tup as)
  | agg (as : List AVal) (hh : ∀ (j : Nat) (a : AVal), as[j]? = some a → Scal a) : Scal (.agg as)

section
variable {P : PG} {g : Ghost} {w : World} {h : Heap}

theorem Scal.any {v : Value} {a : AVal} (hs : Scal a) : VRel g w v a → ∀ (g' : Ghost) (w' : World), VRel g' w' v a := by
  induction hs generalizing v with
  | int k n => intro hv g' w'; rw [hv.int_inv]; exact .int k n
  | bool b => intro hv g' w'; rw [hv.bool_inv]; exact .bool b
  | str l => intro hv g' w'; rw [hv.str_inv']; exact VRel.str_mk g' w' l
  | tup as hh ih =>
    intro hv g' w'
    obtain ⟨vs, rfl, hl, hh'⟩ := hv.tup_inv
    exact .tup vs as hl fun j u x hu hx => ih j x hx (hh' j u x hu hx) g' w'
  | agg as hh ih =>
    intro hv g' w'
    obtain ⟨vs, rfl, hl, h1, hh'⟩ := hv.agg_inv
    exact .agg vs as hl h1 fun j u x hu hx => ih j x hx (hh' j u x hu hx) g' w'

/-- everything that is there frozen for a while -/
def Ghost.allFz (g : Ghost) (w : World) : Ghost := { g with fz := fun b => b < w.heap.size }
theorem GStep.allFz (H : HRel h g w) : GStep g w (g.allFz w) w where
  nxt := Nat.le_refl _
  eta _ _ := rfl
  bo _ _ := rfl
  cap _ _ := rfl
  sz _ _ := rfl
  fz b hb := H.fz b hb
  keep _ _ := rfl
  os := rfl
  tape := rfl
  output := rfl
  size := Nat.le_refl _

theorem Vw.rel (H : HRel h g w) {a b : AVal} (hv : Vw h a b) : ∀ {v : Value}, VRel g w v a → VRel (g.allFz w) w v b := by
  have S := GStep.allFz H
  induction hv with
  | refl a => intro v V; exact V.step S
  | emp =>
    intro v V
    obtain ⟨A, rfl, _⟩ := V.emp_inv
    exact .slc0 A 0
  | agg as bs hl hh ih =>
    intro v V
    obtain ⟨vs, rfl, hvl, h1, h2⟩ := V.agg_inv
    refine .agg vs bs (hvl.trans hl) h1 fun j u b hu hb => ?_
    have hj : j < as.length := by rw [hl]; exact (List.getElem?_eq_some_iff.1 hb).1
    exact ih j _ b (List.getElem?_eq_getElem hj) hb (h2 j u _ hu (List.getElem?_eq_getElem hj))
  | slc es fs hl hle hh ih =>
    intro v V
    obtain ⟨A, c, rfl, hin⟩ := V.slc_inv
    by_cases hp : 0 < es.length
    · obtain ⟨hc, ad, sz, rfl, hsp, hf, hsz, hcell⟩ := hin hp
      rw [hl]
      refine .slc_mk (sz := sz) (by omega) (fun f hf' => ?_) hsp (H.fz _ hf) fun i j f x hi hx => ?_
      · obtain ⟨i, hi⟩ := List.mem_iff_getElem?.1 hf'
        have hil : i < es.length := by rw [hl]; exact (List.getElem?_eq_some_iff.1 hi).1
        rw [← hle i _ f (List.getElem?_eq_getElem hil) hi]
        exact hsz _ (List.getElem_mem hil)
      · have hil : i < es.length := by rw [hl]; exact (List.getElem?_eq_some_iff.1 hi).1
        have he := List.getElem?_eq_getElem hil
        have hjl : j < es[i].length := by rw [hle i _ f he hi]; exact (List.getElem?_eq_some_iff.1 hx).1
        obtain ⟨u, hu, h1, h2⟩ := hcell i j _ _ he (List.getElem?_eq_getElem hjl)
        exact ⟨u, hu, h1, ih i j _ f _ x he hi (List.getElem?_eq_getElem hjl) hx h2⟩
    · have h0 : es.length = 0 := by omega
      have hfs : fs = [] := List.eq_nil_of_length_eq_zero (by omega)
      subst hfs
      rw [h0]
      exact .slc0 A c
  | osl r sz i n o fs hr hle hl hll hh ih =>
    intro v V
    obtain ⟨hrl, hsz, hc⟩ := V.osl_inv
    have O := H.obj r o hr
    by_cases hn : n = 0
    · subst hn
      have hfs : fs = [] := List.eq_nil_of_length_eq_zero hl
      subst hfs
      rcases hc with ⟨rfl, _⟩ | ⟨cap, off, rfl, _⟩
      · exact .slc0 _ _
      · exact .slc0 _ _
    · rcases hc with ⟨_, _, h0, _⟩ | ⟨cap, off, rfl, hnc, hm, hi, hoff⟩
      · exact absurd h0 hn
      · have hof := hoff (by omega)
        rcases O.block with h0 | ⟨hlt, _, cur, hcur, _, hcell⟩
        · have := O.le; omega
        · rw [← hl]
          refine .slc_mk (sz := sz) (by omega) hll rfl hlt fun k j f x hk hx => ?_
          have hkn : k < n := by rw [← hl]; exact (List.getElem?_eq_some_iff.1 hk).1
          have hki : i + k < o.es.length := by omega
          have he := List.getElem?_eq_getElem hki
          have hjl : j < o.es[i + k].length := by
            rw [O.len _ (List.getElem_mem hki), ← O.sz, hsz, ← hll f (List.mem_of_getElem? hk)]
            exact (List.getElem?_eq_some_iff.1 hx).1
          obtain ⟨u, hu, h1, h2⟩ := hcell _ j _ _ he (List.getElem?_eq_getElem hjl)
          refine ⟨u, ?_, h1, ih k j _ f _ x he hk (List.getElem?_eq_getElem hjl) hx h2⟩
          rw [Addr.add_lit, cell_of_row w _ _ cur _ _ hcur, ← hu, hof, ← O.sz, hsz, Nat.add_mul]
          congr 1; omega
  | ptr r i j o fs hr hi hl hh ih =>
    intro v V
    obtain ⟨hrl, rfl⟩ := V.ptr_inv
    have O := H.obj r o hr
    have hlt : g.eta r < w.heap.size := by
      rcases O.block with h0 | ⟨hlt, _⟩
      · have := O.le; omega
      · exact hlt
    refine VRel.pin_mk rfl hlt fun k b hb => ?_
    have hkl : k < ((o.es.getD i []).drop j).length := by
      have := (List.getElem?_eq_some_iff.1 hb).1
      rw [List.length_drop]
      omega
    have hka := List.getElem?_eq_getElem hkl
    obtain ⟨u, hu, h1, h2⟩ := O.cells hi j k _ hka
    exact ⟨u, hu, h1, ih k _ b hka hb h2⟩
  | vp r j b hh ih => intro v V; exact ih V.deVp

/-- A READER: what is the call's own is lent to it. -/
theorem PCalls.borrow {f : Nat} {args args' : List AVal} {v : AVal} (hp : PCalls P f args' v) (hs : Scal v) (hl : args.length = args'.length) (hv : ∀ (j : Nat) (a b : AVal), args[j]? = some a → args'[j]? = some b → Vw h a b) :
    DCalls P f args h fun r h' => r = v ∧ h' = h := by
  refine ⟨(hp h).1, fun g w vs H GR V => ?_⟩
  have H0 : HRel (fun _ => none) (g.allFz w) w := ⟨(fun r o hr => by cases hr), (fun r r' o o' hr => by cases hr), (fun b hb => hb), H.ow⟩
  have V' : VRelL (g.allFz w) w vs args' := by
    refine ⟨V.1.trans hl, fun j u b hu hb => ?_⟩
    have hj : j < args.length := by rw [hl]; exact (List.getElem?_eq_some_iff.1 hb).1
    exact (hv j _ b (List.getElem?_eq_getElem hj) hb).rel H (V.2 j u _ hu (List.getElem?_eq_getElem hj))
  refine ((hp _).2 (g.allFz w) w vs H0 (GR.step (GStep.allFz H)) V').mono fun e w' ⟨v', r, h', g', he, ⟨hr, _⟩, H', Vr, S⟩ => ?_
  subst hr
  obtain ⟨S2, H2⟩ := H.ext (w' := w') (fun b hb => S.keep b hb) S.os S.tape S.output S.size
  exact ⟨v', r, h, g, he, ⟨rfl, rfl⟩, H2, hs.any Vr g w', S2⟩

/-- frozen roots in a value -/
inductive Fz (r : Nat) (es : List (List AVal)) : AVal → AVal → Prop
  | refl (a : AVal) : Fz r es a a
  | osl (sz i n : Nat) (hle : i + n ≤ es.length) : Fz r es (.osl r sz i n) (.slc ((es.drop i).take n))
  | agg (as bs : List AVal) (hl : as.length = bs.length) (hh : ∀ (j : Nat) (a b : AVal), as[j]? = some a → bs[j]? = some b → Fz r es a b) : Fz r es (.agg as) (.agg bs)
  | tup (as bs : List AVal) (hl : as.length = bs.length) (hh : ∀ (j : Nat) (a b : AVal), as[j]? = some a → bs[j]? = some b → Fz r es a b) : Fz r es (.tup as) (.tup bs)

theorem Fz.rel {r : Nat} {o : AObj} (H : HRel h g w) (hr : h r = some o) {g' : Ghost} (S : GS g w g' w) (hf : g.cap r ≠ 0 → g'.fz (g.eta r)) {a b : AVal} (hz : Fz r o.es a b) : ∀ {v : Value}, VRel g w v a → VRel g' w v b := by
  induction hz with
  | refl a => intro v V; exact V.step S
  | osl sz i n hle =>
    intro v V
    obtain ⟨hrl, hsz, hc⟩ := V.osl_inv
    have O := H.obj r o hr
    have hl : ((o.es.drop i).take n).length = n := by simp; omega
    by_cases hn : n = 0
    · subst hn
      rcases hc with ⟨rfl, _⟩ | ⟨cap, off, rfl, _⟩
      · simpa using VRel.slc0 (g := g') (w := w) none 0
      · simpa using VRel.slc0 (g := g') (w := w) (some ⟨g.eta r, off, none⟩) cap
    · rcases hc with ⟨_, _, h0, _⟩ | ⟨cap, off, rfl, hnc, hm, hi, hoff⟩
      · exact absurd h0 hn
      · have hof := hoff (by omega)
        rcases O.block with h0 | ⟨hlt, _, cur, hcur, _, hcell⟩
        · have := O.le; omega
        · have key := VRel.slc_mk (g := g') (w := w) (ad := ⟨g.eta r, off, none⟩) (c := cap) (sz := sz) (es := (o.es.drop i).take n) (by rw [hl]; exact hnc)
            (fun f hf' => by rw [O.len f (List.mem_of_mem_drop (List.mem_of_mem_take hf')), ← O.sz, hsz]) rfl (hf (by omega)) (fun k j f x hk hx => by
            obtain ⟨hkn, hk'⟩ := drop_take_get _ _ _ _ _ hk
            obtain ⟨u, hu, h1, h2⟩ := hcell _ j _ _ hk' hx
            refine ⟨u, ?_, h1, h2.step S⟩
            rw [Addr.add_lit, cell_of_row w _ _ cur _ _ hcur, ← hu, hof, ← O.sz, hsz, Nat.add_mul]
            congr 1; omega)
          rw [hl] at key
          exact key
  | agg as bs hl hh ih =>
    intro v V
    obtain ⟨vs, rfl, hvl, h1, h2⟩ := V.agg_inv
    refine .agg vs bs (hvl.trans hl) h1 fun j u b hu hb => ?_
    have hj : j < as.length := by rw [hl]; exact (List.getElem?_eq_some_iff.1 hb).1
    exact ih j _ b (List.getElem?_eq_getElem hj) hb (h2 j u _ hu (List.getElem?_eq_getElem hj))
  | tup as bs hl hh ih =>
    intro v V
    obtain ⟨vs, rfl, hvl, h2⟩ := V.tup_inv
    refine .tup vs bs (hvl.trans hl) fun j u b hu hb => ?_
    have hj : j < as.length := by rw [hl]; exact (List.getElem?_eq_some_iff.1 hb).1
    exact ih j _ b (List.getElem?_eq_getElem hj) hb (h2 j u _ hu (List.getElem?_eq_getElem hj))

/-- A RESULT IN MEMORY OF THE CALL's OWN IS DATA FROM NOW ON. -/
theorem DCalls.freeze {f : Nat} {args : List AVal} {K0 K : AVal → Heap → Prop} (hd : DCalls P f args h K0)
    (hk : ∀ a h', K0 a h' → ∃ r o b, h' r = some o ∧ Fz r o.es a b ∧ K b (del h' r)) : DCalls P f args h K := by
  refine ⟨hd.1, fun g w vs H GR V => (hd.2 g w vs H GR V).mono fun e w' ⟨v', a, h', g', he, k0, H', Va, S⟩ => ?_⟩
  obtain ⟨r, o, b, hr, hz, hkb⟩ := hk a h' k0
  by_cases hc : g'.cap r = 0
  · exact ⟨v', b, del h' r, g', he, hkb, H'.del r, hz.rel H' hr (GS.refl g' w') (fun h => absurd hc h) Va, S⟩
  · obtain ⟨S2, H2⟩ := H'.freeze hr hc
    exact ⟨v', b, del h' r, _, he, hkb, H2, hz.rel H' hr S2 (fun _ => .inr rfl) Va, S.trans S2⟩

/-- weaker readings of the arguments -/
inductive Wk : AVal → AVal → Prop
  | refl (a : AVal) : Wk a a
  | emp : Wk .emp (.slc [])
  | agg (as bs : List AVal) (hl : as.length = bs.length) (hh : ∀ (j : Nat) (a b : AVal), as[j]? = some a → bs[j]? = some b → Wk a b) : Wk (.agg as) (.agg bs)
  | tup (as bs : List AVal) (hl : as.length = bs.length) (hh : ∀ (j : Nat) (a b : AVal), as[j]? = some a → bs[j]? = some b → Wk a b) : Wk (.tup as) (.tup bs)
  | slc (es fs : List (List AVal)) (hl : es.length = fs.length) (hle : ∀ (i : Nat) (e f : List AVal), es[i]? = some e → fs[i]? = some f → e.length = f.length)
      (hh : ∀ (i j : Nat) (e f : List AVal) (a b : AVal), es[i]? = some e → fs[i]? = some f → e[j]? = some a → f[j]? = some b → Wk a b) : Wk (.slc es) (.slc fs)
theorem Wk.rel {a b : AVal} (hv : Wk a b) : ∀ {v : Value}, VRel g w v a → VRel g w v b := by
  induction hv with
  | refl a => intro v V; exact V
  | emp =>
    intro v V
    obtain ⟨A, rfl, _⟩ := V.emp_inv
    exact .slc0 A 0
  | agg as bs hl hh ih =>
    intro v V
    obtain ⟨vs, rfl, hvl, h1, h2⟩ := V.agg_inv
    refine .agg vs bs (hvl.trans hl) h1 fun j u b hu hb => ?_
    have hj : j < as.length := by rw [hl]; exact (List.getElem?_eq_some_iff.1 hb).1
    exact ih j _ b (List.getElem?_eq_getElem hj) hb (h2 j u _ hu (List.getElem?_eq_getElem hj))
  | tup as bs hl hh ih =>
    intro v V
    obtain ⟨vs, rfl, hvl, h2⟩ := V.tup_inv
    refine .tup vs bs (hvl.trans hl) fun j u b hu hb => ?_
    have hj : j < as.length := by rw [hl]; exact (List.getElem?_eq_some_iff.1 hb).1
    exact ih j _ b (List.getElem?_eq_getElem hj) hb (h2 j u _ hu (List.getElem?_eq_getElem hj))
  | slc es fs hl hle hh ih =>
    intro v V
    obtain ⟨A, c, rfl, hin⟩ := V.slc_inv
    by_cases hp : 0 < es.length
    · obtain ⟨hc, ad, sz, rfl, hsp, hf, hsz, hcell⟩ := hin hp
      rw [hl]
      refine .slc_mk (sz := sz) (by omega) (fun f hf' => ?_) hsp hf fun i j f x hi hx => ?_
      · obtain ⟨i, hi⟩ := List.mem_iff_getElem?.1 hf'
        have hil : i < es.length := by rw [hl]; exact (List.getElem?_eq_some_iff.1 hi).1
        rw [← hle i _ f (List.getElem?_eq_getElem hil) hi]
        exact hsz _ (List.getElem_mem hil)
      · have hil : i < es.length := by rw [hl]; exact (List.getElem?_eq_some_iff.1 hi).1
        have he := List.getElem?_eq_getElem hil
        have hjl : j < es[i].length := by rw [hle i _ f he hi]; exact (List.getElem?_eq_some_iff.1 hx).1
        obtain ⟨u, hu, h1, h2⟩ := hcell i j _ _ he (List.getElem?_eq_getElem hjl)
        exact ⟨u, hu, h1, ih i j _ f _ x he hi (List.getElem?_eq_getElem hjl) hx h2⟩
    · have h0 : es.length = 0 := by omega
      have hfs : fs = [] := List.eq_nil_of_length_eq_zero (by omega)
      subst hfs
      rw [h0]
      exact .slc0 A c
theorem DCalls.weak {f : Nat} {args args' : List AVal} {K : AVal → Heap → Prop} (hd : DCalls P f args' h K) (hl : args.length = args'.length) (hv : ∀ (j : Nat) (a b : AVal), args[j]? = some a → args'[j]? = some b → Wk a b) : DCalls P f args h K := by
  refine ⟨hd.1, fun g w vs H GR V => hd.2 g w vs H GR ⟨V.1.trans hl, fun j u b hu hb => ?_⟩⟩
  have hj : j < args.length := by rw [hl]; exact (List.getElem?_eq_some_iff.1 hb).1
  exact (hv j _ b (List.getElem?_eq_getElem hj) hb).rel (V.2 j u _ hu (List.getElem?_eq_getElem hj))
theorem PCalls.weak {f : Nat} {args args' : List AVal} {v : AVal} (hp : PCalls P f args' v) (hl : args.length = args'.length) (hv : ∀ (j : Nat) (a b : AVal), args[j]? = some a → args'[j]? = some b → Wk a b) : PCalls P f args v :=
  fun h => (hp h).weak hl hv
/-- .. of the result -/
theorem DCalls.wkRes {f : Nat} {args : List AVal} {K0 K : AVal → Heap → Prop} (hd : DCalls P f args h K0) (hk : ∀ a h', K0 a h' → ∃ b, Wk a b ∧ K b h') : DCalls P f args h K :=
  ⟨hd.1, fun g w vs H GR V => (hd.2 g w vs H GR V).mono fun e w' ⟨v', a, h', g', he, k0, H', Va, S⟩ => by
    obtain ⟨b, hz, hkb⟩ := hk a h' k0
    exact ⟨v', b, h', g', he, hkb, H', hz.rel Va, S⟩⟩
end
end Go.Sim
