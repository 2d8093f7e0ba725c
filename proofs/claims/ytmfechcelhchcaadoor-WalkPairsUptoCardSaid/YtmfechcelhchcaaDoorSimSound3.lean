/- Effects: allocation, stores, append. -/
import Derived.Test.YtmfechcelhchcaaDoorSimSound2
namespace Go.Sim
open Go

/-- What a value result comes to: the world and the ghost have gone on, the heap and the result are as K says. -/
def StepW (P : Program) (o : Oper) (a : Act) (w : World) (g : Ghost) (K : AVal → Heap → Prop) : Prop :=
  ∃ v w' g' r h', ((execOp a.eval o).run P w = .ok (.value v) w' ∨ (execOp a.eval o).run P w = .ok .skip w' ∧ v = undef) ∧ GS g w g' w' ∧ HRel h' g' w' ∧ VRel g' w' v r ∧ K r h'

/-- cells in a row, as elements -/
def FlatRel (g : Ghost) (w : World) (news : List Value) (sz : Nat) (es : List (List AVal)) : Prop :=
  news.length = es.length * sz ∧ (∀ e ∈ es, e.length = sz) ∧ (∀ u ∈ news, u.oneCell' = true) ∧
  ∀ (i j : Nat) (e : List AVal) (x : AVal), es[i]? = some e → e[j]? = some x → ∃ u, news[i * sz + j]? = some u ∧ VRel g w u x

/-- what a slice reads as -/
def Rd (h : Heap) (sz : Nat) : AVal → List (List AVal) → Prop
  | .slc es, l => l = es ∧ ∀ e ∈ es, e.length = sz
  | .emp, l => l = []
  | .osl r sz' i n, l => sz' = sz ∧ ∃ o, h r = some o ∧ i + n ≤ o.es.length ∧ l = (o.es.drop i).take n
  | _, _ => False

section
variable {P : Program} {o : Oper} {a : Act} {w : World} {g : Ghost} {h : Heap} {n : Nat} {e : Env}

theorem FlatRel.nil (sz : Nat) : FlatRel g w [] sz [] := ⟨by simp, by simp, by simp, by simp⟩
theorem FlatRel.step {g' : Ghost} {w' : World} (hs : GS g w g' w') {news : List Value} {sz : Nat} {es : List (List AVal)} (F : FlatRel g w news sz es) : FlatRel g' w' news sz es :=
  ⟨F.1, F.2.1, F.2.2.1, fun i j e x he hx => by obtain ⟨u, hu, hv⟩ := F.2.2.2 i j e x he hx; exact ⟨u, hu, hv.step hs⟩⟩
theorem FlatRel.append {xs ys : List Value} {sz : Nat} {es fs : List (List AVal)} (F : FlatRel g w xs sz es) (G : FlatRel g w ys sz fs) : FlatRel g w (xs ++ ys) sz (es ++ fs) := by
  refine ⟨by rw [List.length_append, List.length_append, F.1, G.1, Nat.add_mul], fun e he => ?_, fun u hu => ?_, fun i j e x he hx => ?_⟩
  · rcases List.mem_append.1 he with h | h
    · exact F.2.1 e h
    · exact G.2.1 e h
  · rcases List.mem_append.1 hu with h | h
    · exact F.2.2.1 u h
    · exact G.2.2.1 u h
  · rw [List.getElem?_append] at he
    split at he
    · rename_i hi
      obtain ⟨u, hu, hv⟩ := F.2.2.2 i j e x he hx
      exact ⟨u, by rw [List.getElem?_append_left (List.getElem?_eq_some_iff.1 hu).1]; exact hu, hv⟩
    · rename_i hi
      obtain ⟨u, hu, hv⟩ := G.2.2.2 _ j e x he hx
      refine ⟨u, ?_, hv⟩
      have : xs.length ≤ i * sz := by rw [F.1]; exact Nat.mul_le_mul_right _ (by omega)
      rw [List.getElem?_append_right (by omega), ← hu, F.1]
      congr 1
      rw [Nat.sub_mul]
      have : es.length * sz ≤ i * sz := Nat.mul_le_mul_right _ (by omega)
      omega

theorem div_lt_len {k n sz : Nat} (hk : k < n * sz) : k / sz < n := Nat.div_lt_of_lt_mul (by rw [Nat.mul_comm]; exact hk)

/-- reading: the cells of a frozen slice in a row -/
theorem flat_of_cells (ad : Addr) (sz : Nat) (es : List (List AVal)) (hsz : ∀ e ∈ es, e.length = sz)
    (hc : ∀ (i j : Nat) (e : List AVal) (x : AVal), es[i]? = some e → e[j]? = some x → ∃ u, w.cell? (ad.add (i * sz + j)) = some u ∧ u.oneCell' = true ∧ VRel g w u x) :
    ∃ news, FlatRel g w news sz es ∧ ∀ (j : Nat) (u : Value), news[j]? = some u → w.cell? (ad.add j) = some u := by
  have at' : ∀ k, k < es.length * sz → ∃ (e : List AVal) (x : AVal), es[k / sz]? = some e ∧ e[k % sz]? = some x := by
    intro k hk
    have h0 : 0 < sz := by
      rcases Nat.eq_zero_or_pos sz with h | h
      · subst h; simp at hk
      · exact h
    have h1 := div_lt_len hk
    have he : (es[k / sz]).length = sz := hsz _ (List.getElem_mem h1)
    exact ⟨_, _, List.getElem?_eq_getElem h1, List.getElem?_eq_getElem (by rw [he]; exact Nat.mod_lt _ h0)⟩
  refine ⟨(List.range (es.length * sz)).map fun k => (w.cell? (ad.add k)).getD undef, ⟨by simp, hsz, fun u hu => ?_, fun i j e x he hx => ?_⟩, fun j u hu => ?_⟩
  · obtain ⟨k, hk, rfl⟩ := List.mem_map.1 hu
    have hk' := List.mem_range.1 hk
    obtain ⟨e, x, he, hx⟩ := at' k hk'
    obtain ⟨u, hu, h1, _⟩ := hc _ _ e x he hx
    rw [Nat.div_add_mod'] at hu
    simpa [hu] using h1
  · obtain ⟨u, hu, _, h2⟩ := hc i j e x he hx
    have hi := (List.getElem?_eq_some_iff.1 he).1
    have hj : j < sz := by
      have := (List.getElem?_eq_some_iff.1 hx).1
      rw [hsz e (List.mem_of_getElem? he)] at this
      exact this
    have hlt : i * sz + j < es.length * sz := by
      have : (i + 1) * sz ≤ es.length * sz := Nat.mul_le_mul_right _ hi
      rw [Nat.add_mul, Nat.one_mul] at this
      omega
    exact ⟨u, by simp [hlt, hu], h2⟩
  · rw [List.getElem?_map, Option.map_eq_some_iff] at hu
    obtain ⟨k, hk, rfl⟩ := hu
    have hk1 := List.getElem?_eq_some_iff.1 hk
    obtain ⟨hj, hkj⟩ := hk1
    simp at hj hkj
    subst hkj
    obtain ⟨e, x, he, hx⟩ := at' j hj
    obtain ⟨u, hu, _, _⟩ := hc _ _ e x he hx
    rw [Nat.div_add_mod'] at hu
    simp [hu]

theorem drop_take_get {α : Type} (l : List α) (i n k : Nat) (x : α) (h : ((l.drop i).take n)[k]? = some x) : k < n ∧ l[i + k]? = some x := by
  rw [List.getElem?_take] at h
  split at h
  · rw [List.getElem?_drop] at h; exact ⟨by assumption, h⟩
  · cases h

/-- every slice that reads as a list has its cells in a row somewhere -/
theorem Rd.cells {sz : Nat} {v : Value} {x : AVal} {es : List (List AVal)} (hv : VRel g w v x) (H : HRel h g w) (hr : Rd h sz x es) :
    (es = [] ∧ ∃ A c, v = .slice A 0 c) ∨ ∃ (ad : Addr) (c : Nat) (news : List Value), v = .slice (some ad) es.length c ∧ es.length ≤ c ∧ FlatRel g w news sz es ∧ (∀ (j : Nat) (u : Value), news[j]? = some u → w.cell? (ad.add j) = some u) ∧ 0 < es.length := by
  cases x <;> try exact hr.elim
  · rename_i es'
    obtain ⟨rfl, hsz⟩ := hr
    obtain ⟨A, c, rfl, hin⟩ := hv.slc_inv
    by_cases hp : 0 < es.length
    · obtain ⟨hc, ad, sz', rfl, _, _, hsz', hcell⟩ := hin hp
      have hss : sz' = sz := by
        obtain ⟨x0, hx0⟩ : ∃ x0, x0 ∈ es := List.exists_mem_of_length_pos hp
        exact (hsz' _ hx0).symm.trans (hsz _ hx0)
      subst hss
      obtain ⟨news, F, hn⟩ := flat_of_cells ad sz' es hsz' hcell
      exact .inr ⟨ad, c, news, rfl, hc, F, hn, hp⟩
    · have hnil : es = [] := List.eq_nil_of_length_eq_zero (by omega)
      subst hnil
      exact .inl ⟨rfl, A, c, rfl⟩
  · obtain rfl : es = [] := hr
    obtain ⟨A, rfl, _⟩ := hv.emp_inv
    exact .inl ⟨rfl, A, 0, rfl⟩
  · rename_i r sz' i m
    obtain ⟨rfl, ob, hob, hle, rfl⟩ := hr
    obtain ⟨hrl, hsz, hc⟩ := hv.osl_inv
    have O := H.obj r ob hob
    have hlen : ((ob.es.drop i).take m).length = m := by simp; omega
    rcases hc with ⟨rfl, rfl, rfl, _⟩ | ⟨cap, off, rfl, hnc, hm, hi, hoff⟩
    · exact .inl ⟨by simp, none, 0, rfl⟩
    · by_cases hm0 : m = 0
      · subst hm0
        exact .inl ⟨by simp, _, _, rfl⟩
      · rw [hlen]
        have ho := hoff (by omega)
        obtain ⟨news, F, hn⟩ := flat_of_cells (g := g) (w := w) ⟨g.eta r, off, none⟩ sz' ((ob.es.drop i).take m) (fun e he => by rw [O.len e (List.mem_of_mem_drop (List.mem_of_mem_take he)), ← O.sz, hsz]) (fun k j e x he hx => by
          obtain ⟨hk, he'⟩ := drop_take_get _ _ _ _ _ he
          rcases O.block with h0 | ⟨_, _, cur, hcur, _, hh⟩
          · have := O.le; omega
          · obtain ⟨u, hu, h1, h2⟩ := hh _ _ _ _ he' hx
            refine ⟨u, ?_, h1, h2⟩
            rw [Addr.add_lit, cell_of_row w _ _ cur _ _ hcur, ← hu, ho, ← O.sz, hsz, Nat.add_mul]
            congr 1; omega)
        exact .inr ⟨_, cap, news, rfl, hnc, F, hn, by omega⟩

theorem toRow_out : ∀ (k : Nat) (ps : List (Nat × Operand)) (row : List SX), toRow k ps = some row → ps = ((ps.map (·.2)).zipIdx k).map (fun x => (x.2, x.1)) ∧ ps.length = row.length ∧
    ∀ (j : Nat) (p : Nat × Operand) (s : SX), ps[j]? = some p → row[j]? = some s → toSX p.2 = some s
  | _, [], row, h => by simp [toRow] at h; subst h; exact ⟨rfl, rfl, by simp⟩
  | k, (i, x) :: r, row, h => by
    simp only [toRow] at h
    split at h
    · rename_i hik
      subst hik
      simp only [Option.bind_eq_some_iff, Option.map_eq_some_iff] at h
      obtain ⟨sx, hx, row', hr, rfl⟩ := h
      obtain ⟨h1, h2, h3⟩ := toRow_out (i + 1) r row' hr
      refine ⟨by simp only [List.map_cons, List.zipIdx_cons]; rw [← h1], by simp [h2], fun j p s hp hs => ?_⟩
      cases j with
      | zero => simp at hp hs; subst hp hs; exact hx
      | succ j => simp at hp hs; exact h3 j p s hp hs
    · cases h

/-- the literal of a slice: its cells, as elements -/
theorem run_lit {t el : TypeId} {m s : Nat} {parts : Array (Nat × Operand)} {row : List SX} (hel : elemT P t = some el) (hs : szT P el = some s) (hs0 : 0 < s) (hrow : toRow 0 parts.toList = some row) (hm : row.length = m) (hsm : m * s ≤ 16777216)
    (hz : ((P.info? el).bind (·.zero)).isSome = true) (ho : o.op = .buildSlice t m parts) (E : ERel n e g w a) (hk : ∀ x ∈ row, isV (ev e x) = true ∧ (cellsOf (ev e x)).length = s) :
    ∃ cells : Array Value, (execOp a.eval o).run P w = .ok (.value (.slice (some ⟨w.heap.size, 0, none⟩) m m)) (w.alloc (.cells cells el)) ∧ cells.size = m * s ∧ FlatRel g w cells.toList s (row.map fun x => cellsOf (ev e x)) := by
  obtain ⟨inf, hinf, rfl⟩ := szT_out hs
  have hu := elemT_out hel
  obtain ⟨h1, h2, h3⟩ := toRow_out 0 parts.toList row hrow
  have hlen : parts.size = m := by rw [← hm, ← h2]; simp
  by_cases hm0 : m = 0
  · subst hm0
    obtain rfl : row = [] := List.eq_nil_of_length_eq_zero hm
    obtain rfl : parts = #[] := Array.eq_empty_of_size_eq_zero hlen
    refine ⟨#[], ?_, by simp, by simpa using FlatRel.nil (g := g) (w := w) inf.size⟩
    have hr0 : Array.range 0 = #[] := rfl
    simp [execOp, ho, Instr.buildSlice, run_underlying hu, Go.sizeOf, typeInfo, hinf, newRow, Instr.fill, hr0]
  · rw [hinf] at hz
    obtain ⟨z, hz'⟩ := Option.isSome_iff_exists.1 hz
    simp only [Option.bind_some] at hz'
    have hvs : ∀ (j : Nat) (x : SX), row[j]? = some x → ∃ p, parts.toList[j]? = some p ∧ CRel g w (a.eval p.2).cells (cellsOf (ev e x)) ∧ (cellsOf (ev e x)).length = inf.size := by
      intro j x hx
      have hj : j < parts.toList.length := by rw [h2]; exact (List.getElem?_eq_some_iff.1 hx).1
      have hp := List.getElem?_eq_getElem hj
      obtain ⟨h4, h5⟩ := hk x (List.mem_of_getElem? hx)
      exact ⟨_, hp, CRel.of (ev_sound E (h3 j _ x hp hx)) h4, h5⟩
    have hsz : ∀ v ∈ (parts.toList.map (·.2)).map a.eval, v.cells.size = inf.size := by
      intro v hv
      obtain ⟨x, hx, rfl⟩ := List.mem_map.1 hv
      obtain ⟨p, hp, rfl⟩ := List.mem_map.1 hx
      obtain ⟨j, hj⟩ := List.mem_iff_getElem?.1 hp
      have hjr : j < row.length := by rw [← h2]; exact (List.getElem?_eq_some_iff.1 hj).1
      obtain ⟨p', hp', hc, hl⟩ := hvs j _ (List.getElem?_eq_getElem hjr)
      rw [hj] at hp'; cases hp'
      rw [hc.1, hl]
    obtain ⟨cells, hfill, hcs, hck⟩ := Go.Great.fill_dense hs0 ((parts.toList.map (·.2)).map a.eval) 0 ((Array.range (m * inf.size)).map (z.cells[· % z.cells.size]!)) hsz (by simp [hlen])
    have hparts : (parts.map fun (i, x) => (i, a.eval x)).toList = (((parts.toList.map (·.2)).map a.eval).zipIdx 0).map fun x => (x.2, x.1) := by
      rw [Array.toList_map]
      conv => lhs; rw [h1]
      generalize (parts.toList.map (·.2)) = xs
      rw [List.zipIdx_map, List.map_map, List.map_map]
      rfl
    refine ⟨cells, ?_, by rw [hcs]; simp, ?_⟩
    · have hr := Go.run_buildSlice (P := P) w t el m (parts.map fun (i, x) => (i, a.eval x)) cells inf z hu hinf hz' (by omega) (by
        have := Nat.mul_pos (Nat.pos_of_ne_zero hm0) hs0; omega) (by rw [hparts]; exact hfill)
      simp only [execOp, ho, Sem.run_bind, hr, Result.andThen_ok, Sem.run_pure]
    · have hcl : ∀ (i j : Nat) (c : List AVal) (x : AVal), (row.map fun x => cellsOf (ev e x))[i]? = some c → c[j]? = some x → ∃ u, cells.toList[i * inf.size + j]? = some u ∧ u.oneCell' = true ∧ VRel g w u x := by
        intro i j c x hc hx
        rw [List.getElem?_map, Option.map_eq_some_iff] at hc
        obtain ⟨sx, hsx, rfl⟩ := hc
        obtain ⟨p, hp, hcr, hl⟩ := hvs i sx hsx
        have hj : j < inf.size := by rw [← hl]; exact (List.getElem?_eq_some_iff.1 hx).1
        have hi : i < m := by rw [← hm]; exact (List.getElem?_eq_some_iff.1 hsx).1
        have hlt : i * inf.size + j < m * inf.size := by
          have : (i + 1) * inf.size ≤ m * inf.size := Nat.mul_le_mul_right _ hi
          rw [Nat.add_mul, Nat.one_mul] at this
          omega
        have hd : (i * inf.size + j) / inf.size = i := by
          rw [Nat.mul_comm, Nat.mul_add_div hs0, Nat.div_eq_of_lt hj, Nat.add_zero]
        have hmm : (i * inf.size + j) % inf.size = j := by
          rw [Nat.mul_comm, Nat.mul_add_mod, Nat.mod_eq_of_lt hj]
        have hju : j < (a.eval p.2).cells.size := by rw [hcr.1, hl]; exact hj
        refine ⟨(a.eval p.2).cells[j], ?_, hcr.2.1 j _ (Array.getElem?_eq_getElem hju), hcr.2.2 j _ x (Array.getElem?_eq_getElem hju) hx⟩
        rw [Array.getElem?_toList, hck, if_pos (by simp [hlen]; exact hlt), hd, hmm, Nat.sub_zero]
        simp only [List.getElem?_map, hp, Option.map_some, Option.bind_some]
        exact Array.getElem?_eq_getElem hju
      refine ⟨by simp [hcs, hm], ?_, fun u hu => ?_, fun i j c x hc hx => by obtain ⟨u, hu, _, hv⟩ := hcl i j c x hc hx; exact ⟨u, hu, hv⟩⟩
      · intro c hc
        obtain ⟨x, hx, rfl⟩ := List.mem_map.1 hc
        exact (hk x hx).2
      · obtain ⟨k, hk'⟩ := List.mem_iff_getElem?.1 hu
        have hkl : k < m * inf.size := by
          have := (List.getElem?_eq_some_iff.1 hk').1
          simpa [hcs] using this
        have hi : k / inf.size < row.length := by rw [hm]; exact div_lt_len hkl
        obtain ⟨p, hp, hcr, hl⟩ := hvs _ _ (List.getElem?_eq_getElem hi)
        have hj : k % inf.size < (cellsOf (ev e row[k / inf.size])).length := by rw [hl]; exact Nat.mod_lt _ hs0
        obtain ⟨u', hu', h1', _⟩ := hcl (k / inf.size) (k % inf.size) _ _ (by rw [List.getElem?_map, List.getElem?_eq_getElem hi]; rfl) (List.getElem?_eq_getElem hj)
        rw [Nat.div_add_mod'] at hu'
        rw [hk'] at hu'; cases hu'; exact h1'

theorem cell_alloc_flat (cells : Array Value) (ty : TypeId) (j : Nat) : (w.alloc (.cells cells ty)).cell? ((⟨w.heap.size, 0, none⟩ : Addr).add j) = cells[j]? := by
  rw [Addr.add_lit, cell_of_row _ _ _ cells ty (0, 0) (heap_push_new w _), Nat.zero_add]

theorem s_bldF {t el : TypeId} {m s : Nat} {parts : Array (Nat × Operand)} {row : List SX} (hel : elemT P t = some el) (hs : szT P el = some s) (hs0 : 0 < s) (hrow : toRow 0 parts.toList = some row) (hm : row.length = m) (hsm : m * s ≤ 16777216)
    (hz : ((P.info? el).bind (·.zero)).isSome = true) (ho : o.op = .buildSlice t m parts) (E : ERel n e g w a) (H : HRel h g w) (hk : ∀ x ∈ row, isV (ev e x) = true ∧ (cellsOf (ev e x)).length = s) :
    ∃ v w' g', (execOp a.eval o).run P w = .ok (.value v) w' ∧ GS g w g' w' ∧ HRel h g' w' ∧ VRel g' w' v (if row.isEmpty then .emp else .slc (row.map fun x => cellsOf (ev e x))) := by
  obtain ⟨cells, hr, hcs, F⟩ := run_lit hel hs hs0 hrow hm hsm hz ho E hk
  obtain ⟨S1, H1⟩ := H.alloc (.cells cells el)
  have S2 := S1.frzTo w.heap.size (.inl (Nat.le_refl _)) ⟨_, _, _, heap_push_new w _⟩
  have H2 : HRel h (g.frz w.heap.size) (w.alloc (.cells cells el)) := H1.frz (by simp) fun r ob hr h0 he => by
    rcases (H.obj r ob hr).block with h' | ⟨hl, _⟩
    · exact h0 h'
    · omega
  refine ⟨_, _, _, hr, S2, H2, ?_⟩
  by_cases he : row = []
  · subst he
    simp at hm; subst hm
    simpa using VRel.empS (g := g.frz w.heap.size) (w := w.alloc (.cells cells el)) ⟨w.heap.size, 0, none⟩ rfl (.inr rfl) ⟨_, _, _, heap_push_new w _⟩
  · have hne : row.isEmpty = false := by simpa using he
    rw [hne]
    have hlen : (row.map fun x => cellsOf (ev e x)).length = m := by simp [hm]
    have key := VRel.slc_mk (g := g.frz w.heap.size) (w := w.alloc (.cells cells el)) (ad := ⟨w.heap.size, 0, none⟩) (c := m) (sz := s) (es := row.map fun x => cellsOf (ev e x)) (by rw [hlen]; exact Nat.le_refl _) F.2.1 rfl (.inr rfl)
      (fun i j c x hc hx => by
        obtain ⟨u, hu, hv⟩ := F.2.2.2 i j c x hc hx
        rw [Array.getElem?_toList] at hu
        exact ⟨u, by rw [cell_alloc_flat]; exact hu, F.2.2.1 u (Array.mem_toList_iff.2 (Array.mem_of_getElem? hu)), hv.step S2.toGStep⟩)
    rw [hlen] at key
    simpa using key

/-- a new block becomes a root -/
theorem root_new (H : HRel h g w) (cells : Array Value) {ty : TypeId} {sz cap : Nat} {es : List (List AVal)} (hpos : 0 < sz) (hcs : cells.size = cap * sz) (hle : es.length ≤ cap) (hlen : ∀ e ∈ es, e.length = sz)
    (hh : ∀ (i j : Nat) (e : List AVal) (x : AVal), es[i]? = some e → e[j]? = some x → ∃ u : Value, cells[i * sz + j]? = some u ∧ u.oneCell' = true ∧ VRel g w u x) :
    GS g w (g.add w.heap.size 0 cap sz) (w.alloc (.cells cells ty)) ∧ HRel (upd h g.nxt (some ⟨ty, sz, es⟩)) (g.add w.heap.size 0 cap sz) (w.alloc (.cells cells ty)) := by
  obtain ⟨S1, H1⟩ := H.alloc (.cells cells ty)
  refine ⟨S1.addTo _ _ _ _ (.inl (Nat.le_refl _)), H1.add hpos hlen hle (.inr ⟨by simp, fun hf => ?_, fun r ob hr h0 he => ?_, cells, heap_push_new w _, by omega, fun i j e x he hx => ?_⟩)⟩
  · have := H.fz _ hf; omega
  · rcases (H.obj r ob hr).block with h' | ⟨hl, _⟩
    · exact h0 h'
    · omega
  · obtain ⟨u, hu, h1, h2⟩ := hh i j e x he hx
    exact ⟨u, by rw [Nat.zero_add]; exact hu, h1, h2.step S1⟩

theorem s_bldR {t el : TypeId} {m s : Nat} {parts : Array (Nat × Operand)} {row : List SX} (hel : elemT P t = some el) (hs : szT P el = some s) (hs0 : 0 < s) (hrow : toRow 0 parts.toList = some row) (hm : row.length = m) (hsm : m * s ≤ 16777216)
    (hz : ((P.info? el).bind (·.zero)).isSome = true) (ho : o.op = .buildSlice t m parts) (E : ERel n e g w a) (H : HRel h g w) (hk : ∀ x ∈ row, isV (ev e x) = true ∧ (cellsOf (ev e x)).length = s)
    {K : AVal → Heap → Prop} (hK : ∀ r, h r = none → K (.osl r s 0 row.length) (upd h r (some ⟨el, s, row.map fun x => cellsOf (ev e x)⟩))) : StepW P o a w g K := by
  obtain ⟨cells, hr, hcs, F⟩ := run_lit hel hs hs0 hrow hm hsm hz ho E hk
  obtain ⟨S, H'⟩ := root_new H cells (ty := el) (cap := m) hs0 hcs (es := row.map fun x => cellsOf (ev e x)) (by simp [hm]) F.2.1 (fun i j c x hc hx => by
    obtain ⟨u, hu, hv⟩ := F.2.2.2 i j c x hc hx
    rw [Array.getElem?_toList] at hu
    exact ⟨u, hu, F.2.2.1 u (Array.mem_toList_iff.2 (Array.mem_of_getElem? hu)), hv⟩)
  refine ⟨_, _, _, .osl g.nxt s 0 row.length, _, .inl hr, S, H', ?_, hK _ H.none_nxt⟩
  have hml : m ≤ maxLen := by
    have : m * 1 ≤ m * s := Nat.mul_le_mul_left _ hs0
    simp only [maxLen]; omega
  rw [hm]
  have := VRel.osl (g := g.add w.heap.size 0 m s) (w := w.alloc (.cells cells el)) g.nxt s 0 m m 0 (Nat.lt_succ_self _) (by simp [Ghost.add]) (Nat.le_refl _) hml (by simp [Ghost.add]) (fun _ => by simp [Ghost.add])
  simpa [Ghost.add] using this
end
end Go.Sim
