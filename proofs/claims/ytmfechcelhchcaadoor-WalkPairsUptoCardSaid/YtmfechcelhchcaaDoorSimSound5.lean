/- Effects: append and its kin. -/
import Derived.Test.YtmfechcelhchcaaDoorSimSound4
namespace Go.Sim
open Go

section
variable {P : Program} {o : Oper} {a : Act} {w : World} {g : Ghost} {h : Heap} {n : Nat} {e : Env}

/-- what is appended: so many elements, these cells, whether asked ahead of the draw or behind it -/
structure Src (P : Program) (w : World) (u : TypeId) (v2 : Value) (s m : Nat) (news : List Value) : Prop where
  ty : P.underlying u = some .string ∨ ∃ d, P.underlying u = some (.slice d)
  len : ∀ w1, (Builtin.lenOf v2).run P w1 = .ok m w1
  cells : ∀ w1, w1 = w ∨ w1 = w.drew → (Builtin.firstCells s m v2).run P w1 = .ok news.toArray w1
  size : news.length = m * s
  one : ∀ u ∈ news, u.oneCell' = true

theorem run_append_noop {t u ty el : TypeId} {s : Nat} (hel : elemT P t = some el) (hs : szT P el = some s) (A : Option Addr) (k c : Nat) (hk : k ≤ c) {v2 : Value} {news : List Value} (S : Src P w u v2 s 0 news) :
    (Builtin.append_ #[t, u] ty #[.slice A k c, v2]).run P w = .ok (.slice A k c) w := by
  have hu := elemT_out hel
  have hn : news = [] := List.eq_nil_of_length_eq_zero (by have := S.size; omega)
  have hc := S.cells w (.inl rfl)
  rw [hn] at hc
  rcases S.ty with hd | ⟨d, hd⟩ <;> cases A <;> simp [Builtin.append_, run_underlying hu, run_underlying hd, run_sizeOf' hs, S.len, hc, hk, storeCells]

theorem run_append_room' {t u ty el : TypeId} {s : Nat} (hel : elemT P t = some el) (hs : szT P el = some s)
    (b off sLen sCap : Nat) (cur : Array Value) (ct : TypeId) (hg : w.heap[b]? = some (.cells cur ct (0, 0)))
    (m : Nat) {v2 : Value} {news : List Value} (S : Src P w u v2 s m news)
    (hroom : sLen + m ≤ sCap) (hfit : off + sLen * s + news.length ≤ cur.size) :
    (Builtin.append_ #[t, u] ty #[.slice (some ⟨b, off, none⟩) sLen sCap, v2]).run P w =
      .ok (.slice (some ⟨b, off, none⟩) (sLen + m) sCap) (w.setRow b (cur.toList.take (off + sLen * s) ++ news ++ cur.toList.drop (off + sLen * s + news.length)).toArray) := by
  have hu := elemT_out hel
  have hst := run_storeCells_at P b (off + sLen * s) ct news 0 cur w hg (by simpa using hfit) S.one
  simp only [Nat.add_zero] at hst
  rcases S.ty with hd | ⟨d, hd⟩ <;> simp [Builtin.append_, run_underlying hu, run_underlying hd, run_sizeOf' hs, S.len, hroom, S.cells w (.inl rfl), Addr.add_lit, hst]

theorem run_append_grow' {t u ty el : TypeId} {s : Nat} {i : TypeInfo} {z : Value} (hel : elemT P t = some el) (hs : szT P el = some s) (hi : P.info? el = some i) (hz : i.zero = some z)
    (A : Option Addr) (sLen sCap : Nat) (olds : List Value) (hold : (Builtin.firstCells s sLen (.slice A sLen sCap)).run P w.drew = .ok olds.toArray w.drew)
    (m : Nat) {v2 : Value} {news : List Value} (S : Src P w u v2 s m news)
    (hg : sCap < sLen + m) (h63 : ((sLen + m : Nat) : Int) ≤ 9223372036854775807) (hfit : Builtin.nextslicecap (sLen + m) sCap * i.bytes ≤ 281474976710656) :
    (Builtin.append_ #[t, u] ty #[.slice A sLen sCap, v2]).run P w =
      .ok (.slice (some ⟨w.heap.size, 0, none⟩) (sLen + m) (grownCap w (sLen + m) sCap el))
        (w.drew.alloc (.cells (olds.toArray ++ news.toArray ++ Builtin.zeroCells z.cells (grownCap w (sLen + m) sCap el - (sLen + m))) el)) := by
  have hu := elemT_out hel
  have hn : ¬ (sLen + m ≤ sCap) := by omega
  have h63' : ¬ (9223372036854775807 < ((sLen : Int) + (m : Int))) := by omega
  have h48' : ¬ (281474976710656 < Builtin.nextslicecap (sLen + m) sCap * i.bytes) := by omega
  rcases S.ty with hd | ⟨d, hd⟩ <;> simp [Builtin.append_, run_underlying hu, run_underlying hd, run_sizeOf' hs, typeInfo, zeroValue, hi, hz, S.len, hn, h63', h48', Question.forced, S.cells w.drew (.inr rfl), hold, newRow, grownCap] <;> (congr 2; apply Array.ext'; simp [List.append_assoc])

/-- a slice that reads as a list, as what is appended -/
theorem Rd.src {t el : TypeId} {s : Nat} (hel : elemT P t = some el) {v : Value} {x : AVal} {es : List (List AVal)} (hv : VRel g w v x) (H : HRel h g w) (hr : Rd h s x es) :
    ∃ news, Src P w t v s es.length news ∧ FlatRel g w news s es := by
  rcases hr.cells hv H with ⟨rfl, A, c, rfl⟩ | ⟨ad, c, news, rfl, _, F, hn, _⟩
  · refine ⟨[], ⟨.inr ⟨_, elemT_out hel⟩, fun w1 => by simp [Builtin.lenOf], fun w1 _ => ?_, by simp, by simp⟩, FlatRel.nil s⟩
    cases A <;> simp [Builtin.firstCells, loadCells, loadCellsFrom]
  · refine ⟨news, ⟨.inr ⟨_, elemT_out hel⟩, fun w1 => by simp [Builtin.lenOf], fun w1 h1 => ?_, F.1, F.2.2.1⟩, F⟩
    rcases h1 with rfl | rfl
    · exact run_firstCells_some (P := P) _ s es.length ad es.length c news F.1 hn
    · exact run_firstCells_some (P := P) _ s es.length ad es.length c news F.1 hn

def strEs (l : List UInt8) : List (List AVal) := l.map fun b => [.int .u8 b.toNat]
theorem str_src {u : TypeId} (hu : P.underlying u = some .string) {v : Value} {l : List UInt8} (hv : VRel g w v (.str l)) : ∃ news, Src P w u v 1 (strEs l).length news ∧ FlatRel g w news 1 (strEs l) := by
  obtain ⟨s, rfl, rfl⟩ := hv.str_inv
  have hs : (strEs s.data.toList).length = s.size := by rw [strEs, List.length_map, size_of_toList]
  refine ⟨s.data.toList.map fun b => .int .u8 b.toNat, ⟨.inl hu, fun w1 => by rw [hs]; simp [Builtin.lenOf], fun w1 _ => ?_, by simp [strEs], by simp [Value.oneCell']⟩, by simp [strEs], by simp [strEs], by simp [Value.oneCell'], fun i j c x hc hx => ?_⟩
  · rw [hs]
    simp only [Builtin.firstCells, Sem.run_pure]
    congr 1
    have : s.extract 0 s.size = s := by
      apply ByteArray.ext
      simp
    rw [this]
    apply Array.ext'
    simp
  · simp only [strEs, List.getElem?_map, Option.map_eq_some_iff] at hc
    obtain ⟨b, hb, rfl⟩ := hc
    cases j with
    | succ j => simp at hx
    | zero =>
      simp at hx; subst hx
      exact ⟨_, by rw [Nat.mul_one, Nat.add_zero, List.getElem?_map, hb]; rfl, .int _ _⟩

theorem bytesT_out {t : TypeId} {i : TypeInfo} {b : Nat} (hb : bytesT P t = some b) (hi : P.info? t = some i) : i.bytes = b := by
  unfold bytesT at hb
  rw [hi] at hb
  simpa using hb

/-- a grown row: old cells, new cells, zeros -/
theorem root_grown (H : HRel h g w) {ty : TypeId} {s cap k : Nat} {xs ys : List Value} {es fs : List (List AVal)} (hs0 : 0 < s) (F : FlatRel g w xs s es) (G : FlatRel g w ys s fs) (z : Array Value) (hz : z.size = s)
    (hcap : es.length + fs.length ≤ cap) (hk : k = cap - (es.length + fs.length)) (hmax : cap ≤ maxLen) :
    ∃ g' w', w' = w.drew.alloc (.cells (xs.toArray ++ ys.toArray ++ Builtin.zeroCells z k) ty) ∧ GS g w g' w' ∧ HRel (upd h g.nxt (some ⟨ty, s, es ++ fs⟩)) g' w' ∧
      VRel g' w' (.slice (some ⟨w.heap.size, 0, none⟩) (es.length + fs.length) cap) (.osl g.nxt s 0 (es.length + fs.length)) := by
  have FG := F.append G
  obtain ⟨S0, H0⟩ := H.drew
  have hsize : (xs.toArray ++ ys.toArray ++ Builtin.zeroCells z k).size = cap * s := by
    simp only [Array.size_append, List.size_toArray, size_zeroCells, hz, F.1, G.1, ← Nat.add_mul]
    congr 1; omega
  obtain ⟨S, H'⟩ := root_new H0 (xs.toArray ++ ys.toArray ++ Builtin.zeroCells z k) (ty := ty) (cap := cap) (es := es ++ fs) hs0 hsize (by simpa using hcap) FG.2.1 (fun i j c x hc hx => by
    obtain ⟨u, hu, hv⟩ := FG.2.2.2 i j c x hc hx
    refine ⟨u, ?_, FG.2.2.1 u (List.mem_of_getElem? hu), hv.step S0⟩
    have hlt := (List.getElem?_eq_some_iff.1 hu).1
    rw [Array.getElem?_append_left (by simpa using hlt)]
    have ht : xs.toArray ++ ys.toArray = (xs ++ ys).toArray := by simp
    rw [ht, List.getElem?_toArray]
    exact hu)
  refine ⟨_, _, rfl, S0.trans S, H', ?_⟩
  have := VRel.osl (g := g.add w.drew.heap.size 0 cap s) (w := w.drew.alloc (.cells (xs.toArray ++ ys.toArray ++ Builtin.zeroCells z k) ty)) g.nxt s 0 (es.length + fs.length) cap 0 (Nat.lt_succ_self _) (by simp [Ghost.add]) hcap hmax (by simp [Ghost.add]) (fun _ => by simp [Ghost.add])
  simpa [Ghost.add] using this

/-- THE LAW OF append. -/
theorem app_run {t u ty el : TypeId} {s b : Nat} {z : List AVal} (hel : elemT P t = some el) (hs : szT P el = some s) (hb : bytesT P el = some b) (hz : zeroT P el = some z) (hs0 : 0 < s) (hzl : z.length = s) (H : HRel h g w)
    {v v2 : Value} {x : AVal} (hv : VRel g w v x) {es2 : List (List AVal)} {news : List Value} (SR : Src P w u v2 s es2.length news) (F : FlatRel g w news s es2)
    {K : AVal → Heap → Prop}
    (hK : (x = .emp ∧ es2.length * b ≤ 140737488355328 ∧ es2.length ≤ 140737488355328 ∧ ∀ r, h r = none → K (.osl r s 0 es2.length) (upd h r (some ⟨el, s, es2⟩))) ∨
      ∃ r i m ob, x = .osl r s i m ∧ h r = some ob ∧ ob.ty = el ∧ i + m ≤ ob.es.length ∧ (m + es2.length) * b ≤ 140737488355328 ∧ m + es2.length ≤ 140737488355328 ∧
        ∀ r', del h r r' = none → K (.osl r' s 0 (m + es2.length)) (upd (del h r) r' (some ⟨el, s, (ob.es.drop i).take m ++ es2⟩))) :
    ∃ v' w' g' r h', (Builtin.append_ #[t, u] ty #[v, v2]).run P w = .ok v' w' ∧ GS g w g' w' ∧ HRel h' g' w' ∧ VRel g' w' v' r ∧ K r h' := by
  obtain ⟨inf, hinf, rfl⟩ := szT_out hs
  have hbi := bytesT_out hb hinf
  have hu := elemT_out hel
  obtain ⟨inf', zv, hinf', hzv, hzc⟩ := zeroT_out (g := g) (w := w) hz
  rw [hinf] at hinf'
  cases hinf'
  have hzs : zv.cells.size = inf.size := by rw [hzc.1, hzl]
  rcases hK with ⟨rfl, hB, hM, hK⟩ | ⟨r, i, m, ob, rfl, hob, hty, him, hB, hM, hK⟩
  · obtain ⟨A, rfl, hA⟩ := hv.emp_inv
    rcases Nat.eq_zero_or_pos es2.length with h0 | hpos
    · obtain rfl : es2 = [] := List.eq_nil_of_length_eq_zero h0
      obtain ⟨g', S, H', V⟩ := phantom H A hA el hs0
      exact ⟨_, w, g', _, _, run_append_noop hel hs A 0 0 (Nat.le_refl _) SR, S, H', V, hK _ H.none_nxt⟩
    · have hge := grownCap_ge w es2.length 0 el
      have hmax := grownCap_le_maxLen w es2.length 0 el (by simp only [maxLen]; omega)
      obtain ⟨g', w', hw', S, H', V⟩ := root_grown (h := h) (ty := el) (k := grownCap w es2.length 0 el - es2.length) H hs0 (FlatRel.nil _) F zv.cells hzs (cap := grownCap w es2.length 0 el) (by simpa using hge) (by simp) hmax
      simp only [List.length_nil, Nat.zero_add, List.nil_append] at S H' V
      have hrun : (Builtin.append_ #[t, u] ty #[.slice A 0 0, v2]).run P w = .ok (.slice (some ⟨w.heap.size, 0, none⟩) es2.length (grownCap w es2.length 0 el)) w' := by
        rw [hw']
        have := run_append_grow' (P := P) (ty := ty) hel hs hinf hzv A 0 0 [] (by cases A <;> simp [Builtin.firstCells, loadCells, loadCellsFrom]) es2.length SR (by omega) (by omega) (growslice_fits (by omega) (by rw [hbi, Nat.zero_add]; exact hB))
        simpa using this
      exact ⟨_, w', g', _, _, hrun, S, H', V, hK _ H.none_nxt⟩
  · obtain ⟨hrl, hsz, hc⟩ := hv.osl_inv
    have O := H.obj r ob hob
    have hobs : ob.sz = inf.size := O.sz.symm.trans hsz
    have Hd := H.del r
    have hes : ((ob.es.drop i).take m).length = m := by simp; omega
    have hesl : ∀ e ∈ (ob.es.drop i).take m, e.length = inf.size := fun c hc' => by rw [← hobs]; exact O.len c (List.mem_of_mem_drop (List.mem_of_mem_take hc'))
    rcases Nat.eq_zero_or_pos es2.length with h0 | hpos
    · obtain rfl : es2 = [] := List.eq_nil_of_length_eq_zero h0
      -- nothing is appended: the same array, under a new name
      simp only [List.length_nil, Nat.add_zero, List.append_nil] at hK
      rcases hc with ⟨rfl, rfl, rfl, hcap0⟩ | ⟨cap, off, rfl, hnc, hmx, hi, hoff⟩
      · obtain ⟨g', S, H', V⟩ := phantom Hd none (by simp) el hs0
        exact ⟨_, w, g', _, _, run_append_noop hel hs none 0 0 (Nat.le_refl _) SR, S, by simpa using H', V, by simpa using hK _ Hd.none_nxt⟩
      · refine ⟨_, w, g.add (g.eta r) off cap inf.size, .osl g.nxt inf.size 0 m, _, run_append_noop hel hs _ m cap hnc SR, (GS.refl g w).addTo _ _ _ _ ((Nat.eq_zero_or_pos cap).elim (fun h => .inr (.inr h)) (fun h => .inr (.inl ⟨r, O.lt, by omega, rfl⟩))), Hd.add (ty := el) (es := (ob.es.drop i).take m) hs0 hesl (by rw [hes]; exact hnc) ?_, ?_, hK _ Hd.none_nxt⟩
        · by_cases hcap : cap = 0
          · exact .inl hcap
          · rcases O.block with h0 | ⟨h1, h2, cur, hcur, hcs, hh⟩
            · omega
            · refine .inr ⟨h1, h2, fun t' ob' ht' h0 he => ?_, cur, by rw [← hty]; exact hcur, ?_, fun k j c x hc' hx => ?_⟩
              · unfold Sim.del at ht'
                split at ht'
                · cases ht'
                · rename_i hne; exact hne (H.inj t' r ob' ob ht' hob h0 (by omega) he)
              · rw [hoff (by omega), ← hcs, ← hi, hobs, Nat.add_mul]; omega
              · obtain ⟨hk, hc''⟩ := drop_take_get _ _ _ _ _ hc'
                obtain ⟨u, hu', h3, h4⟩ := hh _ _ _ _ hc'' hx
                refine ⟨u, ?_, h3, h4⟩
                rw [← hu', hoff (by omega), hobs, Nat.add_mul]
                congr 1; omega
        · have := VRel.osl (g := g.add (g.eta r) off cap inf.size) (w := w) g.nxt inf.size 0 m cap off (Nat.lt_succ_self _) (by simp [Ghost.add]) hnc hmx (by simp [Ghost.add]) (fun _ => by simp [Ghost.add])
          simpa [Ghost.add] using this
    · by_cases hroom : ∃ cap off, v = .slice (some ⟨g.eta r, off, none⟩) m cap ∧ m + es2.length ≤ cap ∧ cap ≤ maxLen ∧ i + cap = g.cap r ∧ (0 < cap → off = g.bo r + i * inf.size)
      · obtain ⟨cap, off, rfl, hroom, hmx, hi, hoff⟩ := hroom
        have hoff := hoff (by omega)
        rcases O.block with h0 | ⟨h1, h2, cur, hcur, hcs, hh⟩
        · omega
        · have hc0 : g.cap r ≠ 0 := by omega
          have hfit : off + m * inf.size + news.length ≤ cur.size := by
            rw [F.1, ← hcs, ← hi, hobs, hoff, Nat.add_mul]
            have : (m + es2.length) * inf.size ≤ cap * inf.size := Nat.mul_le_mul_right _ hroom
            rw [Nat.add_mul] at this
            omega
          have hrun := run_append_room' (P := P) (ty := ty) hel hs (g.eta r) off m cap cur ob.ty hcur es2.length SR hroom hfit
          obtain ⟨S, H1⟩ := root_world H hob hc0 (cur.toList.take (off + m * inf.size) ++ news ++ cur.toList.drop (off + m * inf.size + news.length)).toArray
          refine ⟨_, _, g.add (g.eta r) off cap inf.size, .osl g.nxt inf.size 0 (m + es2.length), _, hrun, S.addTo _ _ _ _ (.inr (.inl ⟨r, O.lt, hc0, rfl⟩)), H1.add (ty := el) (es := (ob.es.drop i).take m ++ es2) hs0 (fun c hc' => ?_) (by simp only [List.length_append, hes]; exact hroom) (.inr ⟨by rw [size_setRow]; exact h1, h2, fun t' ob' ht' h0 he => ?_, _, by rw [← hty]; exact setRow_heap w _ cur _ _ _ hcur, ?_, fun k j c x hc' hx => ?_⟩), ?_, hK _ Hd.none_nxt⟩
          · rcases List.mem_append.1 hc' with h3 | h3
            · exact hesl c h3
            · exact F.2.1 c h3
          · unfold Sim.del at ht'
            split at ht'
            · cases ht'
            · rename_i hne; exact hne (H.inj t' r ob' ob ht' hob h0 hc0 he)
          · simp only [List.size_toArray, List.length_append, List.length_take, List.length_drop, Array.length_toList]
            have : cur.size = off + cap * inf.size := by rw [← hcs, ← hi, hobs, hoff, Nat.add_mul]; omega
            omega
          · simp only [List.getElem?_toArray]
            have hj : j < inf.size := by
              have hjl := (List.getElem?_eq_some_iff.1 hx).1
              rcases List.mem_append.1 (List.mem_of_getElem? hc') with h3 | h3
              · rw [hesl c h3] at hjl; exact hjl
              · rw [F.2.1 c h3] at hjl; exact hjl
            rw [List.getElem?_append] at hc'
            split at hc'
            · obtain ⟨hk, hc''⟩ := drop_take_get _ _ _ _ _ hc'
              obtain ⟨u, hu', h3, h4⟩ := hh _ _ _ _ hc'' hx
              refine ⟨u, ?_, h3, h4.step S⟩
              have hkm : (k + 1) * inf.size ≤ m * inf.size := Nat.mul_le_mul_right _ hk
              rw [Nat.add_mul, Nat.one_mul] at hkm
              rw [List.append_assoc, List.getElem?_append_left (by simp only [List.length_take, Array.length_toList]; omega), List.getElem?_take, if_pos (by omega), Array.getElem?_toList, ← hu', hoff, hobs, Nat.add_mul]
              congr 1; omega
            · rename_i hk
              rw [hes] at hk hc'
              obtain ⟨u, hu', h4⟩ := F.2.2.2 _ _ _ _ hc' hx
              refine ⟨u, ?_, F.2.2.1 u (List.mem_of_getElem? hu'), h4.step S⟩
              have hul := (List.getElem?_eq_some_iff.1 hu').1
              have hkm : m * inf.size ≤ k * inf.size := Nat.mul_le_mul_right _ (by omega)
              have hsub : (k - m) * inf.size = k * inf.size - m * inf.size := Nat.sub_mul _ _ _
              rw [List.append_assoc, List.getElem?_append_right (by simp only [List.length_take, Array.length_toList]; omega), List.getElem?_append_left (by simp only [List.length_take, Array.length_toList]; omega), ← hu']
              simp only [List.length_take, Array.length_toList]
              congr 1; omega
          · have := VRel.osl (g := g.add (g.eta r) off cap inf.size) (w := w.setRow (g.eta r) (cur.toList.take (off + m * inf.size) ++ news ++ cur.toList.drop (off + m * inf.size + news.length)).toArray) g.nxt inf.size 0 (m + es2.length) cap off (Nat.lt_succ_self _) (by simp [Ghost.add]) hroom hmx (by simp [Ghost.add]) (fun _ => by simp [Ghost.add])
            simpa [Ghost.add] using this
      · -- it grows
        have hR1 : Rd h inf.size (.osl r inf.size i m) ((ob.es.drop i).take m) := ⟨rfl, ob, hob, him, rfl⟩
        have hold : ∃ (A : Option Addr) (cap : Nat) (olds : List Value), v = .slice A m cap ∧ cap < m + es2.length ∧ FlatRel g w olds inf.size ((ob.es.drop i).take m) ∧ (∀ (j : Nat) (u : Value), olds[j]? = some u → ∃ b0, A = some b0 ∧ w.cell? (b0.add j) = some u) := by
          rcases hR1.cells hv H with ⟨hnil, A, c, hv'⟩ | ⟨b0, c, olds, hv', hcl, F', hc', _⟩
          · have hm0 : m = 0 := by rw [← hes, hnil]; rfl
            subst hm0
            rw [hnil]
            rcases hc with ⟨rfl, _, _, _⟩ | ⟨cap, off, rfl, hnc, hmx, hi, hoff⟩
            · exact ⟨none, 0, [], rfl, by omega, FlatRel.nil _, by simp⟩
            · refine ⟨_, cap, [], rfl, ?_, FlatRel.nil _, by simp⟩
              rcases Nat.lt_or_ge cap (0 + es2.length) with h' | h'
              · exact h'
              · exact absurd ⟨cap, off, rfl, h', hmx, hi, hoff⟩ hroom
          · rw [hes] at hv'
            refine ⟨some b0, c, olds, hv', ?_, F', fun j u hu' => ⟨b0, rfl, hc' j u hu'⟩⟩
            rcases hc with ⟨rfl, _, _, _⟩ | ⟨cap, off, rfl, hnc, hmx, hi, hoff⟩
            · cases hv'
            · cases hv'
              rcases Nat.lt_or_ge c (m + es2.length) with h' | h'
              · exact h'
              · exact absurd ⟨c, off, rfl, h', hmx, hi, hoff⟩ hroom
        obtain ⟨A, cap, olds, rfl, hlt, F', hc'⟩ := hold
        have hge := grownCap_ge w (m + es2.length) cap el
        have hmax := grownCap_le_maxLen w (m + es2.length) cap el (by simp only [maxLen]; omega)
        obtain ⟨g', w', hw', S, H', V⟩ := root_grown (h := Sim.del h r) (ty := el) (k := grownCap w (m + es2.length) cap el - (m + es2.length)) Hd hs0 F' F zv.cells hzs (cap := grownCap w (m + es2.length) cap el) (by rw [hes]; exact hge) (by rw [hes]) hmax
        rw [hes] at V
        refine ⟨_, w', g', _, _, ?_, S, H', V, hK _ Hd.none_nxt⟩
        rw [hw']
        have hol : olds.length = m * inf.size := by rw [F'.1, hes]
        refine run_append_grow' (P := P) hel hs hinf hzv A m cap olds ?_ es2.length SR hlt (by omega) (growslice_fits (by omega) (by rw [hbi]; exact hB))
        cases A with
        | none =>
          have hm0 : olds = [] := by
            cases olds with
            | nil => rfl
            | cons u us => obtain ⟨b0, h0, _⟩ := hc' 0 u rfl; cases h0
          subst hm0
          simp [Builtin.firstCells]
        | some b0 => exact run_firstCells_some (P := P) _ inf.size m b0 m cap olds hol (fun j u hu' => by obtain ⟨b1, h1, h2⟩ := hc' j u hu'; cases h1; exact h2)

theorem s_app {t el : TypeId} {s b : Nat} {z : List AVal} {x y : Operand} {sx sy : SX} {c : Call} (ho : o.op = .call c) (hc : c.callee = .builtin .append) (ha : c.args.toList = [x, y]) (ht : c.argTypes.toList = [t, t])
    (hel : elemT P t = some el) (hs : szT P el = some s) (hb : bytesT P el = some b) (hz : zeroT P el = some z) (hs0 : 0 < s) (hzl : z.length = s) (hx : toSX x = some sx) (hy : toSX y = some sy) (E : ERel n e g w a) (H : HRel h g w)
    {es2 : List (List AVal)} (hR : Rd h s (ev e sy) es2) {K : AVal → Heap → Prop}
    (hK : (ev e sx = .emp ∧ es2.length * b ≤ 140737488355328 ∧ es2.length ≤ 140737488355328 ∧ ∀ r, h r = none → K (.osl r s 0 es2.length) (upd h r (some ⟨el, s, es2⟩))) ∨
      ∃ r i m ob, ev e sx = .osl r s i m ∧ h r = some ob ∧ ob.ty = el ∧ i + m ≤ ob.es.length ∧ (m + es2.length) * b ≤ 140737488355328 ∧ m + es2.length ≤ 140737488355328 ∧
        ∀ r', del h r r' = none → K (.osl r' s 0 (m + es2.length)) (upd (del h r) r' (some ⟨el, s, (ob.es.drop i).take m ++ es2⟩))) : StepW P o a w g K := by
  obtain ⟨cal, ar, at'⟩ := c
  simp only at hc ha ht
  subst hc
  obtain rfl : ar = #[x, y] := by apply Array.ext'; simpa using ha
  obtain rfl : at' = #[t, t] := by apply Array.ext'; simpa using ht
  obtain ⟨news, SR, F⟩ := hR.src (P := P) hel (ev_sound E hy) H
  obtain ⟨v', w', g', r, h', hrun, S, H', V, hk⟩ := app_run (P := P) (ty := o.type) hel hs hb hz hs0 hzl H (ev_sound E hx) SR F hK
  exact ⟨v', w', g', r, h', .inl (by simp [execOp, ho, resolve, invoke, builtin, hrun]), S, H', V, hk⟩

theorem isStrT_out {t : TypeId} (h : isStrT P t = true) : P.underlying t = some .string := by
  unfold isStrT at h
  split at h
  · assumption
  · cases h
theorem s_appS {t u el : TypeId} {b : Nat} {z : List AVal} {x y : Operand} {sx sy : SX} {c : Call} (ho : o.op = .call c) (hc : c.callee = .builtin .append) (ha : c.args.toList = [x, y]) (ht : c.argTypes.toList = [t, u])
    (hel : elemT P t = some el) (hs : szT P el = some 1) (hb : bytesT P el = some b) (hz : zeroT P el = some z) (hzl : z.length = 1) (hu : isStrT P u = true) (hx : toSX x = some sx) (hy : toSX y = some sy) (E : ERel n e g w a) (H : HRel h g w)
    {l : List UInt8} (hl : ev e sy = .str l) {K : AVal → Heap → Prop}
    (hK : (ev e sx = .emp ∧ (strEs l).length * b ≤ 140737488355328 ∧ (strEs l).length ≤ 140737488355328 ∧ ∀ r, h r = none → K (.osl r 1 0 (strEs l).length) (upd h r (some ⟨el, 1, strEs l⟩))) ∨
      ∃ r i m ob, ev e sx = .osl r 1 i m ∧ h r = some ob ∧ ob.ty = el ∧ i + m ≤ ob.es.length ∧ (m + (strEs l).length) * b ≤ 140737488355328 ∧ m + (strEs l).length ≤ 140737488355328 ∧
        ∀ r', del h r r' = none → K (.osl r' 1 0 (m + (strEs l).length)) (upd (del h r) r' (some ⟨el, 1, (ob.es.drop i).take m ++ strEs l⟩))) : StepW P o a w g K := by
  obtain ⟨cal, ar, at'⟩ := c
  simp only at hc ha ht
  subst hc
  obtain rfl : ar = #[x, y] := by apply Array.ext'; simpa using ha
  obtain rfl : at' = #[t, u] := by apply Array.ext'; simpa using ht
  have hv2 := ev_sound E hy
  rw [hl] at hv2
  obtain ⟨news, SR, F⟩ := str_src (P := P) (isStrT_out hu) hv2
  obtain ⟨v', w', g', r, h', hrun, S, H', V, hk⟩ := app_run (P := P) (ty := o.type) hel hs hb hz (by omega) hzl H (ev_sound E hx) SR F hK
  exact ⟨v', w', g', r, h', .inl (by simp [execOp, ho, resolve, invoke, builtin, hrun]), S, H', V, hk⟩

/-- cells of a live root are written over, element for element -/
theorem root_splice (H : HRel h g w) {r : Nat} {ob : AObj} (hob : h r = some ob) {news : List Value} {es2 : List (List AVal)} (F : FlatRel g w news ob.sz es2) {k : Nat} (hk : k + es2.length ≤ ob.es.length) (hc0 : g.cap r ≠ 0)
    {cur : Array Value} (hcur : w.heap[g.eta r]? = some (.cells cur ob.ty (0, 0))) (hcs : g.bo r + g.cap r * ob.sz = cur.size)
    (hh : ∀ (i j : Nat) (e : List AVal) (x : AVal), ob.es[i]? = some e → e[j]? = some x → ∃ u, cur[g.bo r + (i * ob.sz + j)]? = some u ∧ u.oneCell' = true ∧ VRel g w u x) :
    GS g w g (w.setRow (g.eta r) (cur.toList.take (g.bo r + k * ob.sz) ++ news ++ cur.toList.drop (g.bo r + k * ob.sz + news.length)).toArray) ∧
    HRel (upd h r (some { ob with es := ob.es.take k ++ es2 ++ ob.es.drop (k + es2.length) })) g (w.setRow (g.eta r) (cur.toList.take (g.bo r + k * ob.sz) ++ news ++ cur.toList.drop (g.bo r + k * ob.sz + news.length)).toArray) := by
  have O := H.obj r ob hob
  have hfit : g.bo r + k * ob.sz + news.length ≤ cur.size := by
    rw [F.1, ← hcs]
    have h1 : (k + es2.length) * ob.sz ≤ g.cap r * ob.sz := Nat.mul_le_mul_right _ (Nat.le_trans hk O.le)
    rw [Nat.add_mul] at h1
    omega
  refine root_write H hob hcur hc0 _ ?_ (es' := ob.es.take k ++ es2 ++ ob.es.drop (k + es2.length)) (fun c hc => ?_) ?_ (fun i j c x hc hx => ?_)
  · simp only [List.size_toArray, List.length_append, List.length_take, List.length_drop, Array.length_toList]
    omega
  · rcases List.mem_append.1 hc with h1 | h1
    · rcases List.mem_append.1 h1 with h2 | h2
      · exact O.len c (List.mem_of_mem_take h2)
      · exact F.2.1 c h2
    · exact O.len c (List.mem_of_mem_drop h1)
  · have := O.le
    simp only [List.length_append, List.length_take, List.length_drop]
    omega
  · have hcl : c.length = ob.sz := by
      rcases List.mem_append.1 (List.mem_of_getElem? hc) with h1 | h1
      · rcases List.mem_append.1 h1 with h2 | h2
        · exact O.len c (List.mem_of_mem_take h2)
        · exact F.2.1 c h2
      · exact O.len c (List.mem_of_mem_drop h1)
    have hj : j < ob.sz := by rw [← hcl]; exact (List.getElem?_eq_some_iff.1 hx).1
    simp only [List.getElem?_toArray]
    rw [List.append_assoc, List.getElem?_append] at hc
    simp only [List.length_take] at hc
    split at hc
    · rw [List.getElem?_take, if_pos (by omega)] at hc
      obtain ⟨u, hu, h3, h4⟩ := hh _ _ _ _ hc hx
      refine ⟨u, ?_, h3, h4⟩
      have h5 : (i + 1) * ob.sz ≤ k * ob.sz := Nat.mul_le_mul_right _ (by omega)
      rw [Nat.add_mul, Nat.one_mul] at h5
      rw [List.append_assoc, List.getElem?_append_left (by simp only [List.length_take, Array.length_toList]; omega), List.getElem?_take, if_pos (by omega), Array.getElem?_toList]
      exact hu
    · rw [show i - min k ob.es.length = i - k by omega] at hc
      have hki : k * ob.sz ≤ i * ob.sz := Nat.mul_le_mul_right _ (by omega)
      have hsub : (i - k) * ob.sz = i * ob.sz - k * ob.sz := Nat.sub_mul _ _ _
      rw [List.getElem?_append] at hc
      split at hc
      · obtain ⟨u, hu, h4⟩ := F.2.2.2 _ _ _ _ hc hx
        refine ⟨u, ?_, F.2.2.1 u (List.mem_of_getElem? hu), h4⟩
        have hul := (List.getElem?_eq_some_iff.1 hu).1
        rw [List.append_assoc, List.getElem?_append_right (by simp only [List.length_take, Array.length_toList]; omega), List.getElem?_append_left (by simp only [List.length_take, Array.length_toList]; omega), ← hu]
        simp only [List.length_take, Array.length_toList]
        congr 1; omega
      · rename_i hge
        rw [List.getElem?_drop, show k + es2.length + (i - k - es2.length) = i by omega] at hc
        obtain ⟨u, hu, h3, h4⟩ := hh _ _ _ _ hc hx
        refine ⟨u, ?_, h3, h4⟩
        have h5 : (k + es2.length) * ob.sz ≤ i * ob.sz := Nat.mul_le_mul_right _ (by omega)
        rw [Nat.add_mul, ← F.1] at h5
        rw [List.append_assoc, List.getElem?_append_right (by simp only [List.length_take, Array.length_toList]; omega), List.getElem?_append_right (by simp only [List.length_take, Array.length_toList]; omega), List.getElem?_drop]
        simp only [List.length_take, Array.length_toList]
        rw [Array.getElem?_toList, ← hu]
        congr 1; omega

/-- append within what is known to be there -/
theorem s_appIn {t el : TypeId} {s : Nat} {x y : Operand} {sx sy : SX} {c : Call} (ho : o.op = .call c) (hc : c.callee = .builtin .append) (ha : c.args.toList = [x, y]) (ht : c.argTypes.toList = [t, t])
    (hel : elemT P t = some el) (hs : szT P el = some s) (hx : toSX x = some sx) (hy : toSX y = some sy) (E : ERel n e g w a) (H : HRel h g w)
    {es2 : List (List AVal)} (hR : Rd h s (ev e sy) es2) {r i m : Nat} {ob : AObj} (hd : ev e sx = .osl r s i m) (hob : h r = some ob) (hfit : i + m + es2.length ≤ ob.es.length)
    {K : AVal → Heap → Prop} (hK : K (.osl r s i (m + es2.length)) (upd h r (some { ob with es := ob.es.take (i + m) ++ es2 ++ ob.es.drop (i + m + es2.length) }))) : StepW P o a w g K := by
  obtain ⟨cal, ar, at'⟩ := c
  simp only at hc ha ht
  subst hc
  obtain rfl : ar = #[x, y] := by apply Array.ext'; simpa using ha
  obtain rfl : at' = #[t, t] := by apply Array.ext'; simpa using ht
  obtain ⟨news, SR, F⟩ := hR.src (P := P) hel (ev_sound E hy) H
  have hv := ev_sound E hx
  rw [hd] at hv
  obtain ⟨hrl, hsz, hc⟩ := hv.osl_inv
  have O := H.obj r ob hob
  have hobs : ob.sz = s := O.sz.symm.trans hsz
  have run : ∀ u w', (Builtin.append_ #[t, t] o.type #[a.eval x, a.eval y]).run P w = .ok u w' → (execOp a.eval o).run P w = .ok (.value u) w' := by
    intro u w' hr
    simp [execOp, ho, resolve, invoke, builtin, hr]
  have same : es2 = [] → upd h r (some { ob with es := ob.es.take (i + m) ++ es2 ++ ob.es.drop (i + m + es2.length) }) = h := by
    intro he
    subst he
    funext t'
    unfold upd
    split
    · rename_i htr; subst htr; simp [hob]
    · rfl
  rcases hc with ⟨hvv, rfl, rfl, hcap0⟩ | ⟨cap, off, hvv, hnc, hmx, hi, hoff⟩
  · have h0 : es2 = [] := List.eq_nil_of_length_eq_zero (by have := O.le; omega)
    have hr := run_append_noop (P := P) (ty := o.type) hel hs none 0 0 (Nat.le_refl _) (by rw [h0] at SR; exact SR)
    rw [← hvv] at hr
    refine ⟨_, w, g, _, _, .inl (run _ _ hr), GS.refl g w, by rw [same h0]; exact H, ?_, hK⟩
    rw [h0]; exact hv
  · have hrm : m + es2.length ≤ cap := by have := O.le; omega
    by_cases hcz : cap = 0
    · have h0 : es2 = [] := List.eq_nil_of_length_eq_zero (by omega)
      have hr := run_append_noop (P := P) (ty := o.type) hel hs (some ⟨g.eta r, off, none⟩) m cap hnc (by rw [h0] at SR; exact SR)
      rw [← hvv] at hr
      refine ⟨_, w, g, _, _, .inl (run _ _ hr), GS.refl g w, by rw [same h0]; exact H, ?_, hK⟩
      rw [h0]; exact hv
    · rcases O.block with h0 | ⟨_, _, cur, hcur, hcs, hh⟩
      · omega
      · have hof := hoff (by omega)
        subst hobs
        have hfit' : off + m * ob.sz + news.length ≤ cur.size := by
          rw [F.1, ← hcs, ← hi, hof, Nat.add_mul]
          have : (m + es2.length) * ob.sz ≤ cap * ob.sz := Nat.mul_le_mul_right _ hrm
          rw [Nat.add_mul] at this
          omega
        have hr := run_append_room' (P := P) (ty := o.type) hel hs (g.eta r) off m cap cur ob.ty hcur es2.length SR hrm hfit'
        obtain ⟨S, H'⟩ := root_splice H hob F hfit (by omega) hcur hcs hh
        have he : off + m * ob.sz = g.bo r + (i + m) * ob.sz := by rw [hof, Nat.add_mul]; omega
        rw [he, ← hvv] at hr
        exact ⟨_, _, g, _, _, .inl (run _ _ hr), S, H', .osl r ob.sz i _ cap off hrl hsz hrm hmx hi hoff, hK⟩

/-- a cut of an array beyond the slice's length, within what is known -/
theorem s_slX {t el : TypeId} {s : Nat} {x : Operand} {lo hi : Option Operand} {sx : SX} {sl sh : Option SX} (ho : o.op = .slice t x lo hi none) (hu : P.underlying t = some (.slice el)) (hs : szT P el = some s)
    (hx : toSX x = some sx) (hl : toSXO lo = some sl) (hh : toSXO hi = some sh) (E : ERel n e g w a) (H : HRel h g w) {r i m : Nat} {ob : AObj} (hd : ev e sx = .osl r s i m) (hob : h r = some ob)
    (bl : okB (evO e sl)) (bh : okB (evO e sh)) (h0 : 0 ≤ loOf (evO e sl)) (hlh : loOf (evO e sl) ≤ hiOf m (evO e sh)) (hhl : i + (hiOf m (evO e sh)).toNat ≤ ob.es.length) :
    StepV P o a w g (.osl r s (i + (loOf (evO e sl)).toNat) ((hiOf m (evO e sh)).toNat - (loOf (evO e sl)).toNat)) := by
  have h1 := ev_sound E hx
  rw [hd] at h1
  have h2 := evO_sound E hl
  have h3 := evO_sound E hh
  have O := H.obj r ob hob
  obtain ⟨hr, hsz, hc⟩ := h1.osl_inv
  have run : ∀ (A : Option Addr) (cap : Nat), a.eval x = .slice A m cap → hiOf m (evO e sh) ≤ cap →
      (execOp a.eval o).run P w = .ok (.value (.slice (if cap = (loOf (evO e sl)).toNat then A else A.map (·.add ((loOf (evO e sl)).toNat * s))) ((hiOf m (evO e sh)).toNat - (loOf (evO e sl)).toNat) (cap - (loOf (evO e sl)).toNat))) w := by
    intro A cap hv hle
    have hr := run_bounds (P := P) w true m cap h2 h3 bl bh h0 hlh hle
    simp [execOp, ho, Instr.sliceAt, Instr.slice, run_underlying hu, hv, hr, run_sizeOf' hs]
  have hle := O.le
  rcases hc with ⟨hv, rfl, rfl, hcap⟩ | ⟨cap, off, hv, hnc, hm, hi', hoff⟩
  · refine ⟨_, run _ _ hv (by omega), ?_⟩
    have e1 : (loOf (evO e sl)).toNat = 0 := by omega
    have e2 : (hiOf 0 (evO e sh)).toNat = 0 := by omega
    simp only [e1, e2, Nat.sub_zero, Nat.add_zero, if_true]
    exact .osl0 r s hr hcap hsz
  · refine ⟨_, run _ _ hv (by omega), ?_⟩
    by_cases hcl : cap = (loOf (evO e sl)).toNat
    · rw [if_pos hcl]
      exact .osl r s _ _ _ off hr hsz (by omega) (by omega) (by omega) (fun h => by omega)
    · rw [if_neg hcl]
      simp only [Option.map_some, Addr.add_lit]
      exact .osl r s _ _ _ _ hr hsz (by omega) (by omega) (by omega) (fun h => by rw [hoff (by omega), Nat.add_mul]; omega)
end
end Go.Sim
