/- Effects: boxes, stores, append, make, copy, clear. -/
import Derived.Test.YtmfechcelhchcaaDoorSimSound3
namespace Go.Sim
open Go

def setAt (e : List AVal) (j : Nat) (cs : List AVal) : List AVal := e.take j ++ cs ++ e.drop (j + cs.length)

section
variable {P : Program} {o : Oper} {a : Act} {w : World} {g : Ghost} {h : Heap} {n : Nat} {e : Env}

/-- a live root's block is written: nothing frozen turns, no other root does -/
theorem root_world (H : HRel h g w) {r : Nat} {ob : AObj} (hr : h r = some ob) (h0 : g.cap r ≠ 0) (cur' : Array Value) : GS g w g (w.setRow (g.eta r) cur') ∧ HRel (del h r) g (w.setRow (g.eta r) cur') := by
  have hnf : ¬ g.fz (g.eta r) := by
    rcases (H.obj r ob hr).block with h' | ⟨_, hf, _⟩
    · exact absurd h' h0
    · exact hf
  have S : GS g w g (w.setRow (g.eta r) cur') := GS.world (fun b hb => setRow_other w _ b _ (fun e => hnf (e ▸ hb))) rfl rfl rfl (by simp) (fun b _ ho => setRow_other w _ b _ (fun e => by
      rcases ho with ho | ⟨o, ho, hc⟩
      · exact ho ⟨r, (H.obj r ob hr).lt, h0, e.symm⟩
      · rcases (H.obj r ob hr).block with h' | ⟨_, _, cur, hcur, _⟩
        · exact h0 h'
        · rw [e, hcur] at ho; cases ho; cases hc))
  refine ⟨S, fun t o' ht => ?_, (H.del r).inj, fun b hb => by rw [size_setRow]; exact H.fz b hb, fun b hb => ?_⟩
  case refine_2 =>
    obtain ⟨cur, t, f, hc⟩ := H.ow b hb
    by_cases e : b = g.eta r
    · subst e; exact ⟨cur', t, f, setRow_heap w _ cur cur' _ _ hc⟩
    · exact ⟨cur, t, f, (setRow_other w _ _ _ e).trans hc⟩
  unfold Sim.del at ht
  split at ht
  · cases ht
  · rename_i hne
    refine (H.obj t o' ht).step S (fun hc => ?_) (fun hc => ?_)
    · exact setRow_other w _ _ _ (fun he => hne (H.inj t r o' ob ht hr hc h0 he))
    · rcases (H.obj t o' ht).block with h' | ⟨_, hf, _⟩
      · exact absurd h' hc
      · exact hf

theorem root_write (H : HRel h g w) {r : Nat} {ob : AObj} (hr : h r = some ob) {cur : Array Value} (hcur : w.heap[g.eta r]? = some (.cells cur ob.ty (0, 0))) (h0 : g.cap r ≠ 0) (cur' : Array Value) (hsz : cur'.size = cur.size)
    {es' : List (List AVal)} (hlen : ∀ e ∈ es', e.length = ob.sz) (hle : es'.length ≤ g.cap r)
    (hh : ∀ (i j : Nat) (e : List AVal) (x : AVal), es'[i]? = some e → e[j]? = some x → ∃ u, cur'[g.bo r + (i * ob.sz + j)]? = some u ∧ u.oneCell' = true ∧ VRel g w u x) :
    GS g w g (w.setRow (g.eta r) cur') ∧ HRel (upd h r (some { ob with es := es' })) g (w.setRow (g.eta r) cur') := by
  obtain ⟨S, H'⟩ := root_world H hr h0 cur'
  have O := H.obj r ob hr
  refine ⟨S, fun t o' ht => ?_, fun t t' o1 o2 ht ht' hc hc' he => ?_, H'.fz, H'.ow⟩
  · unfold upd at ht
    split at ht
    · rename_i htr
      subst htr
      cases ht
      refine ⟨O.lt, O.sz, O.pos, hlen, hle, .inr ?_⟩
      rcases O.block with h' | ⟨h1, h2, cur0, hcur0, hsz0, _⟩
      · exact absurd h' h0
      · rw [hcur] at hcur0; cases hcur0
        refine ⟨by rw [size_setRow]; exact h1, h2, cur', setRow_heap w _ cur cur' _ _ hcur, by rw [hsz]; exact hsz0, fun i j e x he hx => ?_⟩
        obtain ⟨u, hu, h3, h4⟩ := hh i j e x he hx
        exact ⟨u, hu, h3, h4.step S⟩
    · rename_i htr
      exact H'.obj t o' (by unfold Sim.del; rw [if_neg htr]; exact ht)
  · have g1 : ∀ x y, upd h r (some { ob with es := es' }) x = some y → ∃ y', h x = some y' := by
      intro x y hx
      unfold upd at hx
      split at hx
      · rename_i hxr; subst hxr; exact ⟨ob, hr⟩
      · exact ⟨y, hx⟩
    obtain ⟨y1, hy1⟩ := g1 t o1 ht
    obtain ⟨y2, hy2⟩ := g1 t' o2 ht'
    exact H.inj t t' y1 y2 hy1 hy2 hc hc' he

theorem s_box {t : TypeId} {s : Nat} {x : Operand} {sx : SX} (ho : o.op = .box t x) (_hs : szT P t = some s) (hs0 : 0 < s) (hx : toSX x = some sx) (E : ERel n e g w a) (H : HRel h g w)
    (hv : isV (ev e sx) = true) (hl : (cellsOf (ev e sx)).length = s) {K : AVal → Heap → Prop} (hK : ∀ r, h r = none → K (.vp r 0) (upd h r (some ⟨t, s, [cellsOf (ev e sx)]⟩))) : StepW P o a w g K := by
  have hc := CRel.of (ev_sound E hx) hv
  obtain ⟨S, H'⟩ := root_new H (a.eval x).cells (ty := t) (sz := s) (cap := 1) (es := [cellsOf (ev e sx)]) hs0 (by rw [hc.1, hl, Nat.one_mul]) (by simp) (by simpa using hl) (fun i j c y hc' hy => by
    cases i with
    | succ i => simp at hc'
    | zero =>
      simp at hc'; subst hc'
      have hj := (List.getElem?_eq_some_iff.1 hy).1
      have hju : j < (a.eval x).cells.size := by rw [hc.1]; exact hj
      exact ⟨_, by rw [Nat.zero_mul, Nat.zero_add]; exact Array.getElem?_eq_getElem hju, hc.2.1 j _ (Array.getElem?_eq_getElem hju), hc.2.2 j _ y (Array.getElem?_eq_getElem hju) hy⟩)
  refine ⟨.pointer (some ⟨w.heap.size, 0, none⟩), _, _, .vp g.nxt 0, _, .inl ?_, S, H', ?_, hK _ H.none_nxt⟩
  · simp [execOp, ho, Instr.box, newVar, newRow]
  · have := VRel.vp (g := g.add w.heap.size 0 1 s) (w := w.alloc (.cells (a.eval x).cells t)) g.nxt 0 (Nat.lt_succ_self _) (by simp [Ghost.add]) (by simp [Ghost.add])
    simpa [Ghost.add] using this

theorem s_boxF {t : TypeId} {s : Nat} {x : Operand} {sx : SX} (ho : o.op = .box t x) (hx : toSX x = some sx) (E : ERel n e g w a) (H : HRel h g w)
    (hv : isV (ev e sx) = true) (_hl : (cellsOf (ev e sx)).length = s) {K : AVal → Heap → Prop} (hK : K (.pin (cellsOf (ev e sx))) h) : StepW P o a w g K := by
  have hc := CRel.of (ev_sound E hx) hv
  obtain ⟨S1, H1⟩ := H.alloc (.cells (a.eval x).cells t)
  have S2 := S1.frzTo w.heap.size (.inl (Nat.le_refl _)) ⟨_, _, _, heap_push_new w _⟩
  have H2 : HRel h (g.frz w.heap.size) (w.alloc (.cells (a.eval x).cells t)) := H1.frz (by simp) fun r ob hr h0 he => by
    rcases (H.obj r ob hr).block with h' | ⟨hl, _⟩
    · exact h0 h'
    · omega
  refine ⟨.pointer (some ⟨w.heap.size, 0, none⟩), _, _, .pin _, h, .inl ?_, S2, H2, ?_, hK⟩
  · simp [execOp, ho, Instr.box, newVar, newRow]
  · refine VRel.pin_mk rfl (.inr rfl) fun k b hb => ?_
    have hj := (List.getElem?_eq_some_iff.1 hb).1
    have hju : k < (a.eval x).cells.size := by rw [hc.1]; exact hj
    exact ⟨_, by rw [cell_alloc_flat]; exact Array.getElem?_eq_getElem hju, hc.2.1 k _ (Array.getElem?_eq_getElem hju), (hc.2.2 k _ b (Array.getElem?_eq_getElem hju) hb).step S2.toGStep⟩

theorem s_new {t : TypeId} {s : Nat} {z : List AVal} (ho : o.op = .alloc t) (_hs : szT P t = some s) (hz : zeroT P t = some z) (hs0 : 0 < s) (hzl : z.length = s) (H : HRel h g w)
    {K : AVal → Heap → Prop} (hK : ∀ r, h r = none → K (.vp r 0) (upd h r (some ⟨t, s, [z]⟩))) : StepW P o a w g K := by
  obtain ⟨i, zv, hi, hzv, hc⟩ := zeroT_out (g := g) (w := w) hz
  obtain ⟨S, H'⟩ := root_new H zv.cells (ty := t) (sz := s) (cap := 1) (es := [z]) hs0 (by rw [hc.1, hzl, Nat.one_mul]) (by simp) (by simpa using hzl) (fun i j c y hc' hy => by
    cases i with
    | succ i => simp at hc'
    | zero =>
      simp at hc'; subst hc'
      have hj := (List.getElem?_eq_some_iff.1 hy).1
      have hju : j < zv.cells.size := by rw [hc.1]; exact hj
      exact ⟨_, by rw [Nat.zero_mul, Nat.zero_add]; exact Array.getElem?_eq_getElem hju, hc.2.1 j _ (Array.getElem?_eq_getElem hju), hc.2.2 j _ y (Array.getElem?_eq_getElem hju) hy⟩)
  refine ⟨.pointer (some ⟨w.heap.size, 0, none⟩), _, _, .vp g.nxt 0, _, .inl ?_, S, H', ?_, hK _ H.none_nxt⟩
  · simp [execOp, ho, Instr.alloc, zeroValue, typeInfo, hi, hzv, newVar, newRow]
  · have := VRel.vp (g := g.add w.heap.size 0 1 s) (w := w.alloc (.cells zv.cells t)) g.nxt 0 (Nat.lt_succ_self _) (by simp [Ghost.add]) (by simp [Ghost.add])
    simpa [Ghost.add] using this

/-- a phantom: an empty slice of the call's own, with no memory yet -/
theorem phantom (H : HRel h g w) (A : Option Addr) (hA : ∀ ad, A = some ad → ad.spot = none) (ty : TypeId) {sz : Nat} (hs0 : 0 < sz) :
    ∃ g', GS g w g' w ∧ HRel (upd h g.nxt (some ⟨ty, sz, []⟩)) g' w ∧ VRel g' w (.slice A 0 0) (.osl g.nxt sz 0 0) := by
  refine ⟨g.add ((A.map (·.block)).getD 0) 0 0 sz, (GS.refl g w).addTo _ _ _ _ (.inr (.inr rfl)), H.add hs0 (by simp) (by simp) (.inl rfl), ?_⟩
  cases A with
  | none => exact .osl0 _ _ (Nat.lt_succ_self _) (by simp [Ghost.add]) (by simp [Ghost.add])
  | some ad =>
    obtain ⟨b, off, sp⟩ := ad
    obtain rfl : sp = none := hA _ rfl
    have := VRel.osl (g := g.add b 0 0 sz) (w := w) g.nxt sz 0 0 0 off (Nat.lt_succ_self _) (by simp [Ghost.add]) (Nat.le_refl _) (by simp [maxLen]) (by simp [Ghost.add]) (fun h => absurd h (by omega))
    simpa [Ghost.add] using this

theorem isNilC_eval {x : Operand} (hx : isNilC x = true) : a.eval x = .slice none 0 0 ∨ a.eval x = .nilFunc ∨ a.eval x = .pointer none ∨ a.eval x = .nilIface ∨ a.eval x = .map none := by
  unfold isNilC at hx
  split at hx <;> simp_all [Act.eval]

theorem s_newnil {x : Operand} {el : TypeId} {s : Nat} (ho : o.op = .move x ∨ o.op = .assign x) (hx : x = .const (.slice none 0 0)) (hs0 : 0 < s) (H : HRel h g w)
    {K : AVal → Heap → Prop} (hK : ∀ r, h r = none → K (.osl r s 0 0) (upd h r (some ⟨el, s, []⟩))) : StepW P o a w g K := by
  subst hx
  obtain ⟨g', S, H', V⟩ := phantom H none (by simp) el hs0
  exact ⟨_, w, g', _, _, .inl (by rcases ho with ho | ho <;> simp [execOp, ho, Act.eval]; all_goals rfl), S, H', V, hK _ H.none_nxt⟩

theorem s_st {t : TypeId} {s : Nat} {x y : Operand} {sx sy : SX} (ho : o.op = .store t x y) (hs : szT P t = some s) (hx : toSX x = some sx) (hy : toSX y = some sy) (E : ERel n e g w a) (H : HRel h g w)
    {r i j : Nat} {ob : AObj} (hp : deVp (ev e sx) = .ptr r i j) (hob : h r = some ob) (hi : i < ob.es.length) (hj : j + s ≤ (ob.es.getD i []).length) (hv : isV (ev e sy) = true) (hl : (cellsOf (ev e sy)).length = s)
    {K : AVal → Heap → Prop} (hK : K .dead (upd h r (some { ob with es := ob.es.set i (setAt (ob.es.getD i []) j (cellsOf (ev e sy))) }))) : StepW P o a w g K := by
  have h1 := (ev_sound E hx).deVp
  rw [hp] at h1
  obtain ⟨hr, hv1⟩ := h1.ptr_inv
  have hc := CRel.of (ev_sound E hy) hv
  have O := H.obj r ob hob
  have hel := getD_getElem? ob.es i [] hi
  have hele := O.len _ (List.mem_of_getElem? hel)
  generalize ob.es.getD i [] = E0 at hj hel hele hK
  rcases O.block with h' | ⟨hlt, hf, cur, hcur, hsz, hh⟩
  · have := O.le; omega
  · have hc0 : g.cap r ≠ 0 := by have := O.le; omega
    have hbound : g.bo r + i * ob.sz + j + s ≤ cur.size := by
      have h2 : (i + 1) * ob.sz ≤ g.cap r * ob.sz := Nat.mul_le_mul_right _ (Nat.lt_of_lt_of_le hi O.le)
      rw [Nat.add_mul, Nat.one_mul] at h2
      omega
    have hvl : (a.eval y).cells.toList.length = s := by simpa using hc.1.trans hl
    have hcs : (a.eval y).cells.size = s := hc.1.trans hl
    have hrun := run_storeCells_at P (g.eta r) (g.bo r + i * ob.sz + j) ob.ty (a.eval y).cells.toList 0 cur w hcur (by omega) (fun u hu => by
      obtain ⟨k, hk⟩ := List.mem_iff_getElem?.1 hu
      rw [Array.getElem?_toList] at hk
      exact hc.2.1 k u hk)
    simp only [Nat.add_zero] at hrun
    have helt : (setAt E0 j (cellsOf (ev e sy))).length = ob.sz := by
      simp only [setAt, List.length_append, List.length_take, List.length_drop]
      omega
    obtain ⟨S, H'⟩ := root_write H hob hcur hc0 (cur.toList.take (g.bo r + i * ob.sz + j) ++ (a.eval y).cells.toList ++ cur.toList.drop (g.bo r + i * ob.sz + j + (a.eval y).cells.toList.length)).toArray
      (by simp only [List.size_toArray, List.length_append, List.length_take, List.length_drop, Array.length_toList]; rw [Array.length_toList] at hvl; omega)
      (es' := ob.es.set i (setAt E0 j (cellsOf (ev e sy)))) (fun c hc' => by
        rcases List.mem_or_eq_of_mem_set hc' with h3 | h3
        · exact O.len c h3
        · rw [h3]; exact helt) (by simpa using O.le) (fun k l c x' hk hl' => by
        simp only [List.getElem?_toArray]
        have hl2 : l < ob.sz := by
          rw [List.getElem?_set] at hk
          split at hk
          · cases hk; rw [← helt]; exact (List.getElem?_eq_some_iff.1 hl').1
          · rw [← O.len c (List.mem_of_getElem? hk)]; exact (List.getElem?_eq_some_iff.1 hl').1
        rw [List.getElem?_set] at hk
        split at hk
        · rename_i hik
          subst hik
          cases hk
          simp only [setAt] at hl'
          by_cases hA : l < j
          · rw [List.append_assoc, List.getElem?_append_left (by simp; omega), List.getElem?_take, if_pos hA] at hl'
            obtain ⟨u, hu, h3, h4⟩ := hh _ _ _ _ hel hl'
            refine ⟨u, ?_, h3, h4⟩
            rw [List.append_assoc, List.getElem?_append_left (by simp; omega), List.getElem?_take, if_pos (by omega), Array.getElem?_toList]
            exact hu
          · by_cases hB : l < j + s
            · rw [List.append_assoc, List.getElem?_append_right (by simp; omega), List.getElem?_append_left (by simp; omega)] at hl'
              simp only [List.length_take] at hl'
              rw [show l - min j E0.length = l - j by omega] at hl'
              have hju : l - j < (a.eval y).cells.size := by rw [hc.1]; omega
              refine ⟨(a.eval y).cells[l - j], ?_, hc.2.1 _ _ (Array.getElem?_eq_getElem hju), hc.2.2 _ _ _ (Array.getElem?_eq_getElem hju) hl'⟩
              rw [List.append_assoc, List.getElem?_append_right (by simp; omega), List.getElem?_append_left (by simp; omega)]
              simp only [List.length_take, Array.length_toList]
              rw [show g.bo r + (i * ob.sz + l) - min (g.bo r + i * ob.sz + j) cur.size = l - j by omega, Array.getElem?_toList]
              exact Array.getElem?_eq_getElem hju
            · rw [List.append_assoc, List.getElem?_append_right (by simp; omega), List.getElem?_append_right (by simp; omega), List.getElem?_drop] at hl'
              simp only [List.length_take] at hl'
              rw [show j + (cellsOf (ev e sy)).length + (l - min j E0.length - (cellsOf (ev e sy)).length) = l by omega] at hl'
              obtain ⟨u, hu, h3, h4⟩ := hh _ _ _ _ hel hl'
              refine ⟨u, ?_, h3, h4⟩
              rw [List.append_assoc, List.getElem?_append_right (by simp; omega), List.getElem?_append_right (by simp only [List.length_take, Array.length_toList]; omega), List.getElem?_drop]
              simp only [List.length_take, Array.length_toList]
              rw [Array.getElem?_toList, ← hu]
              congr 1
              rw [Array.length_toList] at hvl
              omega
        · rename_i hik
          obtain ⟨u, hu, h3, h4⟩ := hh _ _ _ _ hk hl'
          refine ⟨u, ?_, h3, h4⟩
          have hcase : k * ob.sz + l < i * ob.sz ∨ (i + 1) * ob.sz ≤ k * ob.sz + l := by
            rcases Nat.lt_or_gt_of_ne hik with h5 | h5
            · right
              have : (i + 1) * ob.sz ≤ k * ob.sz := Nat.mul_le_mul_right _ h5
              omega
            · left
              have : (k + 1) * ob.sz ≤ i * ob.sz := Nat.mul_le_mul_right _ h5
              rw [Nat.add_mul, Nat.one_mul] at this
              omega
          rw [Nat.add_mul, Nat.one_mul] at hcase
          rcases hcase with h5 | h5
          · rw [List.append_assoc, List.getElem?_append_left (by simp; have := (Array.getElem?_eq_some_iff.1 hu).1; omega), List.getElem?_take, if_pos (by omega), Array.getElem?_toList]
            exact hu
          · rw [List.append_assoc, List.getElem?_append_right (by simp; omega), List.getElem?_append_right (by simp; rw [Array.length_toList] at hvl; omega), List.getElem?_drop]
            simp only [List.length_take, Array.length_toList]
            rw [Array.getElem?_toList, ← hu]
            congr 1
            rw [Array.length_toList] at hvl
            omega)
    have hadr : (⟨g.eta r, g.bo r + i * g.sz r + j, none⟩ : Addr) = ⟨g.eta r, g.bo r + i * ob.sz + j, none⟩ := by rw [O.sz]
    refine ⟨undef, _, g, .dead, _, .inr ⟨?_, rfl⟩, S, H', .dead _, hK⟩
    simp only [execOp, ho, Instr.storeAt, hv1, Instr.sureAddr, hadr, storeVar, Sem.run_bind, Sem.run_pure, Result.andThen_ok, run_sizeOf' hs, hcs, ne_eq, not_true_eq_false, if_false, hrun]
end
end Go.Sim
