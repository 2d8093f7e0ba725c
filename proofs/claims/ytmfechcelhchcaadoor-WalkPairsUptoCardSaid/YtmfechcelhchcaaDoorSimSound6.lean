/- Effects: make, clear, copy, comparisons with nil. -/
import Derived.Test.YtmfechcelhchcaaDoorSimSound5
import Derived.Laws.Cover3
import Derived.Laws.Pointers
namespace Go.Sim
open Go

section
variable {P : Program} {o : Oper} {a : Act} {w : World} {g : Ghost} {h : Heap} {n : Nat} {e : Env}

theorem zeros_get (z : Array Value) (m k : Nat) (hk : k < m) (hz : 0 < z.size) : ((Array.range m).map (z[· % z.size]!))[k]? = z[k % z.size]? := by
  simp only [Array.getElem?_map]
  rw [Array.getElem?_eq_getElem (by simpa using hk)]
  have := Nat.mod_lt k hz
  simp [this]

theorem flat_zeros {z : Array Value} {zs : List AVal} (C : CRel g w z zs) {s : Nat} (hs : zs.length = s) (hs0 : 0 < s) (m : Nat) (cells : Array Value) (hc : cells = (Array.range (m * s)).map (z[· % z.size]!)) :
    FlatRel g w cells.toList s (List.replicate m zs) := by
  subst hc
  have hzs : z.size = s := C.1.trans hs
  have get : ∀ k, k < m * s → ((Array.range (m * s)).map (z[· % z.size]!)).toList[k]? = z[k % s]? := by
    intro k hk
    rw [Array.getElem?_toList, zeros_get z (m * s) k hk (by omega), hzs]
  refine ⟨by simp, fun e he => by rw [(List.mem_replicate.1 he).2]; exact hs, fun u hu => ?_, fun i j c x hc hx => ?_⟩
  · obtain ⟨k, hk⟩ := List.mem_iff_getElem?.1 hu
    have hkl : k < m * s := by have := (List.getElem?_eq_some_iff.1 hk).1; simpa using this
    rw [get k hkl] at hk
    exact C.2.1 _ _ hk
  · rw [List.getElem?_replicate] at hc
    split at hc
    · rename_i hi
      cases hc
      have hj : j < s := by rw [← hs]; exact (List.getElem?_eq_some_iff.1 hx).1
      have hlt : i * s + j < m * s := by
        have : (i + 1) * s ≤ m * s := Nat.mul_le_mul_right _ hi
        rw [Nat.add_mul, Nat.one_mul] at this
        omega
      have hmod : (i * s + j) % s = j := by rw [Nat.mul_comm, Nat.mul_add_mod, Nat.mod_eq_of_lt hj]
      refine ⟨z[j]'(by omega), by rw [get _ hlt, hmod]; exact Array.getElem?_eq_getElem (by omega), C.2.2 j _ x (Array.getElem?_eq_getElem (by omega)) hx⟩
    · cases hc

theorem s_mks {t el : TypeId} {s b : Nat} {z : List AVal} {x y : Operand} {sx sy : SX} (ho : o.op = .makeSlice t x y) (hel : elemT P t = some el) (hs : szT P el = some s) (hb : bytesT P el = some b) (hz : zeroT P el = some z) (hs0 : 0 < s) (hzl : z.length = s)
    (hx : toSX x = some sx) (hy : toSX y = some sy) (E : ERel n e g w a) (H : HRel h g w) {k1 k2 : IntKind} {l c : Int} (hl : ev e sx = .int k1 l) (hc : ev e sy = .int k2 c) (h0 : 0 ≤ l) (hlc : l ≤ c) (hcb : c * b ≤ 140737488355328) (hcm : c ≤ 140737488355328)
    {K : AVal → Heap → Prop} (hK : ∀ r, h r = none → K (.osl r s 0 l.toNat) (upd h r (some ⟨el, s, List.replicate c.toNat z⟩))) : StepW P o a w g K := by
  obtain ⟨inf, hinf, rfl⟩ := szT_out hs
  have hbi := bytesT_out hb hinf
  obtain ⟨inf', zv, hinf', hzv, hzc⟩ := zeroT_out (g := g) (w := w) hz
  rw [hinf] at hinf'; cases hinf'
  have v1 := ev_sound E hx
  have v2 := ev_sound E hy
  rw [hl] at v1
  rw [hc] at v2
  have hr := run_make (P := P) w t el inf zv (elemT_out hel) hinf hzv k1 k2 l c h0 hlc (by rw [hbi, Int.mul_comm]; omega) (by omega)
  have F := flat_zeros hzc hzl hs0 c.toNat _ rfl
  obtain ⟨S, H'⟩ := root_new H (madeCells zv.cells (c.toNat * inf.size)) (ty := el) (cap := c.toNat) hs0 (size_madeCells _ _) (es := List.replicate c.toNat z) (by simp) F.2.1 (fun i j q y' hq hy' => by
    obtain ⟨u, hu, hv⟩ := F.2.2.2 i j q y' hq hy'
    rw [Array.getElem?_toList] at hu
    exact ⟨u, hu, F.2.2.1 u (Array.mem_toList_iff.2 (Array.mem_of_getElem? hu)), hv⟩)
  refine ⟨.slice (some ⟨w.heap.size, 0, none⟩) l.toNat c.toNat, _, _, .osl g.nxt inf.size 0 l.toNat, _, .inl ?_, S, H', ?_, hK _ H.none_nxt⟩
  · simp only [execOp, ho, v1.int_inv, v2.int_inv, Sem.run_bind, hr, Result.andThen_ok, Sem.run_pure]
  · have := VRel.osl (g := g.add w.heap.size 0 c.toNat inf.size) (w := w.alloc (.cells (madeCells zv.cells (c.toNat * inf.size)) el)) g.nxt inf.size 0 l.toNat c.toNat 0 (Nat.lt_succ_self _) (by simp [Ghost.add]) (by omega) (by simp only [maxLen]; omega) (by simp [Ghost.add]) (fun _ => by simp [Ghost.add])
    simpa [Ghost.add] using this

theorem s_clear {t el : TypeId} {s : Nat} {z : List AVal} {x : Operand} {sx : SX} {c : Call} (ho : o.op = .call c) (hc : c.callee = .builtin .clear) (ha : c.args.toList = [x]) (ht : c.argTypes.toList = [t])
    (hel : elemT P t = some el) (hs : szT P el = some s) (hz : zeroT P el = some z) (hs0 : 0 < s) (hzl : z.length = s) (hx : toSX x = some sx) (E : ERel n e g w a) (H : HRel h g w)
    {r i m : Nat} {ob : AObj} (hd : ev e sx = .osl r s i m) (hob : h r = some ob) (hfit : i + m ≤ ob.es.length)
    {K : AVal → Heap → Prop} (hK : K .dead (upd h r (some { ob with es := ob.es.take i ++ List.replicate m z ++ ob.es.drop (i + m) }))) : StepW P o a w g K := by
  obtain ⟨cal, ar, at'⟩ := c
  simp only at hc ha ht
  subst hc
  obtain rfl : ar = #[x] := by apply Array.ext'; simpa using ha
  obtain rfl : at' = #[t] := by apply Array.ext'; simpa using ht
  obtain ⟨inf, zv, hinf, hzv, hzc⟩ := zeroT_out (g := g) (w := w) hz
  have hu := elemT_out hel
  have hv := ev_sound E hx
  rw [hd] at hv
  obtain ⟨hrl, hsz, hcc⟩ := hv.osl_inv
  have O := H.obj r ob hob
  have hobs : ob.sz = s := O.sz.symm.trans hsz
  have run : ∀ u w', (Builtin.clear_ #[t] o.type #[a.eval x]).run P w = .ok u w' → (execOp a.eval o).run P w = .ok (.value u) w' := by
    intro u w' hr
    simp [execOp, ho, resolve, invoke, builtin, hr]
  by_cases hm : m = 0
  · subst hm
    have same : upd h r (some { ob with es := ob.es.take i ++ List.replicate 0 z ++ ob.es.drop (i + 0) }) = h := by
      funext t'
      unfold upd
      split
      · rename_i htr; subst htr; simp [hob]
      · rfl
    rw [same] at hK
    refine ⟨.tuple #[], w, g, .dead, h, .inl (run _ _ ?_), GS.refl g w, H, .dead _, hK⟩
    rcases hcc with ⟨hvv, _⟩ | ⟨cap, off, hvv, _⟩ <;> simp [Builtin.clear_, run_underlying hu, hvv]
  · rcases hcc with ⟨_, _, h0, _⟩ | ⟨cap, off, hvv, hnc, hmx, hi, hoff⟩
    · exact absurd h0 hm
    · have hof := hoff (by omega)
      rcases O.block with h0 | ⟨_, _, cur, hcur, hcs, hh⟩
      · omega
      · subst hobs
        have hzs : zv.cells.size = ob.sz := hzc.1.trans hzl
        have F := flat_zeros hzc hzl hs0 m (Builtin.zeroCells zv.cells m) (by simp only [Builtin.zeroCells, hzs])
        have hl : (List.replicate m z).length = m := by simp
        obtain ⟨S, H'⟩ := root_splice H hob F (k := i) (by rw [hl]; exact hfit) (by omega) hcur hcs hh
        rw [hl] at H'
        have hst := run_storeCells_at P (g.eta r) off ob.ty (Builtin.zeroCells zv.cells m).toList 0 cur w hcur (by
          have : (i + m) * ob.sz ≤ g.cap r * ob.sz := Nat.mul_le_mul_right _ (by omega)
          rw [Nat.add_mul] at this
          rw [F.1, hl, hof]
          omega) F.2.2.1
        simp only [Nat.add_zero, hof] at hst
        obtain ⟨m', rfl⟩ : ∃ m', m = m' + 1 := ⟨m - 1, by omega⟩
        refine ⟨.tuple #[], _, g, .dead, _, .inl (run _ _ ?_), S, H', .dead _, hK⟩
        simp [Builtin.clear_, run_underlying hu, hvv, hof, zeroValue, typeInfo, hinf, hzv, hst]

theorem s_copy {t u el : TypeId} {s : Nat} {x y : Operand} {sx sy : SX} {c : Call} (ho : o.op = .call c) (hc : c.callee = .builtin .copy) (ha : c.args.toList = [x, y]) (ht : c.argTypes.toList = [t, u])
    (hel : elemT P t = some el) (hs : szT P el = some s) (hx : toSX x = some sx) (hy : toSX y = some sy) (E : ERel n e g w a) (H : HRel h g w)
    {es2 : List (List AVal)} (hR : Rd h s (ev e sy) es2) {r i m : Nat} {ob : AObj} (hd : ev e sx = .osl r s i m) (hob : h r = some ob) (hfit : i + m ≤ ob.es.length)
    {K : AVal → Heap → Prop} (hK : K (aInt (min es2.length m : Nat)) (upd h r (some { ob with es := ob.es.take i ++ es2.take (min es2.length m) ++ ob.es.drop (i + min es2.length m) }))) : StepW P o a w g K := by
  obtain ⟨cal, ar, at'⟩ := c
  simp only at hc ha ht
  subst hc
  obtain rfl : ar = #[x, y] := by apply Array.ext'; simpa using ha
  obtain rfl : at' = #[t, u] := by apply Array.ext'; simpa using ht
  have hu := elemT_out hel
  have hv := ev_sound E hx
  have hv2 := ev_sound E hy
  rw [hd] at hv
  obtain ⟨hrl, hsz, hcc⟩ := hv.osl_inv
  have O := H.obj r ob hob
  have hobs : ob.sz = s := O.sz.symm.trans hsz
  have run : ∀ q w', (Builtin.copy_ #[t, u] o.type #[a.eval x, a.eval y]).run P w = .ok q w' → (execOp a.eval o).run P w = .ok (.value q) w' := by
    intro q w' hr
    simp [execOp, ho, resolve, invoke, builtin, hr]
  have hsrc : (Builtin.lenOf (a.eval y)).run P w = .ok es2.length w ∧ ∃ news : List Value, FlatRel g w news s (es2.take (min es2.length m)) ∧ (Builtin.firstCells s (min es2.length m) (a.eval y)).run P w = .ok news.toArray w := by
    rcases hR.cells hv2 H with ⟨rfl, A, c, hvv⟩ | ⟨ad, c, news, hvv, _, F, hn, _⟩
    · refine ⟨by simp [hvv, Builtin.lenOf], [], by simpa using FlatRel.nil s, ?_⟩
      cases A <;> simp [hvv, Builtin.firstCells, loadCells, loadCellsFrom]
    · refine ⟨by simp [hvv, Builtin.lenOf], news.take (min es2.length m * s), ⟨?_, fun e he => F.2.1 e (List.mem_of_mem_take he), fun q hq => F.2.2.1 q (List.mem_of_mem_take hq), fun k j q x' hq hx' => ?_⟩, ?_⟩
      · rw [List.length_take, F.1, List.length_take]
        have : min es2.length m * s ≤ es2.length * s := Nat.mul_le_mul_right _ (Nat.min_le_left _ _)
        rw [Nat.min_eq_left this, Nat.min_eq_left (Nat.min_le_left _ _)]
      · rw [List.getElem?_take] at hq
        split at hq
        · rename_i hk
          obtain ⟨q', hq', hv'⟩ := F.2.2.2 k j q x' hq hx'
          refine ⟨q', ?_, hv'⟩
          have hj : j < s := by rw [← F.2.1 q (List.mem_of_getElem? hq)]; exact (List.getElem?_eq_some_iff.1 hx').1
          have h5 : (k + 1) * s ≤ min es2.length m * s := Nat.mul_le_mul_right _ hk
          rw [Nat.add_mul, Nat.one_mul] at h5
          rw [List.getElem?_take, if_pos (by omega)]
          exact hq'
        · cases hq
      · rw [hvv]
        refine run_firstCells_some (P := P) w s _ ad es2.length c (news.take (min es2.length m * s)) ?_ (fun j q hq => hn j q ?_)
        · rw [List.length_take, F.1]
          exact Nat.min_eq_left (Nat.mul_le_mul_right _ (Nat.min_le_left _ _))
        · rw [List.getElem?_take] at hq
          split at hq
          · exact hq
          · cases hq
  obtain ⟨hlen, news, F, hfc⟩ := hsrc
  have hmin : es2.length.min m = min es2.length m := rfl
  have hl : (es2.take (min es2.length m)).length = min es2.length m := by rw [List.length_take]; omega
  rcases hcc with ⟨hvv, rfl, rfl, hcap0⟩ | ⟨cap, off, hvv, hnc, hmx, hi, hoff⟩
  · have same : upd h r (some { ob with es := ob.es.take 0 ++ es2.take (min es2.length 0) ++ ob.es.drop (0 + min es2.length 0) }) = h := by
      funext t'
      unfold upd
      split
      · rename_i htr; subst htr; simp [hob]
      · rfl
    rw [same] at hK
    refine ⟨goInt (min es2.length 0 : Nat), w, g, _, h, .inl (run _ _ ?_), GS.refl g w, H, ?_, hK⟩
    · have hm0 : es2.length.min 0 = 0 := Nat.min_zero _
      rw [Nat.min_zero] at hfc
      simp [Builtin.copy_, run_underlying hu, hvv, hlen, hm0, run_sizeOf' hs, hfc]
    · exact .int _ _
  · by_cases hk0 : min es2.length m = 0
    · have same : upd h r (some { ob with es := ob.es.take i ++ es2.take (min es2.length m) ++ ob.es.drop (i + min es2.length m) }) = h := by
        rw [hk0]
        funext t'
        unfold upd
        split
        · rename_i htr; subst htr; simp [hob]
        · rfl
      rw [same] at hK
      have hnn : news = [] := List.eq_nil_of_length_eq_zero (by rw [F.1, hl, hk0]; simp)
      subst hnn
      refine ⟨goInt (min es2.length m : Nat), w, g, _, h, .inl (run _ _ ?_), GS.refl g w, H, .int _ _, hK⟩
      simp [Builtin.copy_, run_underlying hu, hvv, hlen, hmin, run_sizeOf' hs, hfc, storeCells]
    · have hof := hoff (by omega)
      rcases O.block with h0 | ⟨_, _, cur, hcur, hcs, hh⟩
      · omega
      · subst hobs
        obtain ⟨S, H'⟩ := root_splice H hob F (k := i) (by rw [hl]; omega) (by omega) hcur hcs hh
        rw [hl] at H'
        have hst := run_storeCells_at P (g.eta r) off ob.ty news 0 cur w hcur (by
          have h5 : (i + min es2.length m) * ob.sz ≤ g.cap r * ob.sz := Nat.mul_le_mul_right _ (by omega)
          rw [Nat.add_mul] at h5
          rw [F.1, hl, hof]
          omega) F.2.2.1
        simp only [Nat.add_zero, hof] at hst
        refine ⟨goInt (min es2.length m : Nat), _, g, _, _, .inl (run _ _ ?_), S, H', .int _ _, hK⟩
        simp [Builtin.copy_, run_underlying hu, hvv, hof, hlen, hmin, run_sizeOf' hs, hfc, hst]

/-! ### comparisons with nil -/
def nilE (kind : Nat) (neg : Bool) (x : AVal) (K : AVal → Prop) : Prop :=
  match kind, x with
  | 0, .slc es => ∀ b : Bool, (b = true → es = []) → K (.bool (xor neg b))
  | 0, .emp => ∀ b : Bool, K (.bool (xor neg b))
  | 0, .osl _ _ _ n => ∀ b : Bool, (b = true → n = 0) → K (.bool (xor neg b))
  | 1, .ptr _ _ _ => K (.bool neg)
  | 1, .vp _ _ => K (.bool neg)
  | 1, .pin _ => K (.bool neg)
  | 1, .prim (.pointer none) => K (.bool (!neg))
  | 2, .fn _ _ _ => K (.bool neg)
  | 2, .prim .nilFunc => K (.bool (!neg))
  | _, _ => False

theorem run_equalIn_func_nil (d : Nat) {t : TypeId} {ps rs : Array TypeId} {vr : Bool} (f : Fn) (x y : Array Value) (hu : P.underlying t = some (.func ps rs vr)) : (Op.equalIn (d + 1) t (.func f x y) .nilFunc).run P w = .ok false w := by
  simp [Op.equalIn, run_underlying hu]
theorem run_equalIn_nil_func (d : Nat) {t : TypeId} {ps rs : Array TypeId} {vr : Bool} (hu : P.underlying t = some (.func ps rs vr)) : (Op.equalIn (d + 1) t .nilFunc .nilFunc).run P w = .ok true w := by
  simp [Op.equalIn, run_underlying hu]

theorem s_isnil {op : BinOp} {t t' : TypeId} {k : Nat} {neg : Bool} {x y : Operand} {sx : SX} (ho : o.op = .binOp op t x y t') (hn : nilK P t y = some k) (hop : op = .eql ∧ neg = false ∨ op = .neq ∧ neg = true)
    (hx : toSX x = some sx) (E : ERel n e g w a) {K : AVal → Prop} (hK : nilE k neg (ev e sx) K) : ∃ v x', (execOp a.eval o).run P w = .ok (.value v) w ∧ VRel g w v x' ∧ K x' := by
  have h1 := ev_sound E hx
  have key : ∃ b : Bool, K (.bool (xor neg b)) ∧ (Op.equal t (a.eval x) (a.eval y)).run P w = .ok b w ∧ (∀ z, binOp .eql t (a.eval x) (a.eval y) = z → z = (do let r ← Op.equal t (a.eval x) (a.eval y); pure (Value.bool r))) ∧
      (∀ z, binOp .neq t (a.eval x) (a.eval y) = z → z = (do let r ← Op.equal t (a.eval x) (a.eval y); pure (Value.bool !r))) ∧ (eqGuard op t x y (a.eval x) (a.eval y)).run P w = .ok () w := by
    unfold nilK at hn
    split at hn
    · rename_i el hu
      cases hn
      have hy : a.eval (.const (.slice none 0 0)) = .slice none 0 0 := rfl
      rw [hy]
      have sl : ∀ (A : Option Addr) (l c : Nat), a.eval x = .slice A l c → K (.bool (xor neg A.isNone)) → _ := fun A l c hv hk =>
        (⟨A.isNone, hk, by rw [hv]; exact run_equal_slice_nil (P := P) w t el A l c hu, fun z hz => by rw [← hz, hv]; rfl, fun z hz => by rw [← hz, hv]; rfl, by rw [hv]; simp [eqGuard]⟩ : ∃ b : Bool, K (.bool (xor neg b)) ∧ (Op.equal t (a.eval x) (.slice none 0 0)).run P w = .ok b w ∧ (∀ z, binOp .eql t (a.eval x) (.slice none 0 0) = z → z = (do let r ← Op.equal t (a.eval x) (.slice none 0 0); pure (Value.bool r))) ∧
          (∀ z, binOp .neq t (a.eval x) (.slice none 0 0) = z → z = (do let r ← Op.equal t (a.eval x) (.slice none 0 0); pure (Value.bool !r))) ∧ (eqGuard op t x (.const (.slice none 0 0)) (a.eval x) (.slice none 0 0)).run P w = .ok () w)
      revert h1 hK
      cases ev e sx <;> intro h1 hK <;> try exact hK.elim
      · rename_i es
        obtain ⟨A, c, hv, hin⟩ := h1.slc_inv
        refine sl A _ c hv (hK _ fun hnn => ?_)
        rcases Nat.eq_zero_or_pos es.length with h0 | hp
        · exact List.eq_nil_of_length_eq_zero h0
        · obtain ⟨_, ad, _, rfl, _⟩ := hin hp
          cases hnn
      · obtain ⟨A, hv, _⟩ := h1.emp_inv
        exact sl A _ _ hv (hK _)
      · obtain ⟨_, _, hc⟩ := h1.osl_inv
        rcases hc with ⟨hv, _, rfl, _⟩ | ⟨cap, off, hv, _⟩
        · exact sl _ _ _ hv (hK _ fun _ => rfl)
        · exact sl _ _ _ hv (hK _ fun hnn => by cases hnn)
    · rename_i el hu
      cases hn
      have hy : a.eval (.const (.pointer none)) = .pointer none := rfl
      rw [hy]
      have hpt : P.underlying t = some (.pointer (P.pointee t)) := by simp [Program.pointee, hu]
      have sl : ∀ (A : Option Addr), a.eval x = .pointer A → K (.bool (xor neg A.isNone)) → _ := fun A hv hk =>
        (⟨A.isNone, hk, by rw [hv]; exact run_equal_pointer_nil (P := P) w t A hpt, fun z hz => by rw [← hz, hv]; cases A <;> rfl, fun z hz => by rw [← hz, hv]; cases A <;> rfl, by rw [hv]; simp [eqGuard]⟩ : ∃ b : Bool, K (.bool (xor neg b)) ∧ (Op.equal t (a.eval x) (.pointer none)).run P w = .ok b w ∧ (∀ z, binOp .eql t (a.eval x) (.pointer none) = z → z = (do let r ← Op.equal t (a.eval x) (.pointer none); pure (Value.bool r))) ∧
          (∀ z, binOp .neq t (a.eval x) (.pointer none) = z → z = (do let r ← Op.equal t (a.eval x) (.pointer none); pure (Value.bool !r))) ∧ (eqGuard op t x (.const (.pointer none)) (a.eval x) (.pointer none)).run P w = .ok () w)
      revert h1 hK
      cases ev e sx <;> intro h1 hK <;> try exact hK.elim
      · rename_i v
        cases v <;> try exact hK.elim
        rename_i A
        cases A <;> try exact hK.elim
        have hv : a.eval x = .pointer none := by
          revert h1
          generalize a.eval x = q
          intro h1
          cases h1; rfl
        exact sl none hv (by simpa [nilE] using hK)
      · exact sl _ h1.ptr_inv.2 (by simpa [nilE] using hK)
      · obtain ⟨ad, hv, _⟩ := h1.pin_inv
        exact sl _ hv (by simpa [nilE] using hK)
      · exact sl _ h1.vp_inv.2.2 (by simpa [nilE] using hK)
    · rename_i ps rs vr hu
      cases hn
      have hy : a.eval (.const .nilFunc) = .nilFunc := rfl
      rw [hy]
      revert h1 hK
      cases ev e sx <;> intro h1 hK <;> try exact hK.elim
      · rename_i v
        cases v <;> try exact hK.elim
        have hv : a.eval x = .nilFunc := by
          revert h1
          generalize a.eval x = q
          intro h1
          cases h1; rfl
        rw [hv]
        exact ⟨true, by simpa [nilE] using hK, run_equalIn_nil_func 9999 hu, fun z hz => by rw [← hz]; rfl, fun z hz => by rw [← hz]; rfl, by simp [eqGuard]⟩
      · rename_i f as bs
        obtain ⟨fs, cs, hv⟩ : ∃ fs cs, a.eval x = .func (.func f) fs cs := by
          revert h1
          generalize a.eval x = q
          intro h1
          cases h1; exact ⟨_, _, rfl⟩
        rw [hv]
        exact ⟨false, by simpa [nilE] using hK, run_equalIn_func_nil 9999 _ _ _ hu, fun z hz => by rw [← hz]; rfl, fun z hz => by rw [← hz]; rfl, by simp [eqGuard]⟩
    · cases hn
  obtain ⟨b, hk, hr, he, hne, hg⟩ := key
  rcases hop with ⟨rfl, rfl⟩ | ⟨rfl, rfl⟩
  · refine ⟨.bool b, .bool b, ?_, .bool b, by simpa using hk⟩
    simp [execOp, ho, hg, he _ rfl, hr]
  · refine ⟨.bool (!b), .bool (!b), ?_, .bool _, by simpa using hk⟩
    simp [execOp, ho, hg, hne _ rfl, hr]
end
end Go.Sim
