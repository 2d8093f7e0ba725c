/- Bytes to strings: string(bytes), unsafe.SliceData, unsafe.String. -/
import Derived.Test.YtmfechcelhchcaaDoorSimSound6
import Derived.Lib.UnsafeStr
import Derived.Laws.BytesString
namespace Go.Sim
open Go Go.Lib

section
variable {P : Program} {w : World}
theorem liesAt_off {e : TypeId} (hc : P.cellsOf e = 1) (count off n : Nat) (hn : off + n ≤ count) : liesAt P P.depth e count off e n = true := by
  have hd : P.depth = (2 * (P.types.size + Made.depth) + 1) + 1 := rfl
  rw [hd]
  simp only [liesAt, Bool.or_eq_true]
  left
  rw [hd]
  simp [rowAt, hc, sameLayout, Nat.mod_one]
  omega
theorem run_ustr_at (pt it ty e : TypeId) (hp : P.underlying pt = some (.pointer e)) (hc : P.cellsOf e = 1) (g off cells : Nat) (hsh : w.shape? g = some (e, cells)) (l : List UInt8) (h0 : l ≠ []) (hn : off + l.length ≤ cells) (h63 : l.length ≤ 9223372036854775807)
    (hcell : ∀ j x, l[j]? = some x → w.cell? ((⟨g, off, none⟩ : Addr).add j) = some (.int .u8 x.toNat)) :
    (Builtin.unsafeString_ #[pt, it] ty #[.pointer (some ⟨g, off, none⟩), .int .i64 l.length]).run P w = .ok (.string ⟨l.toArray⟩) (w.freeze ⟨g, off, none⟩ l.length) := by
  have hl : l.length ≠ 0 := by simpa using h0
  have hlb := run_loadBytes (P := P) w l ⟨g, off, none⟩ .empty hcell
  have hlies := liesAt_off (P := P) hc (cells / P.cellsOf e) off l.length (by rw [hc]; simpa using hn)
  have h63' : ¬ (9223372036854775807 : Int) < (l.length : Int) := by omega
  obtain ⟨A, B, C, hdef⟩ : ∃ (A B : Sem PUnit) (C : Sem Value), Builtin.unsafeString_ #[pt, it] ty #[.pointer (some ⟨g, off, none⟩), .int .i64 l.length] =
      (do
        let n ← asInt (.int .i64 l.length)
        if n < 0 then A
        if n > IntKind.i64.max then B
        if n = 0 then pure (.string .empty)
        else if ← variablesAt ⟨g, off, none⟩ (← elemOf pt) n.toNat then do
          let s ← loadBytes ⟨g, off, none⟩ .empty n.toNat
          freeze ⟨g, off, none⟩ n.toNat
          pure (.string s)
        else C) := ⟨_, _, _, rfl⟩
  rw [hdef]
  have hmax : IntKind.i64.max = 9223372036854775807 := rfl
  have hneg : ¬ (l.length : Int) < 0 := by omega
  simp [asInt, asIntOf, hmax, h63', hneg, hl, variablesAt, hsh, elemOf, run_underlying hp, hlies, hlb]
end

section
variable {P : Program} {o : Oper} {a : Act} {w : World} {g : Ghost} {h : Heap} {n : Nat} {e : Env}
/-- a root's block is touched; the root is given up -/
theorem root_touch (H : HRel h g w) {r : Nat} {ob : AObj} (hr : h r = some ob) (h0 : g.cap r ≠ 0) {w' : World} (hs : ∀ b, b ≠ g.eta r → w'.heap[b]? = w.heap[b]?) (hz : w'.heap.size = w.heap.size) (h1 : w'.os = w.os) (h2 : w'.tape = w.tape) (h3 : w'.output = w.output)
    (hc : ∃ cur t f, w'.heap[g.eta r]? = some (.cells cur t f)) : GS g w g w' ∧ HRel (del h r) g w' := by
  have hnf : ¬ g.fz (g.eta r) := by
    rcases (H.obj r ob hr).block with h' | ⟨_, hf, _⟩
    · exact absurd h' h0
    · exact hf
  have S : GS g w g w' := GS.world (fun b hb => hs b (fun e => hnf (e ▸ hb))) h1 h2 h3 (by rw [hz]; exact Nat.le_refl _) (fun b _ ho => hs b (fun e => by
      rcases ho with ho | ⟨o, ho, hc⟩
      · exact ho ⟨r, (H.obj r ob hr).lt, h0, e.symm⟩
      · rcases (H.obj r ob hr).block with h' | ⟨_, _, cur, hcur, _⟩
        · exact h0 h'
        · rw [e, hcur] at ho; cases ho; cases hc))
  refine ⟨S, fun t o' ht => ?_, (H.del r).inj, fun b hb => by rw [hz]; exact H.fz b hb, fun b hb => ?_⟩
  · unfold Sim.del at ht
    split at ht
    · cases ht
    · rename_i hne
      refine (H.obj t o' ht).step S (fun hc => ?_) (fun hc => ?_)
      · exact hs _ (fun he => hne (H.inj t r o' ob ht hr hc h0 he))
      · rcases (H.obj t o' ht).block with h' | ⟨_, hf, _⟩
        · exact absurd h' hc
        · exact hf
  · by_cases e : b = g.eta r
    · subst e; exact hc
    · rw [hs b e]; exact H.ow b hb

theorem fold_push (l : List UInt8) : ∀ acc : ByteArray, (l.map fun b => (b.toNat : Int)).foldl (fun r n => r.push (UInt8.ofNat n.toNat)) acc = ⟨acc.data ++ l.toArray⟩ := by
  induction l with
  | nil => intro acc; simp
  | cons b r ih =>
    intro acc
    rw [List.map_cons, List.foldl_cons, ih]
    simp [ByteArray.push]
theorem strEs_vals {news : List Value} {l : List UInt8} (F : FlatRel g w news 1 (strEs l)) : news = (l.map fun b => (b.toNat : Int)).map (Value.int .u8) := by
  have hl : news.length = l.length := by rw [F.1]; simp [strEs]
  apply List.ext_getElem?
  intro j
  by_cases hj : j < l.length
  · have hx := List.getElem?_eq_getElem hj
    obtain ⟨u, hu, hv⟩ := F.2.2.2 j 0 [.int .u8 (l[j]).toNat] _ (by simp [strEs, hx]) rfl
    rw [hv.int_inv'] at hu
    simp only [Nat.mul_one, Nat.add_zero] at hu
    rw [hu]; simp [hx]
  · rw [List.getElem?_eq_none (by omega), List.getElem?_eq_none (by simp; omega)]
theorem strEs_get {l : List UInt8} {j : Nat} {x : UInt8} (hx : l[j]? = some x) : (strEs l)[j]? = some [.int .u8 x.toNat] := by
  simp [strEs, hx]
/-- string(bytes) -/
theorem s_b2s {s d el : TypeId} {x : Operand} {sx : SX} (ho : o.op = .convert s d x) (hs : P.underlying s = some (.slice el)) (hel : P.underlying el = some (.int .u8)) (hd : P.underlying d = some .string) (hx : toSX x = some sx) (E : ERel n e g w a) (H : HRel h g w)
    {l : List UInt8} (hr : Rd h 1 (ev e sx) (strEs l)) : StepV P o a w g (.str l) := by
  have h1 := ev_sound E hx
  have hrun : ∀ v w', (Conv.bytesToString (a.eval x)).run P w = .ok v w' → (execOp a.eval o).run P w = .ok (.value v) w' := by
    intro v w' hh
    have : ∃ A len c, a.eval x = .slice A len c := by
      rcases hr.cells h1 H with ⟨_, A, c, hv⟩ | ⟨ad, c, news, hv, _⟩
      · exact ⟨_, _, _, hv⟩
      · exact ⟨_, _, _, hv⟩
    obtain ⟨A, len, c, hv⟩ := this
    rw [hv] at hh
    cases A <;> simp [execOp, ho, convert, run_underlying hs, run_underlying hd, run_underlying hel, hv, hh]
  rcases hr.cells h1 H with ⟨he, A, c, hv⟩ | ⟨ad, c, news, hv, _, F, hn, _⟩
  · have hl : l = [] := by
      have := congrArg List.length he
      simpa [strEs] using this
    subst hl
    refine ⟨.string ⟨#[]⟩, hrun _ _ ?_, VRel.str' []⟩
    rw [hv]
    cases A with
    | none => rfl
    | some ad =>
      exact run_bytesToString (P := P) w ad 0 c [] (by simp [loadCells, loadCellsFrom])
  · refine ⟨.string ⟨⟨l⟩⟩, hrun _ _ ?_, VRel.str' l⟩
    rw [hv]
    have hnw := strEs_vals F
    have hlen : (strEs l).length = news.length := by rw [F.1]; simp
    have hld := run_loadCells_list (P := P) (w := w) ad news (fun j v hv => hn j v hv)
    rw [hnw] at hld
    have := run_bytesToString (P := P) w ad (strEs l).length c (l.map fun b => (b.toNat : Int)) (by rw [hlen, hnw]; simpa using hld)
    rw [this, fold_push]
    simp
/-- unsafe.SliceData -/
def usdE (x : AVal) (h : Heap) (K : AVal → Heap → Prop) : Prop :=
  match x with
  | .emp => K .anyp h
  | .osl r _ i n => 0 < n ∧ K (.ptr r i 0) h
  | _ => False
theorem s_usd {el : TypeId} {x : Operand} {sx : SX} {c : Call} (ho : o.op = .call c) (hc : c.callee = .builtin .unsafeSliceData) (ha : c.args.toList = [x]) (hp : P.underlying o.type = some (.pointer el)) (hx : toSX x = some sx) (E : ERel n e g w a) (H : HRel h g w)
    {K : AVal → Heap → Prop} (hk : usdE (ev e sx) h K) : StepW P o a w g K := by
  obtain ⟨cal, ar, at'⟩ := c
  simp only at hc ha
  subst hc
  have har : ar = #[x] := by cases ar; simp_all
  subst har
  have h1 := ev_sound E hx
  have run : ∀ v w', (Builtin.unsafeSliceData_ at' o.type #[a.eval x]).run P w = .ok v w' → (execOp a.eval o).run P w = .ok (.value v) w' := by
    intro v w' hh
    simp [execOp, ho, resolve, invoke, builtin, hh]
  revert hk h1
  cases hq : ev e sx <;> intro hk h1 <;> try exact hk.elim
  · have hk : K .anyp h := hk
    revert run h1
    generalize a.eval x = q
    intro run h1
    cases h1 with
    | emp0 => exact ⟨_, w, g, .anyp, h, .inl (run _ _ rfl), GS.refl g w, H, .anyp _, hk⟩
    | empS ad hs hf hc =>
      obtain ⟨cur, t, f, hc⟩ := hc
      have hsh : w.shape? ad.block = some (t, cur.size) := by simp [World.shape?, hc]
      obtain ⟨S, H'⟩ := H.alloc (.view ad el)
      exact ⟨_, _, g, .anyp, h, .inl (run _ _ (run_unsafeSliceData_zero w at' o.type el hp ad 0 _ hsh)), S, H', .anyp _, hk⟩
  · rename_i r sz i m
    obtain ⟨h0, hk⟩ := hk
    obtain ⟨hr, hsz, hc⟩ := h1.osl_inv
    rcases hc with ⟨_, _, hm, _⟩ | ⟨cap, off, hv, hnc, _, _, hoff⟩
    · omega
    · refine ⟨_, w, g, .ptr r i 0, h, .inl (run _ _ (by rw [hv]; exact run_unsafeSliceData_row w at' o.type _ _ cap (by omega))), GS.refl g w, H, ?_, hk⟩
      have := VRel.ptr (g := g) (w := w) r i 0 hr
      rw [hoff (by omega), ← hsz]
      simpa using this
/-- unsafe.String -/
def ustrE (ty : TypeId) (p m : AVal) (h : Heap) (K : AVal → Heap → Prop) : Prop :=
  match p, m with
  | .anyp, .int .i64 m => m = 0 ∧ K (.str []) h
  | .ptr r i j, .int .i64 m => j = 0 ∧ ∃ (l : List UInt8) (ob : AObj), h r = some ob ∧ ob.ty = ty ∧ ob.sz = 1 ∧ i + l.length ≤ ob.es.length ∧ (ob.es.drop i).take l.length = strEs l ∧ m = l.length ∧ l ≠ [] ∧ l.length ≤ 9223372036854775807 ∧ K (.str l) (del h r)
  | _, _ => False
theorem s_ustr {t u el : TypeId} {x y : Operand} {sx sy : SX} {c : Call} (ho : o.op = .call c) (hc : c.callee = .builtin .unsafeString) (ha : c.args.toList = [x, y]) (ht : c.argTypes.toList = [t, u]) (hp : P.underlying t = some (.pointer el)) (hcl : P.cellsOf el = 1)
    (hx : toSX x = some sx) (hy : toSX y = some sy) (E : ERel n e g w a) (H : HRel h g w) {K : AVal → Heap → Prop} (hk : ustrE el (ev e sx) (ev e sy) h K) : StepW P o a w g K := by
  obtain ⟨cal, ar, at'⟩ := c
  simp only at hc ha ht
  subst hc
  have har : ar = #[x, y] := by cases ar; simp_all
  subst har
  have hat : at' = #[t, u] := by cases at'; simp_all
  subst hat
  have h1 := ev_sound E hx
  have h2 := ev_sound E hy
  have run : ∀ v w', (Builtin.unsafeString_ #[t, u] o.type #[a.eval x, a.eval y]).run P w = .ok v w' → (execOp a.eval o).run P w = .ok (.value v) w' := by
    intro v w' hh
    simp [execOp, ho, resolve, invoke, builtin, hh]
  unfold ustrE at hk
  split at hk
  · rename_i m hq1 hq2
    obtain ⟨rfl, hk⟩ := hk
    rw [hq1] at h1; rw [hq2] at h2
    have hy' := h2.int_inv'
    obtain ⟨q, hx'⟩ : ∃ q, a.eval x = .pointer q := by
      revert h1
      generalize a.eval x = z
      intro h1
      cases h1 with
      | anyp q => exact ⟨q, rfl⟩
    exact ⟨_, w, g, .str [], h, .inl (run _ _ (by rw [hx', hy']; exact run_unsafeString_none w t u o.type q)), GS.refl g w, H, VRel.str' [], hk⟩
  · rename_i r i j m hq1 hq2
    obtain ⟨rfl, l, ob, hob, hty, hs1, hfit, hes, rfl, hne, h63, hk⟩ := hk
    rw [hq1] at h1; rw [hq2] at h2
    have hy' := h2.int_inv'
    obtain ⟨hr, hx'⟩ := h1.ptr_inv
    have O := H.obj r ob hob
    have hl0 : 0 < l.length := List.length_pos_iff.2 hne
    rcases O.block with h' | ⟨hlt, hf, cur, hcur, hcs, hh⟩
    · have := O.le; omega
    · have hc0 : g.cap r ≠ 0 := by have := O.le; omega
      rw [hs1] at hcs
      have hle := O.le
      have hsh : w.shape? (g.eta r) = some (el, cur.size) := by simp [World.shape?, hcur, hty]
      have hcell : ∀ k x, l[k]? = some x → w.cell? ((⟨g.eta r, g.bo r + i, none⟩ : Addr).add k) = some (.int .u8 x.toNat) := by
        intro k x hkx
        have hk1 : k < l.length := (List.getElem?_eq_some_iff.1 hkx).1
        have h3 : ob.es[i + k]? = some [.int .u8 x.toNat] := by
          have := strEs_get hkx
          rw [← hes, List.getElem?_take, if_pos hk1, List.getElem?_drop] at this
          exact this
        obtain ⟨u, hu, _, hv⟩ := hh (i + k) 0 _ _ h3 rfl
        rw [hv.int_inv'] at hu
        rw [Addr.add_lit, cell_of_row w _ _ cur _ _ hcur, ← hu, hs1]
        congr 1; omega
      have hrun := run_ustr_at (P := P) (w := w) t u o.type el hp hcl (g.eta r) (g.bo r + i) cur.size hsh l hne (by omega) h63 hcell
      have hz : (w.freeze ⟨g.eta r, g.bo r + i, none⟩ l.length).heap.size = w.heap.size := by
        unfold World.freeze; split <;> simp
      obtain ⟨S, H'⟩ := root_touch H hob hc0 (w' := w.freeze ⟨g.eta r, g.bo r + i, none⟩ l.length) (fun b hb => by
        unfold World.freeze
        split
        · rfl
        · simp only [Array.getElem?_modify]
          rw [if_neg (fun e => hb e.symm)]) hz (by unfold World.freeze; split <;> rfl) (by unfold World.freeze; split <;> rfl) (by unfold World.freeze; split <;> rfl) (by
        unfold World.freeze
        rw [if_neg (by omega)]
        simp only [Array.getElem?_modify, if_true, hcur, Option.map_some]
        exact ⟨_, _, _, rfl⟩)
      refine ⟨_, _, g, .str l, _, .inl (run _ _ (by rw [hx', hy']; simpa [hs1, O.sz] using hrun)), S, H', VRel.str' l, hk⟩
  · exact hk.elim
end
end Go.Sim
