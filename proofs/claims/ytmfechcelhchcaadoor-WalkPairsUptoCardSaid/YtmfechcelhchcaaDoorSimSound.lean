/- The operations are sound. -/
import Derived.Test.YtmfechcelhchcaaDoorSimOps
namespace Go.Sim
open Go

theorem VRel.ofV1 (g : Ghost) (w : World) (v : Value) : VRel g w v (ofV1 v) := by
  unfold Sim.ofV1
  split
  · exact .int _ _
  · exact .bool _
  · exact .str _
  · exact .emp0
  · exact .prim _
theorem VRel.ofV (g : Ghost) (w : World) (v : Value) (h : constOK v = true) : VRel g w v (ofV v) := by
  unfold Sim.ofV
  split
  · rename_i cs
    refine .agg cs _ (by simp) (fun j u hu => ?_) (fun j u c hu hc => ?_)
    · simp only [constOK, List.all_eq_true] at h
      exact h u (Array.mem_toList_iff.2 (Array.mem_of_getElem? hu))
    · rw [List.getElem?_map, Array.getElem?_toList, hu] at hc
      simp at hc
      subst hc
      exact .ofV1 g w u
  · exact .ofV1 g w _

theorem ev_sound {n : Nat} {e : Env} {g : Ghost} {w : World} {a : Act} (E : ERel n e g w a) {x : Operand} {sx : SX} (h : toSX x = some sx) : VRel g w (a.eval x) (ev e sx) := by
  cases x with
  | tmp t =>
    simp only [toSX] at h
    split at h
    · rename_i ht; cases h; exact E.slot t ht
    · cases h
  | const v =>
    simp only [toSX] at h
    split at h
    · rename_i hc
      simp at h; subst h
      exact .ofV g w v hc
    · cases h
  | func f =>
    simp [toSX] at h; subst h
    exact .fn f #[] #[] [] [] rfl rfl (by simp) (by simp)
  | global gl => simp [toSX] at h; subst h; exact E.glo gl

/-! ### what a value is, by what it stands for -/
section inv
variable {g : Ghost} {w : World} {v : Value}
theorem VRel.vp_inv {v : Value} {r j : Nat} (h : VRel g w v (.vp r j)) : r < g.nxt ∧ (g.bo r = 0 ∧ g.cap r = 1) ∧ v = .pointer (some ⟨g.eta r, j, none⟩) := by
  cases h with
  | vp r j hr hb hc => exact ⟨hr, ⟨hb, hc⟩, rfl⟩
theorem VRel.int_inv {k : IntKind} {n : Int} (h : VRel g w v (.int k n)) : v = .int k n := by cases h; rfl
theorem VRel.bool_inv {b : Bool} (h : VRel g w v (.bool b)) : v = .bool b := by cases h; rfl
theorem VRel.str_inv {l : List UInt8} (h : VRel g w v (.str l)) : ∃ s : ByteArray, v = .string s ∧ s.data.toList = l := by cases h; exact ⟨_, rfl, rfl⟩
theorem VRel.str' (l : List UInt8) : VRel g w (.string ⟨l.toArray⟩) (.str l) := VRel.str ⟨l.toArray⟩
theorem VRel.int_inv' {k : IntKind} {n : Int} (V : VRel g w v (.int k n)) : v = .int k n := by cases V; rfl
theorem VRel.str_inv' {l : List UInt8} (h : VRel g w v (.str l)) : v = .string ⟨⟨l⟩⟩ := by cases h; rfl
end inv
theorem VRel.str_mk (g : Ghost) (w : World) (l : List UInt8) : VRel g w (.string ⟨⟨l⟩⟩) (.str l) := .str ⟨⟨l⟩⟩

theorem toList_of (l : List UInt8) : (ByteArray.mk ⟨l⟩).toList = l := by
  have := Go.beq_toListBytes
  simp [ByteArray.toList_eq]


def StepV (P : Program) (o : Oper) (a : Act) (w : World) (g : Ghost) (r : AVal) : Prop :=
  ∃ v, (execOp a.eval o).run P w = .ok (.value v) w ∧ VRel g w v r

section
variable {P : Program} {o : Oper} {a : Act} {w : World} {g : Ghost} {h : Heap} {n : Nat} {e : Env}

theorem s_mv {x : Operand} {sx : SX} (ho : o.op = .move x ∨ o.op = .assign x) (hx : toSX x = some sx) (E : ERel n e g w a) : StepV P o a w g (ev e sx) := by
  rcases ho with h | h <;> exact ⟨a.eval x, by simp [execOp, h], ev_sound E hx⟩

theorem s_pick {c x y : Operand} {sc sx sy : SX} (ho : o.op = .pick c x y) (hc : toSX c = some sc) (hx : toSX x = some sx) (hy : toSX y = some sy) (E : ERel n e g w a)
    (hk : okPick (ev e sc)) : StepV P o a w g (aPick (ev e sc) (ev e sx) (ev e sy)) := by
  have h1 := ev_sound E hc
  revert h1 hk
  cases ev e sc <;> intro hk h1 <;> try exact hk.elim
  rename_i b
  refine ⟨if b then a.eval x else a.eval y, ?_, ?_⟩
  · simp [execOp, ho, h1.bool_inv, asBool]
  · cases b
    · exact ev_sound E hy
    · exact ev_sound E hx

theorem run_binOp_int (op : BinOp) (k k' : IntKind) (x y : Int) (t : TypeId) (hk : okI op k k' y) :
    ∃ v, (binOp op t (.int k x) (.int k' y)).run P w = .ok v w ∧ VRel g w v (binI op k x y) := by
  cases op <;> simp only [okI] at hk
  case quo => obtain ⟨rfl, h0⟩ := hk; exact ⟨_, by simp [binOp, Op.intDiv, h0], .int _ _⟩
  case rem => obtain ⟨rfl, h0⟩ := hk; exact ⟨_, by simp [binOp, Op.intDiv, h0], .int _ _⟩
  case shl => exact ⟨_, by simp [binOp, Op.shift, Int.not_lt.2 hk], .int _ _⟩
  case shr => exact ⟨_, by simp [binOp, Op.shift, Int.not_lt.2 hk], .int _ _⟩
  all_goals subst hk
  case add => exact ⟨_, by simp [binOp, Op.intArith], .int _ _⟩
  case sub => exact ⟨_, by simp [binOp, Op.intArith], .int _ _⟩
  case mul => exact ⟨_, by simp [binOp, Op.intArith], .int _ _⟩
  case and => exact ⟨.int k (bitF .and k x y), by simp only [binOp, ne_eq, not_true_eq_false, ↓reduceIte, Op.intBits, Sem.run_pure, bitF], .int _ _⟩
  case or => exact ⟨.int k (bitF .or k x y), by simp only [binOp, ne_eq, not_true_eq_false, ↓reduceIte, Op.intBits, Sem.run_pure, bitF], .int _ _⟩
  case xor => exact ⟨.int k (bitF .xor k x y), by simp only [binOp, ne_eq, not_true_eq_false, ↓reduceIte, Op.intBits, Sem.run_pure, bitF], .int _ _⟩
  case andNot => exact ⟨.int k (bitF .andNot k x y), by simp only [binOp, ne_eq, not_true_eq_false, ↓reduceIte, Op.intBits, Sem.run_pure, bitF], .int _ _⟩
  case eql => exact ⟨_, by simp [binOp, Op.intCmp], .bool _⟩
  case neq => exact ⟨_, by simp [binOp, Op.intCmp], .bool _⟩
  case lss => exact ⟨_, by simp [binOp, Op.intCmp], .bool _⟩
  case leq => exact ⟨_, by simp [binOp, Op.intCmp], .bool _⟩
  case gtr => exact ⟨_, by simp [binOp, Op.intCmp], .bool _⟩
  case geq => exact ⟨_, by simp [binOp, Op.intCmp], .bool _⟩

theorem size_of_toList (s : ByteArray) : s.size = s.data.toList.length := by rw [Array.length_toList]; rfl
theorem append_toList (s u : ByteArray) : (s ++ u).data.toList = s.data.toList ++ u.data.toList := by simp

theorem run_binOp_str (op : BinOp) (s u : ByteArray) (t : TypeId) (hk : okS op s.data.toList u.data.toList) :
    ∃ v, (binOp op t (.string s) (.string u)).run P w = .ok v w ∧ VRel g w v (binS op s.data.toList u.data.toList) := by
  cases op <;> simp only [okS] at hk
  case add =>
    refine ⟨.string (s ++ u), ?_, ?_⟩
    · have h1 : ¬ (((s.size + u.size : Nat) : Int) > IntKind.i64.max) := by
        rw [size_of_toList, size_of_toList]
        have : IntKind.i64.max = 9223372036854775807 := by decide
        omega
      simp only [binOp, Op.stringOp, if_neg h1, Sem.run_pure]
    · have := VRel.str (g := g) (w := w) (s ++ u)
      rw [append_toList] at this
      exact this
  case eql => exact ⟨.bool (s.data.toList == u.data.toList), by simp only [binOp, Op.stringOp, ByteArray.toList_eq, Sem.run_pure], .bool _⟩
  case neq => exact ⟨.bool (s.data.toList != u.data.toList), by simp only [binOp, Op.stringOp, ByteArray.toList_eq, Sem.run_pure]; rfl, .bool _⟩
  case lss => exact ⟨.bool (Op.bytesLess s.data.toList u.data.toList), by simp only [binOp, Op.stringOp, ByteArray.toList_eq, Sem.run_pure], .bool _⟩
  case geq => exact ⟨.bool (!Op.bytesLess s.data.toList u.data.toList), by simp only [binOp, Op.stringOp, ByteArray.toList_eq, Sem.run_pure], .bool _⟩

theorem s_bin {op : BinOp} {t t' : TypeId} {x y : Operand} {sx sy : SX} (ho : o.op = .binOp op t x y t') (hx : toSX x = some sx) (hy : toSX y = some sy) (E : ERel n e g w a)
    (hk : okBin op (ev e sx) (ev e sy)) : StepV P o a w g (aBin op (ev e sx) (ev e sy)) := by
  have h1 := ev_sound E hx
  have h2 := ev_sound E hy
  have key : ∃ v, (binOp op t (a.eval x) (a.eval y)).run P w = .ok v w ∧ VRel g w v (aBin op (ev e sx) (ev e sy)) ∧ (eqGuard op t x y (a.eval x) (a.eval y)).run P w = .ok () w := by
    revert h1 h2 hk
    cases ev e sx <;> cases ev e sy <;> intro hk h1 h2 <;> try exact hk.elim
    · rw [h1.int_inv, h2.int_inv]
      obtain ⟨v, hr, hv⟩ := run_binOp_int (P := P) (w := w) (g := g) op _ _ _ _ t hk
      exact ⟨v, hr, hv, by simp [eqGuard]⟩
    · obtain ⟨s, hs, rfl⟩ := h1.str_inv
      obtain ⟨u, hu, rfl⟩ := h2.str_inv
      rw [hs, hu]
      obtain ⟨v, hr, hv⟩ := run_binOp_str (P := P) (w := w) (g := g) op s u t hk
      exact ⟨v, hr, hv, by simp [eqGuard]⟩
  obtain ⟨v, hr, hv, hg⟩ := key
  exact ⟨v, by simp [execOp, ho, hg, hr], hv⟩

theorem isBoolT_out {t : TypeId} (h : isBoolT P t = true) : P.underlying t = some .bool := by
  unfold isBoolT at h
  split at h
  · assumption
  · cases h
theorem s_eqb {op : BinOp} {t t' : TypeId} {x y : Operand} {sx sy : SX} {neg : Bool} (ho : o.op = .binOp op t x y t') (ht : isBoolT P t = true) (hop : op = .eql ∧ neg = false ∨ op = .neq ∧ neg = true)
    (hx : toSX x = some sx) (hy : toSX y = some sy) (E : ERel n e g w a)
    (hk : okEqb (ev e sx) (ev e sy)) : StepV P o a w g (aEqb neg (ev e sx) (ev e sy)) := by
  have h1 := ev_sound E hx
  have h2 := ev_sound E hy
  have htt := isBoolT_out ht
  revert h1 h2 hk
  cases ev e sx <;> cases ev e sy <;> intro hk h1 h2 <;> try exact hk.elim
  rename_i b c
  have hg : (eqGuard op t x y (a.eval x) (a.eval y)).run P w = .ok () w := by rw [h1.bool_inv, h2.bool_inv]; simp [eqGuard]
  rcases hop with ⟨rfl, rfl⟩ | ⟨rfl, rfl⟩
  · refine ⟨.bool (b == c), ?_, ?_⟩
    · have hr := run_eql_bool (P := P) w t b c htt
      rw [← h1.bool_inv, ← h2.bool_inv] at hr
      simp [execOp, ho, hg, hr]
    · simp only [aEqb, Bool.false_bne]; exact .bool _
  · refine ⟨.bool (!(b == c)), ?_, ?_⟩
    · have hr := run_neq_bool (P := P) w t b c htt
      rw [← h1.bool_inv, ← h2.bool_inv] at hr
      simp [execOp, ho, hg, hr]
    · simp only [aEqb, Bool.true_xor]; exact .bool _

theorem s_un {op : UnOp} {t : TypeId} {x : Operand} {sx : SX} (ho : o.op = .unOp op t x) (hx : toSX x = some sx) (E : ERel n e g w a)
    (hk : okUn op (ev e sx)) : StepV P o a w g (aUn op (ev e sx)) := by
  have h1 := ev_sound E hx
  revert h1 hk
  cases ev e sx <;> intro hk h1 <;> try exact hk.elim
  · simp only [okUn] at hk
    subst hk
    exact ⟨_, by simp [execOp, ho, h1.int_inv, Op.unary, Op.intArith], .int _ _⟩
  · simp only [okUn] at hk
    subst hk
    exact ⟨_, by simp [execOp, ho, h1.bool_inv, Op.unary], .bool _⟩

theorem s_cvi {k k0 : IntKind} {s d : TypeId} {x : Operand} {sx : SX} (ho : o.op = .convert s d x) (hs : P.underlying s = some (.int k0)) (hd : P.underlying d = some (.int k)) (hx : toSX x = some sx) (E : ERel n e g w a)
    (hk : okCvi (ev e sx)) : StepV P o a w g (aCvi k (ev e sx)) := by
  have h1 := ev_sound E hx
  revert h1 hk
  cases ev e sx <;> intro hk h1 <;> try exact hk.elim
  exact ⟨_, by simp [execOp, ho, h1.int_inv, convert, run_underlying hs, run_underlying hd, Conv.intToInt], .int _ _⟩

theorem s_idc {s d : TypeId} {x : Operand} {sx : SX} (ho : o.op = .convert s d x) (hs : P.underlying s = some .string) (hd : P.underlying d = some .string) (hx : toSX x = some sx) (E : ERel n e g w a)
    (hk : ∃ l, ev e sx = .str l) : StepV P o a w g (ev e sx) := by
  have h1 := ev_sound E hx
  obtain ⟨l, hl⟩ := hk
  rw [hl] at h1 ⊢
  obtain ⟨u, hu, rfl⟩ := h1.str_inv
  exact ⟨_, by simp [execOp, ho, hu, convert, run_underlying hs, run_underlying hd], .str _⟩

/-! ### structs and addresses -/
theorem szT_out {t : TypeId} {s : Nat} (hs : szT P t = some s) : ∃ i, P.info? t = some i ∧ i.size = s := by
  unfold szT at hs
  cases hi : P.info? t with
  | none => rw [hi] at hs; cases hs
  | some i => rw [hi] at hs; exact ⟨i, rfl, by simpa using hs⟩
theorem run_sizeOf' {t : TypeId} {s : Nat} (hs : szT P t = some s) (w : World) : (Go.sizeOf t).run P w = .ok s w := by
  obtain ⟨i, hi, rfl⟩ := szT_out hs
  simp [Go.sizeOf, typeInfo, hi]
theorem run_isAgg' {t : TypeId} {b : Bool} (hs : aggT P t = some b) (w : World) : (isAgg t).run P w = .ok b w := by
  unfold aggT at hs
  split at hs <;> simp at hs <;> subst hs
  · rename_i h; simp [isAgg, run_underlying h]
  · rename_i h; simp [isAgg, run_underlying h]
  · rename_i d h1 h2 h; 
    simp only [isAgg, Sem.run_bind, run_underlying h, Result.andThen_ok]
    cases d <;> first | rfl | (exact absurd rfl (h1 _)) | (exact absurd rfl (h2 _ _))
theorem fieldT_out {t : TypeId} {f : Nat} {fd : Field} (hs : fieldT P t f = some fd) : ∃ fs, P.underlying t = some (.struct fs) ∧ fs[f]? = some fd := by
  unfold fieldT at hs
  split at hs
  · rename_i fs h; exact ⟨fs, h, hs⟩
  · cases hs
theorem elemT_out {t e : TypeId} (hs : elemT P t = some e) : P.underlying t = some (.slice e) := by
  unfold elemT at hs
  split at hs
  · rename_i h; simp at hs; subst hs; exact h
  · cases hs

theorem VRel.agg_inv {v : Value} {cs : List AVal} (h : VRel g w v (.agg cs)) : ∃ vs : Array Value, v = .agg vs ∧ vs.size = cs.length ∧ (∀ (j : Nat) (u : Value), vs[j]? = some u → u.oneCell' = true) ∧ ∀ (j : Nat) (u : Value) (c : AVal), vs[j]? = some u → cs[j]? = some c → VRel g w u c := by
  cases h; exact ⟨_, rfl, by assumption, by assumption, by assumption⟩

theorem headD_getElem? {α : Type} (l : List α) (d : α) (h : 0 < l.length) : l[0]? = some (l.headD d) := by
  cases l with
  | nil => simp at h
  | cons x r => rfl

theorem s_fld {t : TypeId} {f s : Nat} {b : Bool} {fd : Field} {x : Operand} {sx : SX} (ho : o.op = .field t x f) (hf : fieldT P t f = some fd) (hs : szT P fd.type = some s) (hb : aggT P fd.type = some b)
    (hx : toSX x = some sx) (E : ERel n e g w a) (hk : okFld fd.offset s b (ev e sx)) : StepV P o a w g (aFld fd.offset s b (ev e sx)) := by
  have h1 := ev_sound E hx
  obtain ⟨fs, hu, hfs⟩ := fieldT_out hf
  revert h1 hk
  cases ev e sx <;> intro hk h1 <;> try exact hk.elim
  rename_i cs
  obtain ⟨vs, hv, hl, h2, h3⟩ := h1.agg_inv
  obtain ⟨hle, h1s⟩ := hk
  cases b with
  | true =>
    refine ⟨.agg (vs.extract fd.offset (fd.offset + s)), ?_, ?_⟩
    · simp [execOp, ho, Instr.field, run_underlying hu, hfs, hv, asAgg, part, run_isAgg' hb, run_sizeOf' hs]
    · simp only [aFld, cutV, if_true]
      refine .agg _ _ ?_ (fun j u hj => ?_) (fun j u c hj hc => ?_)
      · simp; omega
      · simp only [Array.getElem?_extract] at hj
        split at hj
        · exact h2 _ _ hj
        · cases hj
      · simp only [Array.getElem?_extract] at hj
        split at hj
        · rw [List.getElem?_take] at hc
          split at hc
          · rw [List.getElem?_drop] at hc
            exact h3 _ _ _ hj hc
          · cases hc
        · cases hj
  | false =>
    have hs1 := h1s rfl
    subst hs1
    have hlt : fd.offset < vs.size := by omega
    refine ⟨vs[fd.offset], ?_, ?_⟩
    · simp [execOp, ho, Instr.field, run_underlying hu, hfs, hv, asAgg, part, run_isAgg' hb, hlt]
    · simp only [aFld, cutV, Bool.false_eq_true, if_false]
      have h0 : (cs.drop fd.offset)[0]? = some ((cs.drop fd.offset).headD .dead) := headD_getElem? _ _ (by simp; omega)
      rw [List.getElem?_drop] at h0
      exact h3 _ _ _ (Array.getElem?_eq_getElem hlt) h0

theorem VRel.pin_inv {v : Value} {cs : List AVal} (h : VRel g w v (.pin cs)) : ∃ ad : Addr, v = .pointer (some ad) ∧ ad.spot = none ∧ g.fz ad.block ∧
    ∀ (j : Nat) (c : AVal), cs[j]? = some c → ∃ u, w.cell? (ad.add j) = some u ∧ u.oneCell' = true ∧ VRel g w u c := by
  cases h with
  | pin ad cs us hs hf h1 h2 h3 => exact ⟨ad, rfl, hs, hf, fun j c hc => ⟨us j, h1 j c hc, h2 j c hc, h3 j c hc⟩⟩
theorem VRel.pin_mk {ad : Addr} {cs : List AVal} (hs : ad.spot = none) (hf : g.fz ad.block) (hh : ∀ (j : Nat) (c : AVal), cs[j]? = some c → ∃ u, w.cell? (ad.add j) = some u ∧ u.oneCell' = true ∧ VRel g w u c) :
    VRel g w (.pointer (some ad)) (.pin cs) :=
  .pin ad cs (fun j => (w.cell? (ad.add j)).getD undef) hs hf
    (fun j c hc => by obtain ⟨u, hu, _, _⟩ := hh j c hc; simp [hu]) (fun j c hc => by obtain ⟨u, hu, h1, _⟩ := hh j c hc; simp [hu, h1]) (fun j c hc => by obtain ⟨u, hu, _, h2⟩ := hh j c hc; simpa [hu] using h2)
theorem VRel.ptr_inv {v : Value} {r i j : Nat} (h : VRel g w v (.ptr r i j)) : r < g.nxt ∧ v = .pointer (some ⟨g.eta r, g.bo r + i * g.sz r + j, none⟩) := by
  cases h; exact ⟨by assumption, rfl⟩

theorem s_fldA {t : TypeId} {f s : Nat} {fd : Field} {x : Operand} {sx : SX} (ho : o.op = .fieldAddr t x f) (hf : fieldT P t f = some fd) (hs : szT P fd.type = some s) (h0 : 0 < s)
    (hx : toSX x = some sx) (E : ERel n e g w a) (hk : okFldA (ev e sx)) : StepV P o a w g (aFldA fd.offset (ev e sx)) := by
  have h1 := ev_sound E hx
  obtain ⟨fs, hu, hfs⟩ := fieldT_out hf
  have hs0 : s ≠ 0 := by omega
  revert h1 hk
  cases ev e sx <;> intro hk h1 <;> try exact hk.elim
  · rename_i r i j
    obtain ⟨hr, hv⟩ := h1.ptr_inv
    refine ⟨.pointer (some ⟨g.eta r, g.bo r + i * g.sz r + (j + fd.offset), none⟩), ?_, .ptr r i _ hr⟩
    simp [execOp, ho, Instr.fieldAt, run_underlying hu, hfs, hv, Instr.sureAddr, fieldPlace, run_sizeOf' hs, hs0, Addr.add_lit, Nat.add_assoc]
  · rename_i cs
    obtain ⟨ad, hv, hsp, hfz, hc⟩ := h1.pin_inv
    refine ⟨.pointer (some (ad.add fd.offset)), ?_, .pin_mk ?_ ?_ fun j c hj => ?_⟩
    · simp [execOp, ho, Instr.fieldAt, run_underlying hu, hfs, hv, Instr.sureAddr, fieldPlace, run_sizeOf' hs, hs0]
    · unfold Addr.add; split <;> simp [hsp]
    · rw [Addr.block_add]; exact hfz
    · rw [List.getElem?_drop] at hj
      rw [Addr.add_add']
      exact hc _ _ hj
  · rename_i r j
    obtain ⟨hr, hb, hv⟩ := h1.vp_inv
    refine ⟨.pointer (some ⟨g.eta r, j + fd.offset, none⟩), ?_, .vp r _ hr hb.1 hb.2⟩
    simp [execOp, ho, Instr.fieldAt, run_underlying hu, hfs, hv, Instr.sureAddr, fieldPlace, run_sizeOf' hs, hs0, Addr.add_lit]

theorem s_nck {x : Operand} {sx : SX} (ho : o.op = .nilCheck x) (hx : toSX x = some sx) (E : ERel n e g w a) (hk : okFldA (ev e sx)) : StepV P o a w g (aFldA 0 (ev e sx)) := by
  have h1 := ev_sound E hx
  revert h1 hk
  cases ev e sx <;> intro hk h1 <;> try exact hk.elim
  · rename_i r i j
    obtain ⟨hr, hv⟩ := h1.ptr_inv
    refine ⟨.pointer (some ⟨g.eta r, g.bo r + i * g.sz r + j, none⟩), ?_, .ptr r i _ hr⟩
    simp [execOp, ho, hv]
  · rename_i cs
    obtain ⟨ad, hv, hsp, hfz, hc⟩ := h1.pin_inv
    refine ⟨.pointer (some ad), ?_, .pin_mk hsp hfz fun j c hj => hc _ _ (by simpa using hj)⟩
    simp [execOp, ho, hv]
  · rename_i r j
    obtain ⟨hr, hb, hv⟩ := h1.vp_inv
    refine ⟨.pointer (some ⟨g.eta r, j, none⟩), ?_, .vp r _ hr hb.1 hb.2⟩
    simp [execOp, ho, hv]

theorem VRel.slc_inv {v : Value} {es : List (List AVal)} (h : VRel g w v (.slc es)) : ∃ A c, v = .slice A es.length c ∧ (0 < es.length → es.length ≤ c ∧ ∃ (ad : Addr) (sz : Nat), A = some ad ∧ ad.spot = none ∧ g.fz ad.block ∧ (∀ e ∈ es, e.length = sz) ∧
    ∀ (i j : Nat) (e : List AVal) (x : AVal), es[i]? = some e → e[j]? = some x → ∃ u, w.cell? (ad.add (i * sz + j)) = some u ∧ u.oneCell' = true ∧ VRel g w u x) := by
  cases h with
  | slc0 A c => exact ⟨A, c, rfl, fun h => absurd h (by simp)⟩
  | slc ad n c sz es us hn hc hsz hs hf h1 h2 h3 =>
    subst hn
    exact ⟨some ad, c, rfl, fun _ => ⟨hc, ad, sz, rfl, hs, hf, hsz, fun i j e x he hx => ⟨us i j, h1 i j e x he hx, h2 i j e x he hx, h3 i j e x he hx⟩⟩⟩
theorem VRel.slc_mk {ad : Addr} {c sz : Nat} {es : List (List AVal)} (hc : es.length ≤ c) (hsz : ∀ e ∈ es, e.length = sz) (hs : ad.spot = none) (hf : g.fz ad.block)
    (hh : ∀ (i j : Nat) (e : List AVal) (x : AVal), es[i]? = some e → e[j]? = some x → ∃ u, w.cell? (ad.add (i * sz + j)) = some u ∧ u.oneCell' = true ∧ VRel g w u x) :
    VRel g w (.slice (some ad) es.length c) (.slc es) :=
  .slc ad es.length c sz es (fun i j => (w.cell? (ad.add (i * sz + j))).getD undef) rfl hc hsz hs hf
    (fun i j e x he hx => by obtain ⟨u, hu, _, _⟩ := hh i j e x he hx; simp [hu]) (fun i j e x he hx => by obtain ⟨u, hu, h1, _⟩ := hh i j e x he hx; simp [hu, h1])
    (fun i j e x he hx => by obtain ⟨u, hu, _, h2⟩ := hh i j e x he hx; simpa [hu] using h2)
theorem VRel.osl_inv {v : Value} {r sz i n : Nat} (h : VRel g w v (.osl r sz i n)) : r < g.nxt ∧ g.sz r = sz ∧ ((v = .slice none 0 0 ∧ i = 0 ∧ n = 0 ∧ g.cap r = 0) ∨
    ∃ cap off, v = .slice (some ⟨g.eta r, off, none⟩) n cap ∧ n ≤ cap ∧ cap ≤ maxLen ∧ i + cap = g.cap r ∧ (0 < cap → off = g.bo r + i * sz)) := by
  cases h with
  | osl0 r sz hr hc hz => exact ⟨hr, hz, .inl ⟨rfl, rfl, rfl, hc⟩⟩
  | osl r sz i n cap off hr hz hc hm hi ho => exact ⟨hr, hz, .inr ⟨cap, off, rfl, hc, hm, hi, ho⟩⟩
theorem VRel.emp_inv {v : Value} (h : VRel g w v .emp) : ∃ A : Option Addr, v = .slice A 0 0 ∧ ∀ ad, A = some ad → ad.spot = none := by
  cases h with
  | emp0 => exact ⟨none, rfl, by simp⟩
  | empS ad hs => exact ⟨some ad, rfl, by rintro _ ⟨⟩; exact hs⟩

theorem getD_getElem? {α : Type} (l : List α) (k : Nat) (d : α) (h : k < l.length) : l[k]? = some (l.getD k d) := by
  rw [List.getElem?_eq_getElem h, List.getD_eq_getElem?_getD, List.getElem?_eq_getElem h, Option.getD_some]

theorem s_idxA {t el : TypeId} {s : Nat} {x i : Operand} {sx sy : SX} (ho : o.op = .indexAddr t x i) (ht : elemT P t = some el) (hs : szT P el = some s)
    (hx : toSX x = some sx) (hy : toSX i = some sy) (E : ERel n e g w a) (hk : okIdxA s (ev e sx) (ev e sy)) : StepV P o a w g (aIdxA (ev e sx) (ev e sy)) := by
  have h1 := ev_sound E hx
  have h2 := ev_sound E hy
  have hu := elemT_out ht
  revert h1 h2 hk
  cases ev e sx <;> cases ev e sy <;> intro hk h1 h2 <;> try exact hk.elim
  · rename_i es kk k
    obtain ⟨h0, hlt, hsz⟩ := hk
    obtain ⟨A, c, hv, hin⟩ := h1.slc_inv
    have hkl : k.toNat < es.length := by omega
    obtain ⟨_, ad, sz, rfl, hsp, hfz, hszs, hc⟩ := hin (by omega)
    have hel := getD_getElem? es k.toNat [] hkl
    have hss : sz = s := (hszs _ (List.mem_of_getElem? hel)).symm.trans hsz
    subst hss
    refine ⟨.pointer (some (ad.add (k.toNat * sz))), ?_, .pin_mk ?_ ?_ fun j c hj => ?_⟩
    · simp [execOp, ho, Instr.indexAt, h2.int_inv, asIntOf, run_underlying hu, hv, h0, hlt, run_sizeOf' hs]
    · unfold Addr.add; split <;> simp [hsp]
    · rw [Addr.block_add]; exact hfz
    · rw [Addr.add_add']
      exact hc _ _ _ _ hel hj
  · rename_i r sz ii nn kk k
    obtain ⟨rfl, h0, hlt⟩ := hk
    obtain ⟨hr, hsz, hc⟩ := h1.osl_inv
    rcases hc with ⟨_, _, rfl, _⟩ | ⟨cap, off, hv, hnc, _, hi, hoff⟩
    · omega
    · have hof := hoff (by omega)
      refine ⟨.pointer (some ⟨g.eta r, off + k.toNat * sz, none⟩), ?_, ?_⟩
      · simp [execOp, ho, Instr.indexAt, h2.int_inv, asIntOf, run_underlying hu, hv, h0, hlt, run_sizeOf' hs, Addr.add_lit]
      · have := VRel.ptr (g := g) (w := w) r (ii + k.toNat) 0 hr
        rw [hof, ← hsz]
        simp only [aIdxA]
        rw [show g.bo r + ii * g.sz r + k.toNat * g.sz r = g.bo r + (ii + k.toNat) * g.sz r + 0 by rw [Nat.add_mul]; omega]
        exact this

theorem s_idxS {t : TypeId} {x i : Operand} {sx sy : SX} (ho : o.op = .index t x i) (hu : P.underlying t = some .string)
    (hx : toSX x = some sx) (hy : toSX i = some sy) (E : ERel n e g w a) (hk : okIdxS (ev e sx) (ev e sy)) : StepV P o a w g (aIdxS (ev e sx) (ev e sy)) := by
  have h1 := ev_sound E hx
  have h2 := ev_sound E hy
  revert h1 h2 hk
  cases ev e sx <;> cases ev e sy <;> intro hk h1 h2 <;> try exact hk.elim
  rename_i l kk k
  obtain ⟨s, hv, rfl⟩ := h1.str_inv
  obtain ⟨h0, hlt⟩ := hk
  have hlt' : k.toNat < s.size := by rw [size_of_toList]; omega
  refine ⟨.int .u8 (s[k.toNat]).toNat, ?_, ?_⟩
  · simp [execOp, ho, Instr.index, h2.int_inv, asIntOf, run_underlying hu, hv, h0, hlt']
  · have hb : s.data.toList.getD k.toNat 0 = s[k.toNat] := by
      rw [List.getD_eq_getElem?_getD, List.getElem?_eq_getElem (by omega), Option.getD_some]
      rfl
    simp only [aIdxS, hb]
    exact .int _ _

theorem run_loadCells_of (w : World) (ad : Addr) (s : Nat) (hh : ∀ j, j < s → ∃ u, w.cell? (ad.add j) = some u) :
    ∃ vs : Array Value, (loadCells ad s).run P w = .ok vs w ∧ vs.size = s ∧ ∀ (j : Nat) (u : Value), vs[j]? = some u → j < s ∧ w.cell? (ad.add j) = some u := by
  have hr := run_loadCells (P := P) w ad s (fun j => (w.cell? (ad.add j)).getD undef) (fun j hj => by obtain ⟨u, hu⟩ := hh j hj; simp [hu])
  refine ⟨_, hr, by simp, fun j u hj => ?_⟩
  have hjs : j < s := by
    rcases Nat.lt_or_ge j s with h | h
    · exact h
    · simp [h] at hj
  refine ⟨hjs, ?_⟩
  obtain ⟨u', hu'⟩ := hh j hjs
  simp [hjs, hu'] at hj
  rw [hu', hj]

/-- loading so many cells of what lies at an address -/
theorem load_cells {t : TypeId} {s : Nat} {b : Bool} (hs : szT P t = some s) (hb : aggT P t = some b) (ad : Addr) (cs : List AVal) (hle : s ≤ cs.length) (h1s : b = false → s = 1)
    (hh : ∀ (j : Nat) (c : AVal), cs[j]? = some c → ∃ u, w.cell? (ad.add j) = some u ∧ u.oneCell' = true ∧ VRel g w u c) :
    ∃ v, (loadVar t ad).run P w = .ok v w ∧ VRel g w v (cutV s b cs) := by
  have hh' : ∀ j, j < cs.length → ∃ u, w.cell? (ad.add j) = some u ∧ u.oneCell' = true ∧ VRel g w u (cs.getD j .dead) := fun j hj => hh j _ (getD_getElem? cs j .dead hj)
  cases b with
  | true =>
    obtain ⟨vs, hr, hsz, hvs⟩ := run_loadCells_of (P := P) w ad s (fun j hj => by obtain ⟨u, hu, _⟩ := hh' j (by omega); exact ⟨u, hu⟩)
    refine ⟨.agg vs, ?_, ?_⟩
    · simp [loadVar, run_isAgg' hb, run_sizeOf' hs, hr]
    · simp only [cutV, if_true]
      refine .agg _ _ (by simp; omega) (fun j u hj => ?_) (fun j u c hj hc => ?_)
      · obtain ⟨hjs, hc⟩ := hvs j u hj
        obtain ⟨u', hu', h1, _⟩ := hh' j (by omega)
        rw [hu'] at hc; cases hc; exact h1
      · obtain ⟨hjs, hcc⟩ := hvs j u hj
        rw [List.getElem?_take, if_pos hjs] at hc
        obtain ⟨u', hu', _, h2⟩ := hh j c hc
        rw [hu'] at hcc; cases hcc; exact h2
  | false =>
    have hs1 := h1s rfl
    subst hs1
    have h0 := headD_getElem? cs .dead (by omega)
    obtain ⟨u, hu, _, h2⟩ := hh 0 _ h0
    have hu' : w.cell? ad = some u := by simpa [Addr.add] using hu
    refine ⟨u, ?_, by simpa [cutV] using h2⟩
    simp [loadVar, run_isAgg' hb, hu']

theorem ORel.cells {r : Nat} {ob : AObj} (H : ORel g w r ob) {i : Nat} (hi : i < ob.es.length) (j : Nat) : ∀ (k : Nat) (c : AVal), ((ob.es.getD i []).drop j)[k]? = some c →
    ∃ u, w.cell? ((⟨g.eta r, g.bo r + i * g.sz r + j, none⟩ : Addr).add k) = some u ∧ u.oneCell' = true ∧ VRel g w u c := by
  intro k c hc
  have hel := getD_getElem? ob.es i [] hi
  rcases H.block with h0 | ⟨_, _, cur, hcur, _, hh⟩
  · have := H.le; omega
  · rw [List.getElem?_drop] at hc
    obtain ⟨u, hu, h1, h2⟩ := hh _ _ _ _ hel hc
    refine ⟨u, ?_, h1, h2⟩
    rw [Addr.add_lit, cell_of_row w _ _ cur _ _ hcur, H.sz, ← hu]
    congr 1
    omega

theorem s_ld {t : TypeId} {s : Nat} {b : Bool} {x : Operand} {sx : SX} (ho : o.op = .load t x) (hs : szT P t = some s) (hb : aggT P t = some b)
    (hx : toSX x = some sx) (E : ERel n e g w a) (H : HRel h g w) (hk : okLd h s b (ev e sx)) : StepV P o a w g (aLd h s b (ev e sx)) := by
  have h1 := (ev_sound E hx).deVp
  unfold okLd at hk
  unfold aLd
  revert h1 hk
  cases deVp (ev e sx) <;> intro hk h1 <;> try exact hk.elim
  · rename_i r i j
    obtain ⟨ob, hob, hi, hj, h1s⟩ := hk
    obtain ⟨hr, hv⟩ := h1.ptr_inv
    obtain ⟨v, hrun, hrel⟩ := load_cells (P := P) (w := w) (g := g) hs hb ⟨g.eta r, g.bo r + i * g.sz r + j, none⟩ ((ob.es.getD i []).drop j) (by simp only [List.length_drop]; omega) h1s ((H.obj r ob hob).cells hi j)
    exact ⟨v, by simp [execOp, ho, Instr.loadAt, hv, Instr.sureAddr, hrun], by simpa [aLd0, hob] using hrel⟩
  · rename_i cs
    obtain ⟨hle, h1s⟩ := hk
    obtain ⟨ad, hv, _, _, hc⟩ := h1.pin_inv
    obtain ⟨v, hrun, hrel⟩ := load_cells (P := P) (w := w) (g := g) hs hb ad cs hle h1s hc
    exact ⟨v, by simp [execOp, ho, Instr.loadAt, hv, Instr.sureAddr, hrun], hrel⟩

/-! ### slices -/
def VO (g : Ghost) (w : World) : Option Value → Option AVal → Prop
  | none, none => True
  | some v, some x => VRel g w v x
  | _, _ => False
theorem evO_sound (E : ERel n e g w a) {x : Option Operand} {sx : Option SX} (hx : toSXO x = some sx) : VO g w (x.map a.eval) (evO e sx) := by
  cases x with
  | none => simp [toSXO] at hx; subst hx; trivial
  | some y =>
    simp only [toSXO, Option.map_eq_some_iff] at hx
    obtain ⟨s, hs, rfl⟩ := hx
    exact ev_sound E hs
theorem run_sliceBound_ok (w : World) {v : Value} {x : AVal} (h : VRel g w v x) (hb : okB (some x)) (y : Nat) (c : BoundsCode) (h0 : 0 ≤ loOf (some x)) (h1 : loOf (some x) ≤ y) :
    (Instr.sliceBound v y c).run P w = .ok (loOf (some x)).toNat w := by
  cases x <;> try exact hb.elim
  rw [h.int_inv]
  exact run_sliceBound (P := P) w _ _ _ _ h0 h1
theorem loOf_hiOf {x : AVal} (hb : okB (some x)) (m : Nat) : hiOf m (some x) = loOf (some x) := by cases x <;> first | rfl | exact hb.elim
theorem run_bounds (w : World) (isS : Bool) (len cap : Nat) {lo hi : Option Value} {la ha : Option AVal} (hl : VO g w lo la) (hh : VO g w hi ha) (bl : okB la) (bh : okB ha)
    (h0 : 0 ≤ loOf la) (h1 : loOf la ≤ hiOf len ha) (h2 : hiOf len ha ≤ cap) :
    (Instr.sliceBounds isS len cap lo hi none).run P w = .ok ((loOf la).toNat, (hiOf len ha).toNat, cap) w := by
  have hhi : ∀ (c : BoundsCode), ∀ v x, hi = some v → ha = some x → (Instr.sliceBound v cap c).run P w = .ok (hiOf len ha).toNat w := by
    intro c v x hv hx
    subst hv hx
    rw [loOf_hiOf bh] at h1 h2 ⊢
    exact run_sliceBound_ok w hh bh cap c (by omega) h2
  have hlo : ∀ (c : BoundsCode), ∀ v x, lo = some v → la = some x → (Instr.sliceBound v (hiOf len ha).toNat c).run P w = .ok (loOf la).toNat w := by
    intro c v x hv hx
    subst hv hx
    exact run_sliceBound_ok w hl bl _ c h0 (by omega)
  cases hi with
  | none =>
    cases ha with
    | some x => exact hh.elim
    | none =>
      cases lo with
      | none =>
        cases la with
        | some x => exact hl.elim
        | none => simp [Instr.sliceBounds, loOf, hiOf]
      | some v =>
        cases la with
        | none => exact hl.elim
        | some x =>
          have := hlo .sliceB v x rfl rfl
          simp only [hiOf, Int.toNat_natCast] at this
          simp [Instr.sliceBounds, this, hiOf]
  | some u =>
    cases ha with
    | none => exact hh.elim
    | some y =>
      have hu := hhi (if isS = true then BoundsCode.sliceAcap else BoundsCode.sliceAlen) u y rfl rfl
      cases lo with
      | none =>
        cases la with
        | some x => exact hl.elim
        | none => simp [Instr.sliceBounds, hu, loOf]
      | some v =>
        cases la with
        | none => exact hl.elim
        | some x =>
          have := hlo .sliceB v x rfl rfl
          simp [Instr.sliceBounds, hu, this]

theorem s_slS {t : TypeId} {x : Operand} {lo hi : Option Operand} {sx : SX} {sl sh : Option SX} (ho : o.op = .slice t x lo hi none) (hu : P.underlying t = some .string)
    (hx : toSX x = some sx) (hl : toSXO lo = some sl) (hh : toSXO hi = some sh) (E : ERel n e g w a) (hk : okSlS (ev e sx) (evO e sl) (evO e sh)) : StepV P o a w g (aSlS (ev e sx) (evO e sl) (evO e sh)) := by
  have h1 := ev_sound E hx
  have h2 := evO_sound E hl
  have h3 := evO_sound E hh
  revert h1 hk
  cases ev e sx <;> intro hk h1 <;> try exact hk.elim
  rename_i l
  obtain ⟨s, hv, rfl⟩ := h1.str_inv
  obtain ⟨bl, bh, h0, hlh, hhl⟩ := hk
  rw [← size_of_toList] at hlh hhl
  have hr := run_bounds (P := P) w false s.size s.size h2 h3 bl bh h0 hlh hhl
  refine ⟨.string (s.extract (loOf (evO e sl)).toNat (hiOf s.size (evO e sh)).toNat), ?_, ?_⟩
  · simp [execOp, ho, Instr.sliceAt, Instr.slice, run_underlying hu, hv, hr]
  · have hd : (s.extract (loOf (evO e sl)).toNat (hiOf s.size (evO e sh)).toNat).data.toList = (s.data.toList.take (hiOf s.data.toList.length (evO e sh)).toNat).drop (loOf (evO e sl)).toNat := by
      rw [← size_of_toList]
      simp [ByteArray.data_extract, List.drop_take]
    simp only [aSlS, ← hd]
    exact .str _

theorem s_slA {t el : TypeId} {s : Nat} {x : Operand} {lo hi : Option Operand} {sx : SX} {sl sh : Option SX} (ho : o.op = .slice t x lo hi none) (hu : P.underlying t = some (.slice el)) (hs : szT P el = some s)
    (hx : toSX x = some sx) (hl : toSXO lo = some sl) (hh : toSXO hi = some sh) (E : ERel n e g w a) (hk : okSlA s (ev e sx) (evO e sl) (evO e sh)) : StepV P o a w g (aSlA (ev e sx) (evO e sl) (evO e sh)) := by
  have h1 := ev_sound E hx
  have h2 := evO_sound E hl
  have h3 := evO_sound E hh
  have run : ∀ (A : Option Addr) (len cap : Nat), a.eval x = .slice A len cap → okB (evO e sl) → okB (evO e sh) → 0 ≤ loOf (evO e sl) → loOf (evO e sl) ≤ hiOf len (evO e sh) → hiOf len (evO e sh) ≤ cap →
      (execOp a.eval o).run P w = .ok (.value (.slice (if cap = (loOf (evO e sl)).toNat then A else A.map (·.add ((loOf (evO e sl)).toNat * s))) ((hiOf len (evO e sh)).toNat - (loOf (evO e sl)).toNat) (cap - (loOf (evO e sl)).toNat))) w := by
    intro A len cap hv bl bh h0 hlh hhl
    have hr := run_bounds (P := P) w true len cap h2 h3 bl bh h0 hlh hhl
    simp [execOp, ho, Instr.sliceAt, Instr.slice, run_underlying hu, hv, hr, run_sizeOf' hs]
  revert h1 hk
  cases ev e sx <;> intro hk h1 <;> try exact hk.elim
  · rename_i es
    obtain ⟨bl, bh, h0, hlh, hhl, hsz⟩ := hk
    obtain ⟨A, c, hv, hin⟩ := h1.slc_inv
    by_cases hpos : 0 < es.length
    · obtain ⟨hec, ad, sz, rfl, hsp, hfz, hszs, hc⟩ := hin hpos
      have hss : sz = s := by
        obtain ⟨x0, hx0⟩ : ∃ x0, x0 ∈ es := List.exists_mem_of_length_pos hpos
        exact (hszs _ hx0).symm.trans (hsz _ hx0)
      subst hss
      have hrun := run _ _ _ hv bl bh h0 hlh (by omega)
      refine ⟨_, hrun, ?_⟩
      simp only [aSlA]
      by_cases hz : (hiOf es.length (evO e sh)).toNat - (loOf (evO e sl)).toNat = 0
      · have hnil : (es.take (hiOf es.length (evO e sh)).toNat).drop (loOf (evO e sl)).toNat = [] := by
          apply List.drop_eq_nil_of_le; simp; omega
        rw [hnil, hz]
        exact .slc0 _ _
      · have hne : c ≠ (loOf (evO e sl)).toNat := by omega
        rw [if_neg hne]
        have hlen : ((es.take (hiOf es.length (evO e sh)).toNat).drop (loOf (evO e sl)).toNat).length = (hiOf es.length (evO e sh)).toNat - (loOf (evO e sl)).toNat := by
          simp; omega
        rw [← hlen]
        refine .slc_mk (sz := sz) (by rw [hlen]; omega) (fun x hx => hsz x (List.mem_of_mem_take (List.mem_of_mem_drop hx))) ?_ ?_ fun i j el x hi hj => ?_
        · unfold Addr.add; split <;> simp [hsp]
        · rw [Addr.block_add]; exact hfz
        · rw [Addr.add_add']
          rw [List.getElem?_drop, List.getElem?_take] at hi
          split at hi
          · obtain ⟨u, hu, r1, r2⟩ := hc _ _ _ _ hi hj
            refine ⟨u, ?_, r1, r2⟩
            rw [← hu]; congr 2; rw [Nat.add_mul]; omega
          · cases hi
    · have hnil : es = [] := List.eq_nil_of_length_eq_zero (by omega)
      subst hnil
      simp only [List.length_nil] at hlh hhl hv
      refine ⟨_, run _ _ _ hv bl bh h0 hlh (by omega), ?_⟩
      have hz : (hiOf 0 (evO e sh)).toNat - (loOf (evO e sl)).toNat = 0 := by omega
      rw [hz]
      simp only [aSlA, List.take_nil, List.drop_nil]
      exact .slc0 _ _
  · obtain ⟨bl, bh, h0, hhi⟩ := hk
    obtain ⟨A, hv, hsp⟩ := h1.emp_inv
    refine ⟨_, run _ _ _ hv bl bh (by omega) (by omega) (by omega), ?_⟩
    simp only [h0, hhi, Int.toNat_zero, if_true, Nat.sub_zero, aSlA]
    rw [hv] at h1; exact h1
  · rename_i r sz i m
    obtain ⟨rfl, bl, bh, h0, hlh, hhl⟩ := hk
    obtain ⟨hr, hsz, hc⟩ := h1.osl_inv
    rcases hc with ⟨hv, rfl, rfl, hcap⟩ | ⟨cap, off, hv, hnc, hm, hi, hoff⟩
    · refine ⟨_, run _ _ _ hv bl bh h0 hlh (by omega), ?_⟩
      have e1 : (loOf (evO e sl)).toNat = 0 := by omega
      have e2 : (hiOf 0 (evO e sh)).toNat = 0 := by omega
      simp only [aSlA, e1, e2, Nat.sub_zero, Nat.add_zero, if_true]
      exact .osl0 r sz hr hcap hsz
    · refine ⟨_, run _ _ _ hv bl bh h0 hlh (by omega), ?_⟩
      simp only [aSlA]
      by_cases hcl : cap = (loOf (evO e sl)).toNat
      · rw [if_pos hcl]
        exact .osl r sz _ _ _ off hr hsz (by omega) (by omega) (by omega) (fun h => by omega)
      · rw [if_neg hcl]
        simp only [Option.map_some, Addr.add_lit]
        exact .osl r sz _ _ _ _ hr hsz (by omega) (by omega) (by omega) (fun h => by rw [hoff (by omega), Nat.add_mul]; omega)

theorem run_bounds_mx (w : World) (len cap : Nat) {lo hi mx : Option Value} {la ha ma : Option AVal} (hl : VO g w lo la) (hh : VO g w hi ha) (hm : VO g w mx ma) (bl : okB la) (bh : okB ha) (bm : okB ma)
    (hhs : hi.isSome = true) (hms : mx.isSome = true) (h0 : 0 ≤ loOf la) (h1 : loOf la ≤ hiOf len ha) (h2 : hiOf len ha ≤ hiOf len ma) (h3 : hiOf len ma ≤ cap) :
    ∃ r, (Instr.sliceBounds true len cap lo hi mx).run P w = .ok r w := by
  cases hi with
  | none => cases hhs
  | some u =>
  cases mx with
  | none => cases hms
  | some m =>
  cases ha with
  | none => exact hh.elim
  | some y =>
  cases ma with
  | none => exact hm.elim
  | some z =>
  rw [loOf_hiOf bh] at h1 h2
  rw [loOf_hiOf bm] at h2 h3
  have r1 := run_sliceBound_ok (P := P) w hm bm cap .slice3Acap (by omega) h3
  have r2 := run_sliceBound_ok (P := P) w hh bh (loOf (some z)).toNat .slice3B (by omega) (by omega)
  cases lo with
  | none =>
    cases la with
    | some x => exact hl.elim
    | none => exact ⟨_, by simp [Instr.sliceBounds, r1, r2]; rfl⟩
  | some v =>
    cases la with
    | none => exact hl.elim
    | some x =>
      have r3 := run_sliceBound_ok (P := P) w hl bl (loOf (some y)).toNat .slice3C h0 (by omega)
      exact ⟨_, by simp [Instr.sliceBounds, r1, r2, r3]; rfl⟩
theorem s_slM {t el : TypeId} {s : Nat} {x : Operand} {lo hi mx : Option Operand} {sx : SX} {sl sh sm : Option SX} (ho : o.op = .slice t x lo hi mx) (hu : P.underlying t = some (.slice el)) (hs : szT P el = some s)
    (hx : toSX x = some sx) (hl : toSXO lo = some sl) (hh : toSXO hi = some sh) (hm : toSXO mx = some sm) (hhs : hi.isSome = true) (hms : mx.isSome = true) (E : ERel n e g w a)
    (hk : okSlM (ev e sx) (evO e sl) (evO e sh) (evO e sm)) : StepV P o a w g .dead := by
  have h1 := ev_sound E hx
  have h2 := evO_sound E hl
  have h3 := evO_sound E hh
  have h4 := evO_sound E hm
  have key : ∃ A c, a.eval x = .slice A (nOf (ev e sx)) c ∧ nOf (ev e sx) ≤ c ∨ (∃ A c, a.eval x = .slice A 0 c ∧ nOf (ev e sx) = 0) := by
    obtain ⟨hk, _⟩ := hk
    revert h1 hk
    cases ev e sx <;> intro h1 hk <;> try exact hk.elim
    · rename_i es
      obtain ⟨A, c, hv, hin⟩ := h1.slc_inv
      by_cases hp : 0 < es.length
      · exact ⟨A, c, .inl ⟨hv, (hin hp).1⟩⟩
      · have hnil : es = [] := List.eq_nil_of_length_eq_zero (by omega)
        subst hnil
        exact ⟨none, 0, .inr ⟨A, c, hv, rfl⟩⟩
    · obtain ⟨A, hv, _⟩ := h1.emp_inv
      exact ⟨none, 0, .inr ⟨A, 0, hv, rfl⟩⟩
    · obtain ⟨_, _, hc⟩ := h1.osl_inv
      rcases hc with ⟨hv, _, rfl, _⟩ | ⟨cap, off, hv, hnc, _⟩
      · exact ⟨none, 0, .inr ⟨_, _, hv, rfl⟩⟩
      · exact ⟨_, _, .inl ⟨hv, hnc⟩⟩
  obtain ⟨_, bl, bh, bm, h0, hlh, hhm, hmn⟩ := hk
  obtain ⟨A, c, ⟨hv, hc⟩ | ⟨A, c, hv, hz⟩⟩ := key
  · obtain ⟨⟨l, h', m⟩, hr⟩ := run_bounds_mx (P := P) w (nOf (ev e sx)) c h2 h3 h4 bl bh bm (by cases hi <;> simp_all) (by cases mx <;> simp_all) h0 hlh hhm (by omega)
    exact ⟨_, by simp [execOp, ho, Instr.sliceAt, Instr.slice, run_underlying hu, hv, hr, run_sizeOf' hs]; rfl, .dead _⟩
  · rw [hz] at hlh hhm hmn
    obtain ⟨⟨l, h', m⟩, hr⟩ := run_bounds_mx (P := P) w 0 c h2 h3 h4 bl bh bm (by cases hi <;> simp_all) (by cases mx <;> simp_all) h0 hlh hhm (by omega)
    exact ⟨_, by simp [execOp, ho, Instr.sliceAt, Instr.slice, run_underlying hu, hv, hr, run_sizeOf' hs]; rfl, .dead _⟩

theorem VRel.tup_inv {v : Value} {as : List AVal} (h : VRel g w v (.tup as)) : ∃ vs : Array Value, v = .tuple vs ∧ vs.size = as.length ∧ ∀ (j : Nat) (u : Value) (x : AVal), vs[j]? = some u → as[j]? = some x → VRel g w u x := by
  cases h; exact ⟨_, rfl, by assumption, by assumption⟩
theorem s_ext {x : Operand} {i : Nat} {sx : SX} (ho : o.op = .extract x i) (hx : toSX x = some sx) (E : ERel n e g w a) (hk : okExt i (ev e sx)) : StepV P o a w g (aExt i (ev e sx)) := by
  have h1 := ev_sound E hx
  revert h1 hk
  cases ev e sx <;> intro hk h1 <;> try exact hk.elim
  rename_i as
  obtain ⟨vs, hv, hl, hh⟩ := h1.tup_inv
  have hlt : i < vs.size := by rw [hl]; exact hk
  refine ⟨vs[i], ?_, hh i _ _ (Array.getElem?_eq_getElem hlt) (getD_getElem? as i .dead hk)⟩
  simp [execOp, ho, Instr.extract, hv, hlt]

theorem s_lenS {x : Operand} {sx : SX} {t : TypeId} {c : Call} (ho : o.op = .call c) (hc : c.callee = .builtin .len) (ha : c.args.toList = [x]) (ht : c.argTypes.toList = [t])
    (hu : P.underlying t = some .string) (hx : toSX x = some sx) (E : ERel n e g w a) (hk : okLenS (ev e sx)) : StepV P o a w g (aLenS (ev e sx)) := by
  have h1 := ev_sound E hx
  obtain ⟨cal, ar, at'⟩ := c
  simp only at hc ha ht
  subst hc
  obtain rfl : ar = #[x] := by apply Array.ext'; simpa using ha
  obtain rfl : at' = #[t] := by apply Array.ext'; simpa using ht
  have run : ∀ (v : Value) , (Builtin.len_ #[t] o.type #[a.eval x]).run P w = .ok v w → (execOp a.eval o).run P w = .ok (.value v) w := by
    intro v hv
    simp [execOp, ho, resolve, invoke, builtin, hv]
  revert h1 hk
  cases ev e sx <;> intro hk h1 <;> try exact hk.elim
  obtain ⟨s, hv, rfl⟩ := h1.str_inv
  refine ⟨_, run _ (by simp [Builtin.len_, run_underlying hu, hv]; rfl), ?_⟩
  simp only [aLenS, aInt, goInt, size_of_toList]
  exact .int _ _
theorem s_len {x : Operand} {sx : SX} {t el : TypeId} {c : Call} (ho : o.op = .call c) (hc : c.callee = .builtin .len) (ha : c.args.toList = [x]) (ht : c.argTypes.toList = [t])
    (hu : P.underlying t = some (.slice el)) (hx : toSX x = some sx) (E : ERel n e g w a) (hk : okLen (ev e sx)) : StepV P o a w g (aLen (ev e sx)) := by
  have h1 := ev_sound E hx
  obtain ⟨cal, ar, at'⟩ := c
  simp only at hc ha ht
  subst hc
  obtain rfl : ar = #[x] := by apply Array.ext'; simpa using ha
  obtain rfl : at' = #[t] := by apply Array.ext'; simpa using ht
  have run : ∀ (v : Value) , (Builtin.len_ #[t] o.type #[a.eval x]).run P w = .ok v w → (execOp a.eval o).run P w = .ok (.value v) w := by
    intro v hv
    simp [execOp, ho, resolve, invoke, builtin, hv]
  revert h1 hk
  cases ev e sx <;> intro hk h1 <;> try exact hk.elim
  · obtain ⟨A, c, hv, _⟩ := h1.slc_inv
    exact ⟨_, run _ (by simp [Builtin.len_, run_underlying hu, hv]; rfl), .int _ _⟩
  · obtain ⟨A, hv, _⟩ := h1.emp_inv
    exact ⟨_, run _ (by simp [Builtin.len_, run_underlying hu, hv]; rfl), .int _ _⟩
  · obtain ⟨_, _, hc⟩ := h1.osl_inv
    rcases hc with ⟨hv, _, rfl, _⟩ | ⟨cap, off, hv, _⟩
    · exact ⟨_, run _ (by simp [Builtin.len_, run_underlying hu, hv]; rfl), .int _ _⟩
    · exact ⟨_, run _ (by simp [Builtin.len_, run_underlying hu, hv]; rfl), .int _ _⟩

theorem s_min2 {x y : Operand} {sx sy : SX} {c : Call} (ho : o.op = .call c) (hc : c.callee = .builtin .min) (ha : c.args.toList = [x, y]) 
    (hx : toSX x = some sx) (hy : toSX y = some sy) (E : ERel n e g w a) (hk : ok2i (ev e sx) (ev e sy)) : StepV P o a w g (aMin (ev e sx) (ev e sy)) := by
  have h1 := ev_sound E hx
  have h2 := ev_sound E hy
  obtain ⟨cal, ar, at'⟩ := c
  simp only at hc ha
  subst hc
  obtain rfl : ar = #[x, y] := by apply Array.ext'; simpa using ha
  revert h1 h2 hk
  cases ev e sx <;> cases ev e sy <;> intro hk h1 h2 <;> try exact hk.elim
  rename_i k p k' q
  refine ⟨.int k (min p q), ?_, .int _ _⟩
  have hm : (if q < p then q else p) = min p q := by omega
  simp [execOp, ho, resolve, invoke, builtin, Builtin.min_, Builtin.min2, h1.int_inv, h2.int_inv, hm]
theorem s_max2 {x y : Operand} {sx sy : SX} {c : Call} (ho : o.op = .call c) (hc : c.callee = .builtin .max) (ha : c.args.toList = [x, y]) 
    (hx : toSX x = some sx) (hy : toSX y = some sy) (E : ERel n e g w a) (hk : ok2i (ev e sx) (ev e sy)) : StepV P o a w g (aMax (ev e sx) (ev e sy)) := by
  have h1 := ev_sound E hx
  have h2 := ev_sound E hy
  obtain ⟨cal, ar, at'⟩ := c
  simp only at hc ha
  subst hc
  obtain rfl : ar = #[x, y] := by apply Array.ext'; simpa using ha
  revert h1 h2 hk
  cases ev e sx <;> cases ev e sy <;> intro hk h1 h2 <;> try exact hk.elim
  rename_i k p k' q
  refine ⟨.int k (max p q), ?_, .int _ _⟩
  have hm : (if p < q then q else p) = max p q := by omega
  simp [execOp, ho, resolve, invoke, builtin, Builtin.max_, Builtin.max2, h1.int_inv, h2.int_inv, hm]

theorem evs_sound (E : ERel n e g w a) : ∀ {xs : List Operand} {ss : List SX}, toSXs xs = some ss → xs.length = ss.length ∧ ∀ (j : Nat) (x : Operand) (s : SX), xs[j]? = some x → ss[j]? = some s → VRel g w (a.eval x) (ev e s)
  | [], ss, h => by simp [toSXs] at h; subst h; exact ⟨rfl, by simp⟩
  | x :: r, ss, h => by
    simp only [toSXs] at h
    split at h
    · rename_i s0 ss0 h0 hr
      simp at h; subst h
      obtain ⟨hl, hh⟩ := evs_sound E hr
      refine ⟨by simp [hl], fun j x' s' hx' hs' => ?_⟩
      cases j with
      | zero => simp at hx' hs'; subst hx' hs'; exact ev_sound E h0
      | succ j => simp at hx' hs'; exact hh j x' s' hx' hs'
    · cases h
theorem evs_rel (E : ERel n e g w a) {xs : Array Operand} {ss : List SX} (h : toSXs xs.toList = some ss) : VRelL g w (xs.map a.eval) (ss.map (ev e)) := by
  obtain ⟨hl, hh⟩ := evs_sound E h
  refine ⟨by simp [← hl], fun j u x hu hx => ?_⟩
  simp only [Array.getElem?_map, Option.map_eq_some_iff, List.getElem?_map] at hu hx
  obtain ⟨y, hy, rfl⟩ := hu
  obtain ⟨s, hs, rfl⟩ := hx
  exact hh j y s (by simpa using hy) hs
theorem s_mkf {f : Nat} {first captured : Array Operand} {sf sc : List SX} (ho : o.op = .makeFunc (.func f) first captured) (hf : toSXs first.toList = some sf) (hc : toSXs captured.toList = some sc) (E : ERel n e g w a) :
    StepV P o a w g (.fn f (sf.map (ev e)) (sc.map (ev e))) := by
  have h1 := evs_rel E hf
  have h2 := evs_rel E hc
  exact ⟨_, by simp [execOp, ho, Instr.makeFunc], .fn f _ _ _ _ h1.1 h2.1 h1.2 h2.2⟩

/-! ### structs of scalars, compared -/
theorem eqFields_run (d : Nat) (as bs : List AVal) (xs ys : Array Value) (hx : ∀ (j : Nat) (u : Value) (c : AVal), xs[j]? = some u → as[j]? = some c → VRel g w u c) (hy : ∀ (j : Nat) (u : Value) (c : AVal), ys[j]? = some u → bs[j]? = some c → VRel g w u c)
    (lx : xs.size = as.length) (ly : ys.size = bs.length) : ∀ (fs : List Field) (k : Nat) (ks : List Nat), scalKs P k fs = some ks → okEqCells ks (as.drop k) (bs.drop k) →
    (Op.eqFields (d + 1) xs ys fs).run P w = .ok (eqCells (as.drop k) (bs.drop k)) w
  | [], k, ks, h, hk => by
    simp [scalKs] at h; subst h
    revert hk
    cases as.drop k <;> cases bs.drop k <;> intro hk <;> first | exact hk.elim | simp [Op.eqFields, eqCells]
  | f :: fs, k, ks, h, hk => by
    simp only [scalKs] at h
    split at h
    · rename_i hc
      obtain ⟨hoff, hname⟩ := hc
      simp only [Option.bind_eq_some_iff, Option.map_eq_some_iff] at h
      obtain ⟨x, hx0, ks', hks, rfl⟩ := h
      have hka : k < as.length := by
        rcases Nat.lt_or_ge k as.length with h | h
        · exact h
        · rw [List.drop_eq_nil_of_le h] at hk
          cases x with
          | zero => exact hk.elim
          | succ x => cases x with
            | zero => exact hk.elim
            | succ x => cases x <;> exact hk.elim
      have hkb : k < bs.length := by
        rcases Nat.lt_or_ge k bs.length with h | h
        · exact h
        · rw [List.drop_eq_nil_of_le h, List.drop_eq_getElem_cons hka] at hk
          revert hk
          cases as[k] <;> intro hk <;> (cases x with
          | zero => exact hk.elim
          | succ x => cases x with
            | zero => exact hk.elim
            | succ x => cases x <;> exact hk.elim)
      have hxk := hx k _ _ (Array.getElem?_eq_getElem (by omega : k < xs.size)) (List.getElem?_eq_getElem hka)
      have hyk := hy k _ _ (Array.getElem?_eq_getElem (by omega : k < ys.size)) (List.getElem?_eq_getElem hkb)
      rw [List.drop_eq_getElem_cons hka, List.drop_eq_getElem_cons hkb] at hk ⊢
      have ih := eqFields_run d as bs xs ys hx hy lx ly fs (k + 1) ks' hks
      have hagg : aggT P f.type = some false := by
        unfold scalK at hx0
        unfold aggT
        revert hx0
        cases P.underlying f.type with
        | none => intro h; cases h
        | some dd => cases dd <;> intro h <;> first | rfl | cases h
      have px : (part f.type xs f.offset).run P w = .ok xs[k] w := by simp [part, run_isAgg' hagg, hoff, (by omega : k < xs.size)]
      have py : (part f.type ys f.offset).run P w = .ok ys[k] w := by simp [part, run_isAgg' hagg, hoff, (by omega : k < ys.size)]
      have fin : ∀ r : Bool, (Op.equalIn (d + 1) f.type xs[k] ys[k]).run P w = .ok r w → okEqCells ks' (as.drop (k + 1)) (bs.drop (k + 1)) → (Op.eqFields (d + 1) xs ys (f :: fs)).run P w = .ok (r && eqCells (as.drop (k + 1)) (bs.drop (k + 1))) w := by
        intro r hr hk'
        cases r <;> simp [Op.eqFields, hname, px, py, hr, ih hk']
      unfold scalK at hx0
      revert hk hxk hyk hx0
      cases hA : as[k] <;> cases hB : bs[k] <;> intro hx0 hk hxk hyk <;> (try (cases x with
          | zero => exact hk.elim
          | succ x => cases x with
            | zero => exact hk.elim
            | succ x => cases x <;> exact hk.elim))
      · rename_i k1 n1 k2 n2
        cases x with
        | succ x => cases x with
          | zero => exact hk.elim
          | succ x => cases x <;> exact hk.elim
        | zero =>
          split at hx0 <;> simp at hx0
          rename_i kk hu
          obtain ⟨rfl, hk⟩ := hk
          rw [hxk.int_inv, hyk.int_inv] at fin
          exact fin _ (run_equalIn_int (P := P) w d f.type k1 kk n1 n2 hu) hk
      · rename_i b1 b2
        cases x with
        | zero => exact hk.elim
        | succ x => cases x with
          | zero => exact hk.elim
          | succ x => cases x with
            | succ x => exact hk.elim
            | zero =>
              split at hx0 <;> simp at hx0
              rename_i hu
              rw [hxk.bool_inv, hyk.bool_inv] at fin
              exact fin _ (run_equalIn_bool' (P := P) w d f.type b1 b2 hu) hk
      · rename_i l1 l2
        cases x with
        | zero => exact hk.elim
        | succ x => cases x with
          | succ x => cases x <;> exact hk.elim
          | zero =>
            split at hx0 <;> simp at hx0
            rename_i hu
            obtain ⟨s1, hs1, rfl⟩ := hxk.str_inv
            obtain ⟨s2, hs2, rfl⟩ := hyk.str_inv
            rw [hs1, hs2] at fin
            have hq := run_equalIn_string (P := P) w d f.type s1 s2 hu
            rw [ByteArray.toList_eq, ByteArray.toList_eq] at hq
            exact fin _ hq hk
    · cases h

theorem s_eqs {op : BinOp} {t t' : TypeId} {x y : Operand} {sx sy : SX} {neg : Bool} {ks : List Nat} (ho : o.op = .binOp op t x y t') (ht : eqTy P t = some ks) (hop : op = .eql ∧ neg = false ∨ op = .neq ∧ neg = true)
    (hx : toSX x = some sx) (hy : toSX y = some sy) (E : ERel n e g w a)
    (hk : okEqs ks (ev e sx) (ev e sy)) : StepV P o a w g (aEqs neg (ev e sx) (ev e sy)) := by
  have h1 := ev_sound E hx
  have h2 := ev_sound E hy
  unfold eqTy at ht
  split at ht
  · rename_i fs hu
    split at ht
    · rename_i hc
      obtain ⟨hst, hgt⟩ := hc
      revert h1 h2 hk
      cases ev e sx <;> cases ev e sy <;> intro hk h1 h2 <;> try exact hk.elim
      rename_i as bs
      obtain ⟨xs, hxv, lx, _, rx⟩ := h1.agg_inv
      obtain ⟨ys, hyv, ly, _, ry⟩ := h2.agg_inv
      have hf : P.fieldsOf t = fs := by simp [Program.fieldsOf, hu]
      have hu' : P.underlying t = some (.struct (P.fieldsOf t)) := by rw [hf]; exact hu
      have hr := eqFields_run (P := P) 9998 as bs xs ys rx ry lx ly fs.toList 0 ks ht (by simpa [okEqs] using hk)
      have hq := run_equalIn_agg (P := P) w 9999 t xs ys hu' hst
      rw [hf] at hq
      simp only [Nat.reduceAdd, List.drop_zero] at hr hq
      rw [hr] at hq
      have hg := run_eqGuard_agg (P := P) w op t x y xs ys hgt
      rcases hop with ⟨rfl, rfl⟩ | ⟨rfl, rfl⟩
      · refine ⟨.bool (eqCells as bs), ?_, ?_⟩
        · simp [execOp, ho, hxv, hyv, hg, run_eql_struct, hq]
        · simp only [aEqs, Bool.false_bne]; exact .bool _
      · refine ⟨.bool (!eqCells as bs), ?_, ?_⟩
        · simp [execOp, ho, hxv, hyv, hg, run_neq_struct, hq]
        · simp only [aEqs, Bool.true_xor]; exact .bool _
    · cases ht
  · cases ht
end
end Go.Sim
