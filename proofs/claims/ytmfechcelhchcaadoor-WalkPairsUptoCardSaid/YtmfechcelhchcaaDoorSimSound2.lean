/- The operations that build or write memory are sound. -/
import Derived.Test.YtmfechcelhchcaaDoorSimSound
import Derived.Great.FillDense
import Derived.Laws.MakeOwn
import Derived.Great.BuildSlice
namespace Go.Sim
open Go

/-- A value's cells, one by one. -/
def CRel (g : Ghost) (w : World) (cs : Array Value) (as : List AVal) : Prop :=
  cs.size = as.length ∧ (∀ (j : Nat) (u : Value), cs[j]? = some u → u.oneCell' = true) ∧ ∀ (j : Nat) (u : Value) (x : AVal), cs[j]? = some u → as[j]? = some x → VRel g w u x

section
variable {P : Program} {o : Oper} {a : Act} {w : World} {g : Ghost} {h : Heap} {n : Nat} {e : Env}

theorem cells_one {v : Value} (h : v.oneCell' = true) : v.cells = #[v] := by
  cases v <;> first | rfl | cases h
theorem CRel.one {v : Value} {x : AVal} (h : VRel g w v x) (h1 : v.oneCell' = true) : CRel g w v.cells [x] := by
  rw [cells_one h1]
  refine ⟨rfl, fun j u hu => ?_, fun j u y hu hy => ?_⟩
  · cases j with
    | zero => simp at hu; subst hu; exact h1
    | succ j => simp at hu
  · cases j with
    | zero => simp at hu hy; subst hu hy; exact h
    | succ j => simp at hu
theorem CRel.of {v : Value} {x : AVal} (h : VRel g w v x) (hv : isV x = true) : CRel g w v.cells (cellsOf x) := by
  cases h with
  | agg vs cs hl h1 hh => exact ⟨hl, h1, hh⟩
  | prim v => exact CRel.one (.prim v) hv
  | tup => cases hv
  | dead => cases hv
  | int k n => exact CRel.one (.int k n) rfl
  | bool b => exact CRel.one (.bool b) rfl
  | str s => exact CRel.one (.str s) rfl
  | slc0 A c => exact CRel.one (.slc0 A c) rfl
  | slc ad n c sz es us hn hc hsz hs hf h1 h2 h3 => exact CRel.one (.slc ad n c sz es us hn hc hsz hs hf h1 h2 h3) rfl
  | emp0 => exact CRel.one .emp0 rfl
  | empS ad hs hf hc => exact CRel.one (.empS ad hs hf hc) rfl
  | osl0 r sz hr hc hz => exact CRel.one (.osl0 r sz hr hc hz) rfl
  | osl r sz i n cap off hr hz hc hm hi ho => exact CRel.one (.osl r sz i n cap off hr hz hc hm hi ho) rfl
  | ptr r i j hr => exact CRel.one (.ptr r i j hr) rfl
  | vp r j hr hb hc => exact CRel.one (.vp r j hr hb hc) rfl
  | anyp q => exact CRel.one (.anyp q) rfl
  | pin ad cs us hs hf h1 h2 h3 => exact CRel.one (.pin ad cs us hs hf h1 h2 h3) rfl
  | fn f fs cs as bs hf hc h1 h2 => exact CRel.one (.fn f fs cs as bs hf hc h1 h2) rfl
theorem CRel.step {g' : Ghost} {w' : World} (hs : GS g w g' w') {cs : Array Value} {as : List AVal} (h : CRel g w cs as) : CRel g' w' cs as :=
  ⟨h.1, h.2.1, fun j u x hu hx => (h.2.2 j u x hu hx).step hs⟩

theorem zeroT_out {t : TypeId} {z : List AVal} (hz : zeroT P t = some z) : ∃ i zv, P.info? t = some i ∧ i.zero = some zv ∧ CRel g w zv.cells z := by
  simp only [zeroT, Option.bind_eq_some_iff] at hz
  obtain ⟨i, hi, zv, hzv, hc⟩ := hz
  split at hc
  · rename_i hok
    simp at hc
    subst hc
    refine ⟨i, zv, hi, hzv, by simp, fun j u hu => ?_, fun j u x hu hx => ?_⟩
    · have : ∀ x ∈ zv.cells.toList, x.oneCell' = true := by
        cases zv with
        | agg cs => simp only [constOK, List.all_eq_true] at hok; exact hok
        | _ => intro x hx; simp [Value.cells] at hx; subst hx; exact hok
      exact this u (Array.mem_toList_iff.2 (Array.mem_of_getElem? hu))
    · rw [List.getElem?_map, Array.getElem?_toList, hu] at hx
      simp at hx; subst hx
      exact .ofV1 g w u
  · cases hc

theorem fill_step (place : Nat → Option (Nat × Nat)) (cells : Array Value) (i off size : Nat) (v : Value) (r : List (Nat × Value)) (hp : place i = some (off, size)) (hv : v.cells.size = size) (hle : off + size ≤ cells.size) :
    ∃ cells', Instr.fill place cells ((i, v) :: r) = Instr.fill place cells' r ∧ cells'.size = cells.size ∧ ∀ k, cells'[k]? = if off ≤ k ∧ k < off + size then v.cells[k - off]? else cells[k]? := by
  obtain ⟨g1, g2⟩ := Go.Great.foldl_set off v.cells.toList 0 cells
  refine ⟨_, ?_, g1, fun k => ?_⟩
  · conv => lhs; unfold Instr.fill
    simp only [hp, hv]
    rw [if_neg (by simp; omega)]
    congr 1
    rw [← Array.foldl_toList, Array.toList_zipIdx]
  · rw [g2 k]
    simp only [Nat.add_zero, Array.length_toList, hv, Array.getElem?_toList]
    by_cases hk : off ≤ k ∧ k < off + size
    · rw [if_pos hk, if_pos (by omega)]
    · rw [if_neg hk, if_neg (by omega)]

theorem CRel.splice {cells cells' : Array Value} {as bs : List AVal} {v : Array Value} {off size : Nat} (hc : CRel g w cells as) (hv : CRel g w v bs) (hb : bs.length = size) (hle : off + size ≤ as.length)
    (hs : cells'.size = cells.size) (hk : ∀ k, cells'[k]? = if off ≤ k ∧ k < off + size then v[k - off]? else cells[k]?) : CRel g w cells' (as.take off ++ bs ++ as.drop (off + size)) := by
  refine ⟨?_, fun j u hu => ?_, fun j u x hu hx => ?_⟩
  · rw [hs, hc.1]; simp; omega
  · rw [hk] at hu
    split at hu
    · exact hv.2.1 _ _ hu
    · exact hc.2.1 _ _ hu
  · rw [hk] at hu
    rw [List.append_assoc, List.getElem?_append] at hx
    simp only [List.length_take] at hx
    split at hu
    · rename_i hin
      rw [if_neg (by omega), List.getElem?_append_left (by omega)] at hx
      rw [show j - min off as.length = j - off by omega] at hx
      exact hv.2.2 _ _ _ hu hx
    · rename_i hout
      split at hx
      · rw [List.getElem?_take, if_pos (by omega)] at hx
        exact hc.2.2 _ _ _ hu hx
      · rw [List.getElem?_append_right (by omega), List.getElem?_drop] at hx
        rw [show off + size + (j - min off as.length - bs.length) = j by omega] at hx
        exact hc.2.2 _ _ _ hu hx

theorem mapM_get {fs : List Field} {places : List (Nat × Nat)} (hm : fs.mapM (fun f => (P.info? f.type).map fun i => (f.offset, i.size)) = some places) :
    ∀ (i : Nat) (f : Field) (s : Nat), fs[i]? = some f → szT P f.type = some s → places[i]? = some (f.offset, s) := by
  induction fs generalizing places with
  | nil => intro i f s hi; simp at hi
  | cons f0 fs ih =>
    intro i f s hi hs
    simp only [List.mapM_cons, Option.bind_eq_bind, Option.pure_def, Option.bind_eq_some_iff, Option.map_eq_some_iff, Option.some.injEq] at hm
    obtain ⟨p, ⟨inf, hinf, rfl⟩, ps, hps, rfl⟩ := hm
    cases i with
    | zero =>
      simp at hi; subst hi
      obtain ⟨i', hi', rfl⟩ := szT_out hs
      rw [hinf] at hi'; cases hi'
      simp
    | succ i => simp at hi ⊢; exact ih hps i f s hi hs

theorem fill_parts (place : Nat → Option (Nat × Nat)) (fs : Array Field) (hplace : ∀ (i : Nat) (f : Field) (s : Nat), fs[i]? = some f → szT P f.type = some s → place i = some (f.offset, s)) (E : ERel n e g w a) :
    ∀ (ps : List (Nat × Operand)) (qs : List (Nat × Nat × SX)) (cells : Array Value) (as : List AVal), toParts P fs ps = some qs → CRel g w cells as → okFill as.length (qs.map fun p => (p.1, p.2.1, ev e p.2.2)) →
    ∃ r, Instr.fill place cells (ps.map fun (i, x) => (i, a.eval x)) = some r ∧ CRel g w r (fillA as (qs.map fun p => (p.1, p.2.1, ev e p.2.2)))
  | [], qs, cells, as, hq, hc, _ => by
    simp [toParts] at hq; subst hq
    exact ⟨cells, by simp [Instr.fill], by simpa [fillA] using hc⟩
  | (i, x) :: ps, qs, cells, as, hq, hc, hok => by
    simp only [toParts, Option.bind_eq_some_iff, Option.map_eq_some_iff] at hq
    obtain ⟨f, hf, s, hs, sx, hx, qs', hqs, rfl⟩ := hq
    simp only [List.map_cons, okFill] at hok
    obtain ⟨hv, hl, hle, hok⟩ := hok
    have hv' := CRel.of (ev_sound E hx) hv
    obtain ⟨cells', hfill, hsz, hk⟩ := fill_step place cells i f.offset s (a.eval x) (ps.map fun (i, x) => (i, a.eval x)) (hplace i f s hf hs) (by rw [hv'.1, hl]) (by rw [hc.1]; exact hle)
    have hc' := CRel.splice hc hv' hl hle hsz hk
    have hlen : (as.take f.offset ++ cellsOf (ev e sx) ++ as.drop (f.offset + s)).length = as.length := by simp; omega
    obtain ⟨r, hr, hrr⟩ := fill_parts place fs hplace E ps qs' cells' _ hqs hc' (by rw [hlen]; exact hok)
    exact ⟨r, by simp only [List.map_cons]; rw [hfill, hr], by simpa [fillA] using hrr⟩

theorem s_bld {t : TypeId} {parts : Array (Nat × Operand)} {fs : Array Field} {z : List AVal} {qs : List (Nat × Nat × SX)} (ho : o.op = .build t parts) (hu : P.underlying t = some (.struct fs))
    (hm : (fs.toList.mapM fun f => (P.info? f.type).map fun i => (f.offset, i.size)).isSome = true) (hz : zeroT P t = some z) (hq : toParts P fs parts.toList = some qs) (E : ERel n e g w a)
    (hk : okFill z.length (qs.map fun p => (p.1, p.2.1, ev e p.2.2))) : StepV P o a w g (.agg (fillA z (qs.map fun p => (p.1, p.2.1, ev e p.2.2)))) := by
  obtain ⟨i, zv, hi, hzv, hzc⟩ := zeroT_out (g := g) (w := w) hz
  obtain ⟨places, hp⟩ := Option.isSome_iff_exists.1 hm
  obtain ⟨r, hr, hrr⟩ := fill_parts (P := P) (fun x => places.toArray[x]?) fs (fun i f s hf hs => by simpa using mapM_get hp i f s (by simpa using hf) hs) E parts.toList qs zv.cells z hq hzc hk
  have hb : P.built t (parts.map fun (i, x) => (i, a.eval x)).toList = some r := by
    unfold Program.built
    simp only [hi, hu, hzv, hp]
    rw [Array.toList_map]
    exact hr
  refine ⟨.agg r, ?_, .agg r _ hrr.1 hrr.2.1 hrr.2.2⟩
  simp only [execOp, ho]
  have := run_build (P := P) w t (parts.map fun (i, x) => (i, a.eval x)) r hb
  simp only [Sem.run_bind, this, Result.andThen_ok, Sem.run_pure]

/-! ### ghosts -/
theorem heap_push_old (w : World) (ob : Obj) (b : Nat) (hb : b < w.heap.size) : (w.alloc ob).heap[b]? = w.heap[b]? := by
  simp only [World.alloc, Array.getElem?_push]
  rw [if_neg (by omega)]
theorem heap_push_new (w : World) (ob : Obj) : (w.alloc ob).heap[w.heap.size]? = some ob := by
  simp only [World.alloc, Array.getElem?_push]
  simp
def Ghost.add (g : Ghost) (blk bo cap sz : Nat) : Ghost :=
  { eta := upd g.eta g.nxt blk, bo := upd g.bo g.nxt bo, cap := upd g.cap g.nxt cap, sz := upd g.sz g.nxt sz, nxt := g.nxt + 1, fz := g.fz }
def Ghost.frz (g : Ghost) (b : Nat) : Ghost := { g with fz := fun x => g.fz x ∨ x = b }
def del (h : Heap) (r : Nat) : Heap := fun t => if t = r then none else h t

theorem GStep.add (g : Ghost) (w : World) (blk bo cap sz : Nat) : GStep g w (g.add blk bo cap sz) w where
  nxt := Nat.le_succ _
  eta r hr := by simp [Ghost.add, upd, Nat.ne_of_lt hr]
  bo r hr := by simp [Ghost.add, upd, Nat.ne_of_lt hr]
  cap r hr := by simp [Ghost.add, upd, Nat.ne_of_lt hr]
  sz r hr := by simp [Ghost.add, upd, Nat.ne_of_lt hr]
  fz _ h := h
  keep _ _ := rfl
  os := rfl
  tape := rfl
  output := rfl
  size := Nat.le_refl _
theorem GStep.frz (g : Ghost) (w : World) (b : Nat) : GStep g w (g.frz b) w where
  nxt := Nat.le_refl _
  eta _ _ := rfl
  bo _ _ := rfl
  cap _ _ := rfl
  sz _ _ := rfl
  fz _ h := .inl h
  keep _ _ := rfl
  os := rfl
  tape := rfl
  output := rfl
  size := Nat.le_refl _
/-- the world alone goes on: nothing frozen turns -/
theorem GStep.world {w' : World} (hk : ∀ b, g.fz b → w'.heap[b]? = w.heap[b]?) (h1 : w'.os = w.os) (h2 : w'.tape = w.tape) (h3 : w'.output = w.output) (h4 : w.heap.size ≤ w'.heap.size) : GStep g w g w' where
  nxt := Nat.le_refl _
  eta _ _ := rfl
  bo _ _ := rfl
  cap _ _ := rfl
  sz _ _ := rfl
  fz _ h := h
  keep := hk
  os := h1
  tape := h2
  output := h3
  size := h4
theorem GS.world {w' : World} (hk : ∀ b, g.fz b → w'.heap[b]? = w.heap[b]?) (h1 : w'.os = w.os) (h2 : w'.tape = w.tape) (h3 : w'.output = w.output) (h4 : w.heap.size ≤ w'.heap.size)
    (ho : ∀ b, b < w.heap.size → (¬ Own g b ∨ NonCells w b) → w'.heap[b]? = w.heap[b]?) : GS g w g w' :=
  ⟨GStep.world hk h1 h2 h3 h4, ho, fun _ _ h => h, fun _ _ _ h => h, fun _ h => .inl h⟩
/-- a root is laid: in a new block, or where a root lies -/
theorem GS.addTo {w' : World} (S : GS g w g w') (blk bo cap sz : Nat) (hb : w.heap.size ≤ blk ∨ Own g blk ∨ cap = 0) : GS g w (g.add blk bo cap sz) w' := by
  refine ⟨S.toGStep.trans (GStep.add g w' blk bo cap sz), S.own, fun b hlt ⟨r, hr, hc, he⟩ => ?_, fun b h1 h2 h3 => S.fzn b h1 h2 h3, fun b h => S.fzc b h⟩
  by_cases hrn : r = g.nxt
  · subst hrn
    simp only [Ghost.add, upd_same] at hc he
    subst he
    rcases hb with h | h | h
    · omega
    · exact h
    · exact absurd h hc
  · have hlt' : r < g.nxt := by simp only [Ghost.add] at hr; omega
    simp only [Ghost.add, upd_ne _ _ hrn] at hc he
    exact ⟨r, hlt', hc, he⟩
/-- a block is frozen: a new one, or a root's -/
theorem GS.frzTo {w' : World} (S : GS g w g w') (b : Nat) (hb : w.heap.size ≤ b ∨ Own g b) (hcl : ∃ cur t f, w'.heap[b]? = some (.cells cur t f)) : GS g w (g.frz b) w' :=
  ⟨S.toGStep.trans (GStep.frz g w' b), S.own, fun _ _ h => h, fun x h1 h2 h3 => by
    rcases h3 with h3 | rfl
    · exact S.fzn x h1 h2 h3
    · rcases hb with h | h
      · omega
      · exact absurd h h2, fun x h3 => by
    rcases h3 with h3 | rfl
    · exact S.fzc x h3
    · obtain ⟨cur, t, f, hcl⟩ := hcl
      exact .inr fun ⟨o, ho, hc⟩ => by rw [hcl] at ho; cases ho; cases hc⟩
theorem ORel.step {g' : Ghost} {w' : World} {r : Nat} {ob : AObj} (hs : GStep g w g' w') (hb : g.cap r ≠ 0 → w'.heap[g.eta r]? = w.heap[g.eta r]?) (hf : g.cap r ≠ 0 → ¬ g'.fz (g.eta r)) (H : ORel g w r ob) : ORel g' w' r ob where
  lt := Nat.lt_of_lt_of_le H.lt hs.nxt
  sz := (hs.sz r H.lt).trans H.sz
  pos := H.pos
  len := H.len
  le := by rw [hs.cap r H.lt]; exact H.le
  block := by
    rw [hs.cap r H.lt, hs.eta r H.lt, hs.bo r H.lt]
    rcases H.block with h0 | ⟨h1, h2, cur, hc, hsz, hh⟩
    · exact .inl h0
    · by_cases h0 : g.cap r = 0
      · exact .inl h0
      · refine .inr ⟨Nat.lt_of_lt_of_le h1 hs.size, hf h0, cur, (hb h0).trans hc, hsz, fun i j e x he hx => ?_⟩
        obtain ⟨u, hu, h1, h2⟩ := hh i j e x he hx
        exact ⟨u, hu, h1, h2.step hs⟩

/-- nothing that lives has been written: only new blocks -/
theorem HRel.ext {w' : World} (H : HRel h g w) (hk : ∀ b, b < w.heap.size → w'.heap[b]? = w.heap[b]?) (h1 : w'.os = w.os) (h2 : w'.tape = w.tape) (h3 : w'.output = w.output) (h4 : w.heap.size ≤ w'.heap.size) :
    GS g w g w' ∧ HRel h g w' := by
  have hs : GS g w g w' := GS.world (fun b hb => hk b (H.fz b hb)) h1 h2 h3 h4 (fun b hb _ => hk b hb)
  have ow : ∀ b, Own g b → ∃ cur t f, w'.heap[b]? = some (.cells cur t f) := fun b hb => by
    obtain ⟨cur, t, f, hc⟩ := H.ow b hb
    exact ⟨cur, t, f, (hk b (Array.getElem?_eq_some_iff.1 hc).1).trans hc⟩
  refine ⟨hs, fun r ob hr => ?_, H.inj, fun b hb => Nat.lt_of_lt_of_le (H.fz b hb) h4, ow⟩
  have O := H.obj r ob hr
  refine O.step hs (fun h0 => ?_) (fun h0 => ?_)
  · rcases O.block with h' | ⟨hl, _⟩
    · exact absurd h' h0
    · exact hk _ hl
  · rcases O.block with h' | ⟨_, hf, _⟩
    · exact absurd h' h0
    · exact hf
theorem HRel.alloc (H : HRel h g w) (ob : Obj) : GS g w g (w.alloc ob) ∧ HRel h g (w.alloc ob) :=
  H.ext (fun b hb => heap_push_old w ob b hb) rfl rfl rfl (by simp)
theorem HRel.drew (H : HRel h g w) : GS g w g w.drew ∧ HRel h g w.drew :=
  H.ext (fun _ _ => rfl) rfl rfl rfl (Nat.le_refl _)

/-- a block that no live root has is frozen -/
theorem HRel.frz (H : HRel h g w) {b : Nat} (hb : b < w.heap.size) (hn : ∀ r ob, h r = some ob → g.cap r ≠ 0 → g.eta r ≠ b) : HRel h (g.frz b) w := by
  refine ⟨fun r ob hr => ?_, H.inj, fun x hx => ?_, H.ow⟩
  · have O := H.obj r ob hr
    refine O.step (GStep.frz g w b) (fun _ => rfl) (fun h0 => ?_)
    rintro (hf | he)
    · rcases O.block with h' | ⟨_, hf', _⟩
      · exact h0 h'
      · exact hf' hf
    · exact hn r ob hr h0 he
  · rcases hx with hx | rfl
    · exact H.fz x hx
    · exact hb

theorem HRel.del (H : HRel h g w) (r : Nat) : HRel (del h r) g w := by
  have hd : ∀ t o, Sim.del h r t = some o → t ≠ r ∧ h t = some o := by
    intro t o ht
    unfold Sim.del at ht
    split at ht
    · cases ht
    · exact ⟨by assumption, ht⟩
  exact ⟨fun t o ht => H.obj t o (hd t o ht).2, fun t t' o o' ht ht' => H.inj t t' o o' (hd t o ht).2 (hd t' o' ht').2, H.fz, H.ow⟩
theorem HRel.le {h' : Heap} (H : HRel h g w) (hle : ∀ t o, h' t = some o → h t = some o) : HRel h' g w :=
  ⟨fun t o ht => H.obj t o (hle t o ht), fun t t' o o' ht ht' => H.inj t t' o o' (hle t o ht) (hle t' o' ht'), H.fz, H.ow⟩

/-- a root is laid -/
theorem HRel.add (H : HRel h g w) {blk bo cap sz : Nat} {ty : TypeId} {es : List (List AVal)} (hpos : 0 < sz) (hlen : ∀ e ∈ es, e.length = sz) (hle : es.length ≤ cap)
    (hb : cap = 0 ∨ (blk < w.heap.size ∧ ¬ g.fz blk ∧ (∀ r ob, h r = some ob → g.cap r ≠ 0 → g.eta r ≠ blk) ∧ ∃ cur : Array Value, w.heap[blk]? = some (.cells cur ty (0, 0)) ∧ bo + cap * sz = cur.size ∧
      ∀ (i j : Nat) (e : List AVal) (x : AVal), es[i]? = some e → e[j]? = some x → ∃ u : Value, cur[bo + (i * sz + j)]? = some u ∧ u.oneCell' = true ∧ VRel g w u x)) :
    HRel (upd h g.nxt (some ⟨ty, sz, es⟩)) (g.add blk bo cap sz) w := by
  have hs := GStep.add g w blk bo cap sz
  have hE : ∀ t o, upd h g.nxt (some ⟨ty, sz, es⟩) t = some o → t = g.nxt ∧ o = ⟨ty, sz, es⟩ ∨ t < g.nxt ∧ h t = some o := by
    intro t o ht
    unfold upd at ht
    split at ht
    · rename_i hh; exact .inl ⟨hh, by cases ht; rfl⟩
    · exact .inr ⟨(H.obj t o ht).lt, ht⟩
  have en : (g.add blk bo cap sz).eta g.nxt = blk := by simp [Ghost.add]
  have bn : (g.add blk bo cap sz).bo g.nxt = bo := by simp [Ghost.add]
  have cn : (g.add blk bo cap sz).cap g.nxt = cap := by simp [Ghost.add]
  have sn : (g.add blk bo cap sz).sz g.nxt = sz := by simp [Ghost.add]
  have ow : ∀ b, Own (g.add blk bo cap sz) b → ∃ cur t f, w.heap[b]? = some (.cells cur t f) := by
    rintro b ⟨r, hr, hc, he⟩
    by_cases hrn : r = g.nxt
    · subst hrn
      rw [en] at he; rw [cn] at hc; subst he
      rcases hb with h0 | ⟨_, _, _, cur, hcur, _⟩
      · exact absurd h0 hc
      · exact ⟨cur, ty, _, hcur⟩
    · have hlt' : r < g.nxt := by simp only [Ghost.add] at hr; omega
      rw [hs.eta r hlt'] at he; rw [hs.cap r hlt'] at hc
      exact H.ow b ⟨r, hlt', hc, he⟩
  refine ⟨fun t o ht => ?_, fun t t' o o' ht ht' hc hc' he => ?_, H.fz, ow⟩
  · rcases hE t o ht with ⟨rfl, rfl⟩ | ⟨hlt, ht⟩
    · refine ⟨Nat.lt_succ_self _, sn, hpos, hlen, by rw [cn]; exact hle, ?_⟩
      rw [en, bn, cn]
      rcases hb with h0 | ⟨h1, h2, _, cur, hcur, hsz, hh⟩
      · exact .inl h0
      · refine .inr ⟨h1, h2, cur, hcur, hsz, fun i j e x he hx => ?_⟩
        obtain ⟨u, hu, h3, h4⟩ := hh i j e x he hx
        exact ⟨u, hu, h3, h4.step hs⟩
    · have O := H.obj t o ht
      refine O.step hs (fun _ => rfl) (fun h0 => ?_)
      rcases O.block with h' | ⟨_, hf, _⟩
      · exact absurd h' h0
      · exact hf
  · rcases hE t o ht with ⟨rfl, rfl⟩ | ⟨hlt, ht⟩ <;> rcases hE t' o' ht' with ⟨rfl, rfl⟩ | ⟨hlt', ht'⟩
    · rfl
    · rw [en, hs.eta t' hlt'] at he
      rw [cn] at hc
      rw [hs.cap t' hlt'] at hc'
      rcases hb with h0 | ⟨_, _, hn, _⟩
      · exact absurd h0 hc
      · exact absurd he.symm (hn t' o' ht' hc')
    · rw [en, hs.eta t hlt] at he
      rw [cn] at hc'
      rw [hs.cap t hlt] at hc
      rcases hb with h0 | ⟨_, _, hn, _⟩
      · exact absurd h0 hc'
      · exact absurd he (hn t o ht hc)
    · rw [hs.eta t hlt, hs.eta t' hlt'] at he
      rw [hs.cap t hlt] at hc
      rw [hs.cap t' hlt'] at hc'
      exact H.inj t t' o o' ht ht' hc hc' he

/-- a root's block is frozen: what lay in it is data from now on -/
theorem HRel.freeze (H : HRel h g w) {r : Nat} {ob : AObj} (hr : h r = some ob) (hc : g.cap r ≠ 0) : GS g w (g.frz (g.eta r)) w ∧ HRel (Sim.del h r) (g.frz (g.eta r)) w := by
  refine ⟨(GS.refl g w).frzTo _ (.inr ⟨r, (H.obj r ob hr).lt, hc, rfl⟩) (H.ow _ ⟨r, (H.obj r ob hr).lt, hc, rfl⟩), (H.del r).frz ?_ fun t o ht h0 he => ?_⟩
  · rcases (H.obj r ob hr).block with h0 | ⟨h1, _⟩
    · exact absurd h0 hc
    · exact h1
  · unfold Sim.del at ht
    split at ht
    · cases ht
    · rename_i hne
      exact hne (H.inj t r o ob ht hr h0 hc he)
end
end Go.Sim
