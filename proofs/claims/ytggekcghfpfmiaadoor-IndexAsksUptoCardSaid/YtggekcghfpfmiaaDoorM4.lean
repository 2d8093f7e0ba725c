/- Texts of this claim, one behind the other. -/
import Derived.Test.YtggekcghfpfmiaaDoorProg
import Derived.Test.YtggekcghfpfmiaaDoorM3
import Derived.KernelRfl
import Derived.Test.YtggekcghfpfmiaaDoorRows
import Derived.WalkKit
import Derived.ProofKit
import Derived.OpenShut
import Derived.JoinedCond
import Derived.Lib.LaidU8T
import Derived.PinnedBridge
import Derived.Shelf.Vars
import Derived.Below
import Derived.Test.YtggekcghfpfmiaaDoorCards
import Derived.Test.YtggekcghfpfmiaaDoorTie
import Derived.Deep.DeepHandedRow
import Derived.MakeChecks
import Derived.Lib.SlicesCompact
import Derived.Shelf.Strings.Trim
import Derived.Shelf.Small.Utf8
import Derived.Shelf.Small.Strs
import Derived.Shelf.Strings.Search1
import Derived.Shelf.Unicode.Decode
import Derived.Shelf.Strings.Runes
import Derived.Shelf.Strings.AsciiSet
import Derived.Shelf.Unicode.DecodeSlow
import Derived.Shelf.Unicode.DecodeAny
import Derived.Shelf.Strings.SlTrimAscii
import Derived.Lib.IndexAny
import Derived.Shelf.Strings.Builder1
import Derived.Lib.RuneBytes
import Derived.Laws.BitsLemmas
import Derived.Lib.IndexMore
section
/- The program, with what its package-level variables stand for. -/
namespace Go.Proofs.K
open Go Go.Sim Go.Proofs
noncomputable abbrev Pg (G : Glob) : PG := ⟨Tryd.prog, G⟩
theorem pg_gl (G : Glob) : (Pg G).gl = G := rfl
end Go.Proofs.K
end
section
/- What every row of this seat takes: the measure of what is read, and readers of plain types. -/
set_option linter.unusedSimpArgs false
set_option linter.unusedVariables false
namespace Go.Proofs.YtggekcghfpfmiaaDoor
open Go Go.Sim Go.Proofs Go.ChangeShapes Go.WideShapes Go.ChangeAt Go.RowKit

theorem own : ownKnob Tryd.prog.godebug = none := by kernel_rfl

theorem bulkAll_mem {H : Type} {d : DataW H} {l : List (DataW H)} (h : d ∈ l) : Rows.uptoBulk d ≤ Rows.uptoBulkAll l := by
  induction l with
  | nil => cases h
  | cons x r ih =>
    simp only [Rows.uptoBulkAll]
    rcases List.mem_cons.1 h with e | e
    · subst e; omega
    · have := ih e; omega
theorem bulk_pos {H : Type} (d : DataW H) : 1 ≤ Rows.uptoBulk d := by
  cases d with
  | lit l => cases l <;> simp [Rows.uptoBulk]
  | _ => simp [Rows.uptoBulk]
theorem bulkAll_len {H : Type} (l : List (DataW H)) : l.length ≤ Rows.uptoBulkAll l := by
  induction l with
  | nil => simp [Rows.uptoBulkAll]
  | cons x r ih => have := bulk_pos x; simp only [Rows.uptoBulkAll, List.length_cons]; omega
theorem bulk (H : Type) : Bulk (Rows.uptoBulk (H := H)) where
  str l := by simp [Rows.uptoBulk]
  len es sp := by have := bulkAll_len es; simp only [Rows.uptoBulk]; omega
  elem es sp d h := by have := bulkAll_mem h; simp only [Rows.uptoBulk]; omega
  part ps d h := by have := bulkAll_mem h; simp only [Rows.uptoBulk]; omega

noncomputable def G0 : Glob := fun _ => .dead
theorem GRel.g0 (W : World) : GRel (K.Pg G0).gl (Sim.g0 W) W := fun _ => ⟨.dead, .dead _⟩
variable {H : Type} {enc : TypeId × Value → H} {w : World}
theorem mStr : Mono (fun k (l : List UInt8) => l.length ≤ k) := fun _ _ _ h1 h2 => Nat.le_trans h2 h1
theorem mInt {k : IntKind} : Mono (fun (_ : Nat) (n : Int) => (Lit.int k n).wf = true) := fun _ _ _ _ h => h
theorem rInt : Rdr enc Tryd.prog w Rows.uptoBulk 3 eInt (fun _ n => (Lit.int .i64 n).wf = true) := Rdr.int Tryd.underlying3
theorem rStr : Rdr enc Tryd.prog w Rows.uptoBulk 9 (fun l : List UInt8 => [.str l]) (fun k l => l.length ≤ k) := Rdr.str (bulk H) Tryd.underlying9
theorem rInts : Rdr enc Tryd.prog w Rows.uptoBulk 42 (fun l : List Int => [sl eInt l]) (fun k l => l.length ≤ k ∧ ∀ x ∈ l, (Lit.int .i64 x).wf = true) :=
  Rdr.slice (bulk H) mInt (sz := 1) (enc := eInt) Tryd.underlying42 (by kernel_rfl) (by decide) (fun _ => rfl) rInt
end Go.Proofs.YtggekcghfpfmiaaDoor
end
section
/- Lists: what the contracts speak in. -/
set_option linter.unusedSimpArgs false
set_option linter.unusedVariables false
namespace Go.Proofs.K
open Go Go.Sim Go.Proofs

theorem brNdec {A B : Prop} {p : Prop} [Decidable p] (h1 : ¬ p → A) (h2 : p → B) : Br (!decide p) A B .mk := ⟨fun h => h1 (by simpa using h), fun h => h2 (by simpa using h)⟩
theorem brNeq {A B : Prop} {α : Type} [BEq α] [LawfulBEq α] {a b : α} (h1 : a ≠ b → A) (h2 : a = b → B) : Br (!(a == b)) A B .mk := ⟨fun h => h1 (by simpa using h), fun h => h2 (by simpa using h)⟩
theorem lit_eq {ty sz : Nat} {ps : List SX} {e : Env} {h : Heap} {K : AVal → Heap → Prop} {w : Wit K} : Hd (litE ty sz ps e h) K w = (okParts sz e ps ∧ ∀ r, h r = none → K (.osl r sz 0 ps.length) (upd h r (some ⟨ty, sz, ps.map fun x => cellsOf (ev e x)⟩))) := rfl
theorem nth_mem' {α : Type} [Inhabited α] {l : List α} {k : Nat} (h : k < l.length) : nth l k ∈ l := List.mem_of_getElem? (nth_some h)
theorem mem_nth {α : Type} [Inhabited α] {l : List α} {x : α} (h : x ∈ l) : ∃ k, k < l.length ∧ nth l k = x := by
  obtain ⟨k, hk⟩ := List.mem_iff_getElem?.1 h
  have hl := (List.getElem?_eq_some_iff.1 hk).1
  have := nth_some hl
  rw [hk] at this
  exact ⟨k, hl, (Option.some.inj this).symm⟩
theorem ext_nth {α : Type} [Inhabited α] {l m : List α} (hl : l.length = m.length) (h : ∀ j, j < l.length → nth l j = nth m j) : l = m := by
  apply List.ext_getElem? 
  intro i
  by_cases hi : i < l.length
  · rw [nth_some hi, nth_some (by omega), h i hi]
  · rw [List.getElem?_eq_none (by omega), List.getElem?_eq_none (by omega)]

theorem take_snoc {α : Type} [Inhabited α] {l : List α} {j : Nat} (h : j < l.length) : l.take (j + 1) = l.take j ++ [nth l j] := by
  rw [List.take_add_one, nth_some h]; rfl
def idxM {α : Type} (p : α → Bool) (l : List α) : Int := match l.findIdx? p with | some i => i | none => -1
theorem idxM_some {α : Type} [Inhabited α] {p : α → Bool} {l : List α} {k : Nat} (hk : k < l.length) (h1 : ∀ j, j < k → p (nth l j) = false) (h2 : p (nth l k) = true) : idxM p l = k := by
  have hn : ∀ j (hj : j < l.length), l[j] = nth l j := fun j hj => by have := nth_some hj; rw [List.getElem?_eq_getElem hj] at this; exact Option.some.inj this
  have : l.findIdx? p = some k := by
    rw [List.findIdx?_eq_some_iff_getElem]
    refine ⟨hk, by rw [hn k hk]; exact h2, fun j hj => ?_⟩
    rw [hn j (by omega), h1 j hj]; simp
  rw [idxM, this]
theorem idxM_none {α : Type} [Inhabited α] {p : α → Bool} {l : List α} (h1 : ∀ j, j < l.length → p (nth l j) = false) : idxM p l = -1 := by
  have hn : ∀ j (hj : j < l.length), l[j] = nth l j := fun j hj => by have := nth_some hj; rw [List.getElem?_eq_getElem hj] at this; exact Option.some.inj this
  have : l.findIdx? p = none := by
    rw [List.findIdx?_eq_none_iff]
    intro x hx
    obtain ⟨j, hj, rfl⟩ := List.getElem_of_mem hx
    rw [hn j hj]; exact h1 j hj
  rw [idxM, this]
theorem idxM_any {α : Type} (p : α → Bool) (l : List α) : decide (0 ≤ idxM p l) = l.any p := by
  unfold idxM
  cases h : l.findIdx? p with
  | none =>
    rw [List.findIdx?_eq_none_iff] at h
    have : l.any p = false := by rw [List.any_eq_false]; intro x hx; simp [h x hx]
    rw [this]; simp
  | some i =>
    have h2 : (l.findIdx? p).isSome = true := by rw [h]; rfl
    rw [List.findIdx?_isSome] at h2
    rw [h2]
    simp

def lastP {α : Type} (p : α → Bool) : List α → Nat
  | [] => 0
  | x :: r => match lastP p r with
    | 0 => if p x then 1 else 0
    | n + 1 => n + 2
def IsLastP {α : Type} [Inhabited α] (p : α → Bool) (l : List α) (k : Nat) : Prop := k ≤ l.length ∧ (k = 0 ∨ p (nth l (k - 1)) = true) ∧ ∀ j, k ≤ j → j < l.length → p (nth l j) = false
theorem lastP_is {α : Type} [Inhabited α] (p : α → Bool) (l : List α) : IsLastP p l (lastP p l) := by
  induction l with
  | nil => exact ⟨by simp [lastP], .inl rfl, fun j _ h => by simp at h⟩
  | cons x r ih =>
    obtain ⟨h1, h2, h3⟩ := ih
    cases hm : lastP p r with
    | zero =>
      rw [hm] at h3
      by_cases hx : p x = true
      · simp only [lastP, hm, hx, if_true]
        refine ⟨by simp, .inr (by simpa [nth] using hx), fun j hj hl => ?_⟩
        obtain ⟨j, rfl⟩ : ∃ i, j = i + 1 := ⟨j - 1, by omega⟩
        exact h3 j (by omega) (by simpa using hl)
      · simp only [lastP, hm, hx]
        refine ⟨by simp, .inl (by simp), fun j hj hl => ?_⟩
        cases j with
        | zero => simpa [nth] using hx
        | succ j => exact h3 j (by omega) (by simpa using hl)
    | succ n =>
      rw [hm] at h1 h2 h3
      simp only [lastP, hm]
      refine ⟨by simp; omega, .inr ?_, fun j hj hl => ?_⟩
      · rcases h2 with h2 | h2
        · omega
        · simpa [nth] using h2
      · obtain ⟨j, rfl⟩ : ∃ i, j = i + 1 := ⟨j - 1, by omega⟩
        exact h3 j (by omega) (by simpa using hl)
theorem IsLastP.eq {α : Type} [Inhabited α] {p : α → Bool} {l : List α} {k : Nat} (h : IsLastP p l k) : lastP p l = k := by
  obtain ⟨a1, a2, a3⟩ := lastP_is p l
  obtain ⟨b1, b2, b3⟩ := h
  rcases Nat.lt_trichotomy (lastP p l) k with h | h | h
  · rcases b2 with b2 | b2
    · omega
    · rw [a3 _ (by omega) (by omega)] at b2; cases b2
  · exact h
  · rcases a2 with a2 | a2
    · omega
    · rw [b3 _ (by omega) (by omega)] at a2; cases a2

theorem u8_all {p : UInt8 → Bool} (h : ((List.range 256).all fun n => p (UInt8.ofNat n)) = true) (b : UInt8) : p b = true := by
  have := List.all_eq_true.1 h b.toNat (List.mem_range.2 b.toNat_lt)
  simpa using this
theorem nth_set {α : Type} [Inhabited α] (l : List α) (i j : Nat) (x : α) (hi : i < l.length) : nth (l.set i x) j = if j = i then x else nth l j := by
  unfold nth
  rw [List.getD_eq_getElem?_getD, List.getD_eq_getElem?_getD, List.getElem?_set]
  by_cases h : i = j
  · subst h; simp [hi]
  · rw [if_neg h, if_neg (fun e => h e.symm)]
end Go.Proofs.K
end
section
/- Package-level variables of Go's library: what their pointers stand for; contracts of the shelf that only keep what was there. -/
set_option linter.unusedSimpArgs false
set_option linter.unusedVariables false
namespace Go.Proofs.K
open Go Go.Sim Go.Proofs
variable {G : Glob}

def intsA (k : IntKind) (l : List Int) : List AVal := l.map fun x => .int k x
def firstL : List Int := (List.range 256).map fun c => (Lib.firstT c : Int)
def acceptL : List Int := (List.range 32).map fun i => if i % 2 = 0 then (Lib.accLo (i / 2) : Int) else Lib.accHi (i / 2)
theorem firstL_at (c : Nat) (h : c < 256) : firstL[c]? = some (Lib.firstT c : Int) := by simp [firstL, h]
theorem acceptL_lo (i : Nat) (h : i < 16) : acceptL[2 * i]? = some (Lib.accLo i : Int) := by
  have : 2 * i < 32 := by omega
  simp [acceptL, this]
theorem acceptL_hi (i : Nat) (h : i < 16) : acceptL[2 * i + 1]? = some (Lib.accHi i : Int) := by
  have h1 : 2 * i + 1 < 32 := by omega
  have h2 : (2 * i + 1) / 2 = i := by omega
  have h3 : (2 * i + 1) % 2 = 1 := by omega
  simp [acceptL, h1, h2, h3]
theorem vrel_ints {w : World} {b : Nat} {k : IntKind} {l : List Int} (hl : l ≠ []) (h : ∀ (j : Nat) (x : Int), l[j]? = some x → w.cell? ⟨b, j, none⟩ = some (.int k x)) : VRel (g0 w) w (.pointer (some ⟨b, 0, none⟩)) (.pin (intsA k l)) := by
  have e : ∀ j, Addr.add ⟨b, 0, none⟩ j = ⟨b, j, none⟩ := fun j => by unfold Addr.add; split <;> simp_all
  refine VRel.pin_mk rfl ?_ fun j a hj => ?_
  · show b < w.heap.size
    obtain ⟨x, r, rfl⟩ := List.exists_cons_of_ne_nil hl
    have h := h 0 x rfl
    unfold World.cell? at h
    split at h
    · rename_i c _ _ hc
      exact (Array.getElem?_eq_some_iff.1 hc).1
    · cases h
  · rw [intsA, List.getElem?_map, Option.map_eq_some_iff] at hj
    obtain ⟨x, hx, rfl⟩ := hj
    exact ⟨.int k x, by rw [e]; exact h j x hx, rfl, .int k x⟩
theorem dat_ints (k : IntKind) (l : List Int) : Dat (.pin (intsA k l)) := .pin _ fun c hc => by
  obtain ⟨x, _, rfl⟩ := List.mem_map.1 hc
  exact .int k x
/-- a contract of the shelf by which what was there is kept -/
theorem ofBelow {P : PG} {f : Nat} {ls : List AVal} {r : AVal} (hc : Callable P.p f)
    (h : ∀ (g : Ghost) (w : World) (vs : Array Value), GRel P.gl g w → VRelL g w vs ls → Calls P.p f vs w fun e w' => ∃ v, e = .returned v ∧ RowKit.Below w.heap.size w w' ∧ ∀ g' w', VRel g' w' v r) : PCalls P f ls r :=
  fun h0 => ⟨hc, fun g w vs H GR V => (h g w vs GR V).mono fun e w' ⟨v, he, hw, hv⟩ => by
    obtain ⟨S, H'⟩ := H.ext (w' := w') (fun b hb => hw.block b hb) hw.os hw.tape hw.output hw.size
    exact ⟨v, r, h0, g, he, ⟨rfl, rfl⟩, H', hv g w', S⟩⟩

/-! ## utf8's tables -/
end Go.Proofs.K
end
section
/- What every card of this seat takes: the tables as the row lists them, and a world that holds them. -/
set_option linter.unusedSimpArgs false
set_option linter.unusedVariables false
namespace Go.Proofs.YtggekcghfpfmiaaDoor
open Go Go.Sim Go.Proofs Go.Proofs.K Go.ChangeShapes Go.WideShapes Go.ChangeAt Go.RowKit Go.Shelf Go.Lib
noncomputable def GT (m : Int) : Glob := fun b => if b = 0 then .pin [aInt m] else if b = 1 then .pin (intsA .u8 firstL) else if b = 2 then .pin (intsA .u8 acceptL) else .dead
def tren : Ren := ⟨fun n => n, fun | 5 => 5 | 119 => 128 | 138 => 130 | 139 => 131 | n => n, fun | 3 => 1 | 4 => 2 | n => n⟩
theorem utypes : U8Types Tryd.prog tren := { t5 := Tryd.underlying5, t119 := Tryd.underlying128, t138 := Tryd.underlying130, t139 := Tryd.underlying131 }
theorem uextra : U8Extra Tryd.prog tren := { n3 := by kernel_rfl, n4 := by kernel_rfl, y3 := by kernel_rfl, y4 := by kernel_rfl, c5 := by kernel_rfl, c119 := by kernel_rfl, c138 := by kernel_rfl }
def laidL : List (String × DataW Unit) := [("unicode/utf8.acceptRanges", Rows.laid_unicode_utf8_acceptRanges), ("unicode/utf8.first", Rows.laid_unicode_utf8_first)]
theorem acc_eq : (Rows.laid_unicode_utf8_acceptRanges : DataW Unit) = acceptData := by kernel_rfl
theorem tabs_met {W : World} (hL : laidMetH Tryd.prog laidL W) : Utf8Tabs 1 2 W := by
  rw [MakeChecks.laidMetH_plain _ _ _ (by kernel_rfl)] at hL
  have h4 := laidMet.reads hL (n := "unicode/utf8.acceptRanges") (d := Rows.laid_unicode_utf8_acceptRanges) (by simp [laidL])
  have h3 := laidMet.reads hL (n := "unicode/utf8.first") (d := Rows.laid_unicode_utf8_first) (by simp [laidL])
  rw [acc_eq] at h4
  have e3 : Rows.laid_unicode_utf8_first = firstData := Pinned.utf8First_eq
  rw [e3] at h3
  exact utf8Tabs_of_readsT utypes uextra h3 h4
theorem firstL_get {j : Nat} {x : Int} (h : firstL[j]? = some x) : j < 256 ∧ x = (firstT j : Int) := by
  have hl : firstL.length = 256 := by simp [firstL]
  have hj := (List.getElem?_eq_some_iff.1 h).1
  rw [firstL_at j (by omega)] at h
  exact ⟨by omega, (Option.some.inj h).symm⟩
theorem acceptL_get {j : Nat} {x : Int} (h : acceptL[j]? = some x) : j < 32 ∧ ((∃ i, j = 2 * i ∧ x = (accLo i : Int)) ∨ ∃ i, j = 2 * i + 1 ∧ x = (accHi i : Int)) := by
  have hl : acceptL.length = 32 := by simp [acceptL]
  have hj := (List.getElem?_eq_some_iff.1 h).1
  refine ⟨by omega, ?_⟩
  obtain ⟨i, rfl | rfl⟩ : ∃ i, j = 2 * i ∨ j = 2 * i + 1 := ⟨j / 2, by omega⟩
  · rw [acceptL_lo i (by omega)] at h
    exact .inl ⟨i, rfl, (Option.some.inj h).symm⟩
  · rw [acceptL_hi i (by omega)] at h
    exact .inr ⟨i, rfl, (Option.some.inj h).symm⟩
theorem GT_rel {W : World} (hsh : W.ShapedOpen Tryd.prog) (hL : laidMetH Tryd.prog laidL W) : ∃ m, GRel (Pg (GT m)).gl (Sim.g0 W) W := by
  obtain ⟨m, hm⟩ := Go.Proofs.cell_of_shapedOpen_int (g := 0) (t := 3) (zero := #[.int .i64 0]) (k := .i64) hsh (by decide +kernel) (by kernel_rfl) rfl (by kernel_rfl) (by kernel_rfl) Tryd.underlying3
  obtain ⟨T3, T4⟩ := tabs_met hL
  refine ⟨m, fun b => ?_⟩
  show Dat (GT m b) ∧ VRel _ _ _ (GT m b)
  unfold GT
  split
  · rename_i h; subst h; exact ⟨.pin _ (fun c hc => by simp at hc; subst hc; exact .int _ _), VRel.pinInt hm⟩
  · split
    · rename_i h; subst h
      refine ⟨dat_ints _ _, vrel_ints (by decide +kernel) fun j x hj => ?_⟩
      obtain ⟨h1, rfl⟩ := firstL_get hj
      exact T3 j h1
    · split
      · rename_i h; subst h
        refine ⟨dat_ints _ _, vrel_ints (by decide +kernel) fun j x hj => ?_⟩
        obtain ⟨h1, ⟨i, rfl, rfl⟩ | ⟨i, rfl, rfl⟩⟩ := acceptL_get hj
        · exact (T4 i (by omega)).1
        · exact (T4 i (by omega)).2
      · exact ⟨.dead, .dead _⟩
/-- a world for the witness: the settled one, the tables holding what the program's text lays -/
noncomputable def lay8 (l : List Int) : Obj → Obj
  | .cells _ t frozen => .cells (l.map fun x => Value.int .u8 x).toArray t frozen
  | o => o
noncomputable def laidWorld (os : Os) : World :=
  { World.holding Tryd.prog os ⟨#[], #[], []⟩ with heap := ((World.holding Tryd.prog os ⟨#[], #[], []⟩).heap.modify 1 (lay8 firstL)).modify 2 (lay8 acceptL) }
end Go.Proofs.YtggekcghfpfmiaaDoor
end
section
/- Attributes, and lists of numbers. -/
set_option linter.unusedSimpArgs false
set_option linter.unusedVariables false
namespace Go.Proofs.K
open Go Go.Sim Go.Proofs
variable {G : Glob}

structure HAttr where
  name : List UInt8
  value : List UInt8
deriving DecidableEq, Inhabited
def eAttr (a : HAttr) : List AVal := [.str a.name, .str a.value]
instance : LenE eAttr 2 := ⟨fun _ => rfl⟩
def c16 : SFun := ⟨(.seq (.reg [⟨(some 4), (.mv (.c (.bool false))), none⟩]) (.seq (.seq (.reg [⟨(some 6), (.mv (.t 0)), none⟩, ⟨(some 7), (.len (.t 6)), none⟩, ⟨(some 8), (.mv (.t 1)), none⟩, ⟨(some 9), (.len (.t 8)), none⟩, ⟨(some 10), (.bin .neq (.t 7) (.t 9)), none⟩]) (.cond (.t 10) (.seq (.reg [⟨(some 4), (.mv (.c (.bool false))), none⟩]) .ret) .skip)) (.seq (.seq (.reg [⟨(some 5), (.mv (.c (.int .i64 (0)))), none⟩]) (.block 0 (.loop (.seq (.seq (.reg [⟨(some 11), (.mv (.t 5)), none⟩, ⟨(some 12), (.mv (.t 0)), none⟩, ⟨(some 13), (.len (.t 12)), none⟩, ⟨(some 14), (.bin .lss (.t 11) (.t 13)), none⟩]) (.cond (.t 14) .skip (.exit 0))) (.seq (.block 1 (.seq (.dreg [(⟨(some 17), (.mv (.t 0)), none⟩, none), (⟨(some 18), (.mv (.t 5)), none⟩, none), (⟨(some 19), (.idxA 1 (.t 17) (.t 18)), none⟩, none), (⟨(some 20), (.ld 1 false (.t 19)), none⟩, none), (⟨(some 21), (.mv (.t 1)), none⟩, none), (⟨(some 22), (.mv (.t 5)), none⟩, none), (⟨(some 23), (.idxA 1 (.t 21) (.t 22)), none⟩, none), (⟨(some 24), (.ld 1 false (.t 23)), none⟩, none), (⟨(some 25), (.bin .neq (.t 20) (.t 24)), none⟩, none)]) (.cond (.t 25) (.seq (.reg [⟨(some 4), (.mv (.c (.bool false))), none⟩]) .ret) .skip))) (.reg [⟨(some 15), (.mv (.t 5)), none⟩, ⟨(some 16), (.bin .add (.t 15) (.c (.int .i64 (1)))), none⟩, ⟨(some 5), (.mv (.t 16)), none⟩])))))) (.seq (.reg [⟨(some 4), (.mv (.c (.bool true))), none⟩]) .ret)))), [(.tmp 4)]⟩
theorem hc16 : toSF Tryd.prog {} Tryd.f16 = some c16 := by kernel_rfl
theorem hn16 : (Tryd.f16.name == "runtime.NumGoroutine") = false := by kernel_rfl
theorem sameN_ok (a b : List Int) (ha : a.length ≤ 1073741824) (hb : b.length ≤ 1073741824) : PCalls (Pg G) 16 [sl eInt a, sl eInt b] (.bool (a == b)) := by
  intro h
  refine dcalls_of_vc Tryd.func16 hn16 hc16 (by rw [Tryd.ntmps16]; simp) (by rw [Tryd.ntmps16]; decide) ?_
  simp -dsimp -implicitDefEqProofs (disch := omega) only [VCA, Nat.reduceEqDiff, ↓reduceIte, reduceCtorEq, c16]
  refine Br.ne (fun h1 => ?_) (fun h1 => ?_)
  · simp -dsimp -implicitDefEqProofs (disch := omega) only [VCA, ↓reduceIte, exists_eq_right_right]
    have : ¬ a = b := fun e => h1 (by rw [e])
    first | exact Sub.refl _ | exact ⟨Sub.refl _, by simp [this]⟩
  · simp -dsimp -implicitDefEqProofs (disch := omega) only [VCA]
    have h1' : a.length = b.length := by omega
    refine LoopVC.intro (fun m e h' => ∃ k : Nat, k ≤ a.length ∧ m = a.length - k ∧ e 0 = sl eInt a ∧ e 1 = sl eInt b ∧ e 5 = aInt k ∧ h' = h ∧ ∀ j, j < k → nth a j = nth b j) a.length ⟨0, by omega, by omega, rfl, rfl, rfl, rfl, fun j hj => absurd hj (Nat.not_lt_zero j)⟩ ?_
    rintro m e h' ⟨k, hk, rfl, he0, he1, he5, rfl, hj⟩
    simp -dsimp -implicitDefEqProofs (disch := omega) only [VCA, Nat.reduceEqDiff, ↓reduceIte, reduceCtorEq, he0, he5]
    refine Br.dec (fun hlt => ?_) (fun hge => ?_)
    · simp -dsimp -implicitDefEqProofs (disch := omega) only [VCA, Nat.reduceEqDiff, ↓reduceIte, reduceCtorEq, rsOf, rootsOf, rootL, eInt, he0, he1, he5]
      refine ⟨by omega, by omega, Br.ne (fun h2 => ?_) (fun h2 => ?_)⟩
      · simp -dsimp -implicitDefEqProofs (disch := omega) only [VCA, ↓reduceIte, exists_eq_right_right]
        have : ¬ a = b := fun e => h2 (by rw [e])
        first | exact Sub.refl _ | exact ⟨Sub.refl _, by simp [this]⟩
      · simp -dsimp -implicitDefEqProofs (disch := omega) only [VCA, Nat.reduceEqDiff, ↓reduceIte, reduceCtorEq, he0, he1, he5]
        refine ⟨_, ?_, k + 1, by omega, rfl, by omega, fun j hj' => ?_⟩
        · omega
        · by_cases h3 : j = k
          · subst h3; exact h2
          · exact hj j (by omega)
    · simp -dsimp -implicitDefEqProofs (disch := omega) only [VCA, ↓reduceIte, exists_eq_right_right]
      have : a = b := ext_nth h1' (fun j hj' => hj j (by omega))
      first | exact Sub.refl _ | exact ⟨Sub.refl _, by simp [this]⟩
end Go.Proofs.K
end
section
/- Documents: what the contracts speak in. -/
set_option linter.unusedSimpArgs false
set_option linter.unusedVariables false
namespace Go.Proofs.K
open Go Go.Sim Go.Proofs
variable {G : Glob}

structure HNode where
  kind : Int
  name : List UInt8
  attrs : List HAttr
  text : List UInt8
  parent : Int
  kids : List Int
deriving DecidableEq, Inhabited
def eNode (x : HNode) : List AVal := [aInt x.kind, .str x.name, sl eAttr x.attrs, .str x.text, aInt x.parent, sl eInt x.kids]
instance : LenE eNode 6 := ⟨fun _ => rfl⟩
structure HDoc where
  nodes : List HNode
  quirks : Bool
deriving DecidableEq, Inhabited
def eDoc (d : HDoc) : List AVal := [sl eNode d.nodes, .bool d.quirks]
instance : LenE eDoc 2 := ⟨fun _ => rfl⟩
/-- the node of a number -/
def nd (d : HDoc) (n : Int) : HNode := nth d.nodes n.toNat
/-- what is read is not too great -/
structure NodeSm (x : HNode) : Prop where
  name : x.name.length ≤ 1073741824
  attrs : x.attrs.length ≤ 1073741824
  each : ∀ a ∈ x.attrs, a.name.length ≤ 1073741824 ∧ a.value.length ≤ 1073741824
  text : x.text.length ≤ 1073741824
  kids : x.kids.length ≤ 1073741824
structure DocSm (d : HDoc) : Prop where
  len : d.nodes.length ≤ 1073741824
  each : ∀ x ∈ d.nodes, NodeSm x
theorem nodeSm_default : NodeSm default := ⟨by decide, by decide, (fun a ha => by cases ha), by decide, by decide⟩
theorem nth_def {α : Type} [Inhabited α] {l : List α} {k : Nat} (h : ¬ k < l.length) : nth l k = default := by
  unfold nth; rw [List.getD_eq_getElem?_getD, List.getElem?_eq_none (by omega)]; rfl
theorem DocSm.nth {d : HDoc} (h : DocSm d) (k : Nat) : NodeSm (nth d.nodes k) := by
  by_cases hk : k < d.nodes.length
  · exact h.each _ (nth_mem' hk)
  · rw [nth_def hk]; exact nodeSm_default
theorem DocSm.nd {d : HDoc} (h : DocSm d) (n : Int) : NodeSm (nd d n) := h.nth _

/-! ## the first fault of some -/
def fe : Nat → (Nat → Int) → Int
  | 0, _ => 0
  | n + 1, f => if fe n f ≠ 0 then fe n f else f n
theorem fe_none {n : Nat} {f : Nat → Int} (h : ∀ j, j < n → f j = 0) : fe n f = 0 := by
  induction n with
  | zero => rfl
  | succ n ih => unfold fe; rw [if_neg (by rw [ih fun j hj => h j (by omega)]; simp)]; exact h n (by omega)
theorem fe_some {n k : Nat} {f : Nat → Int} (hk : k < n) (h1 : ∀ j, j < k → f j = 0) (h2 : f k ≠ 0) : fe n f = f k := by
  induction n with
  | zero => omega
  | succ n ih =>
    unfold fe
    by_cases hkn : k = n
    · subst hkn; rw [if_neg (by rw [fe_none h1]; simp)]
    · have := ih (by omega); rw [this, if_pos h2]
theorem fe_zero {n : Nat} {f : Nat → Int} (h : fe n f = 0) : ∀ j, j < n → f j = 0 := by
  induction n with
  | zero => intro j hj; omega
  | succ n ih =>
    unfold fe at h
    split at h
    · rename_i h1; exact absurd h h1
    · rename_i h1
      have h1 : fe n f = 0 := by simpa using h1
      intro j hj
      by_cases hjn : j = n
      · subst hjn; exact h
      · exact ih h1 j (by omega)
theorem fe_iff {n : Nat} {f : Nat → Int} : fe n f = 0 ↔ ∀ j, j < n → f j = 0 := ⟨fe_zero, fe_none⟩
/-! ## what is wrong with a document -/
def signB (b : UInt8) : Bool := (decide (97 ≤ b.toNat) && decide (b.toNat ≤ 122)) || ((decide (48 ≤ b.toNat) && decide (b.toNat ≤ 57)) || (b == 45 || (b == 95 || b == 58)))
def firstB (element : Bool) (b : UInt8) : Bool := (decide (97 ≤ b.toNat) && decide (b.toNat ≤ 122)) || (!element && (b == 45 || b == 95))
def nameOK (element : Bool) (s : List UInt8) : Bool := decide (1 ≤ s.length) && (decide (s.length ≤ 40) && (firstB element (s.getD 0 0) && s.all signB))
/-- the place of an attribute; -1: there is none -/
def attrAt (l : List HAttr) (name : List UInt8) : Int := idxM (fun a => a.name == name) l
def attrE (l : List HAttr) (i : Nat) : Int :=
  if nameOK false (nth l i).name = false then 3 else if 400 < (nth l i).value.length then 2 else if 0 ≤ attrAt (l.take i) (nth l i).name then 3 else 0
def attrsE (l : List HAttr) : Int := if 12 < l.length then 2 else fe l.length (attrE l)
def bareM (x : HNode) : Bool :=
  (decide (x.kind = 2) || decide (x.kind = 5) || decide (x.name = [])) && (decide (x.kind = 2) || decide (x.attrs = [])) && (decide (x.kind = 3) || decide (x.kind = 4) || decide (x.text = [])) && (decide (x.kind = 1) || decide (x.kind = 2) || decide (x.kids = []))
def nodeE (x : HNode) : Int :=
  if x.kind < 1 ∨ 5 < x.kind ∨ bareM x = false then 7 else if x.kind = 2 ∧ nameOK true x.name = false then 3
  else if attrsE x.attrs ≠ 0 then attrsE x.attrs else if 400 < x.text.length ∨ 400 < x.name.length then 2 else 0
def inD (d : HDoc) (n : Int) : Prop := 0 ≤ n ∧ n < d.nodes.length
instance (d : HDoc) (n : Int) : Decidable (inD d n) := by unfold inD; infer_instance
def headE (d : HDoc) (i : Nat) : Int := if ¬ ((nth d.nodes i).kind = 1 ↔ i = 0) then 3 else nodeE (nth d.nodes i)
def kidE (d : HDoc) (i k : Nat) : Int :=
  let kid := nth (nth d.nodes i).kids k
  if ¬ inD d kid ∨ (nd d kid).parent ≠ i ∨ kid ∈ (nth d.nodes i).kids.take k then 3 else if i = 0 ∧ (nd d kid).kind = 3 then 7 else 0
def kidsE (d : HDoc) (i : Nat) : Int := fe (nth d.nodes i).kids.length (kidE d i)
def parE (d : HDoc) (i : Nat) : Int :=
  let p := (nth d.nodes i).parent
  if p ≠ -1 ∧ (¬ inD d p ∨ (i : Int) ∉ (nd d p).kids) then 3 else 0
/-- how many are above -/
def upF : Nat → HDoc → Int → Nat
  | 0, _, _ => 0
  | f + 1, d, n => if 0 ≤ (nd d n).parent then upF f d (nd d n).parent + 1 else 0
def up (d : HDoc) (n : Int) : Nat := upF (d.nodes.length + 1) d n
def deepE (d : HDoc) (i : Nat) : Int := if d.nodes.length < up d i then 8 else if 40 < up d i then 2 else 0
def docE (d : HDoc) : Int :=
  if 200 < d.nodes.length then 2 else if d.nodes.length = 0 then 3
  else if fe d.nodes.length (headE d) ≠ 0 then fe d.nodes.length (headE d)
  else if fe d.nodes.length (kidsE d) ≠ 0 then fe d.nodes.length (kidsE d)
  else if fe d.nodes.length (parE d) ≠ 0 then fe d.nodes.length (parE d)
  else if (nd d 0).parent ≠ -1 then 3
  else fe d.nodes.length (deepE d)
end Go.Proofs.K
end
section
/- Documents as they are handed in: readers. -/
set_option linter.unusedSimpArgs false
set_option linter.unusedVariables false
namespace Go.Proofs.YtggekcghfpfmiaaDoor
open Go Go.Sim Go.Proofs Go.Proofs.K Go.ChangeShapes Go.WideShapes Go.ChangeAt Go.RowKit
variable {H : Type} {enc : TypeId × Value → H} {w : World}
end Go.Proofs.YtggekcghfpfmiaaDoor
end
section
/- Numbers in order, each once (plain). -/
set_option linter.unusedSimpArgs false
set_option linter.unusedVariables false
namespace Go.Proofs.K
open Go Go.Sim Go.Proofs
end Go.Proofs.K
end
section
/- Documents that are right: their trees. -/
set_option linter.unusedSimpArgs false
set_option linter.unusedVariables false
namespace Go.Proofs.K
open Go Go.Sim Go.Proofs

theorem nd_nat (d : HDoc) (i : Nat) : nd d (i : Int) = nth d.nodes i := by simp [nd]
theorem inD_nat {d : HDoc} {i : Nat} : inD d (i : Int) ↔ i < d.nodes.length := by unfold inD; omega
theorem inD.nat {d : HDoc} {n : Int} (h : inD d n) : n.toNat < d.nodes.length ∧ (n.toNat : Int) = n := by unfold inD at h; omega
theorem nodup_of_take {α : Type} [Inhabited α] {l : List α} (h : ∀ k, k < l.length → nth l k ∉ l.take k) : l.Nodup := by
  rw [List.Nodup, List.pairwise_iff_getElem]
  intro i j hi hj hij heq
  have hn : ∀ j (hj : j < l.length), l[j] = nth l j := fun j hj => by have := nth_some hj; rw [List.getElem?_eq_getElem hj] at this; exact Option.some.inj this
  refine h j hj ?_
  rw [← hn j hj, ← heq, List.mem_take_iff_getElem]
  exact ⟨i, by omega, rfl⟩
theorem take_of_nodup {α : Type} [Inhabited α] {l : List α} (h : l.Nodup) {k : Nat} (hk : k < l.length) : nth l k ∉ l.take k := by
  intro hm
  have hn : ∀ j (hj : j < l.length), l[j] = nth l j := fun j hj => by have := nth_some hj; rw [List.getElem?_eq_getElem hj] at this; exact Option.some.inj this
  rw [List.mem_take_iff_getElem] at hm
  obtain ⟨i, hi, he⟩ := hm
  rw [List.Nodup, List.pairwise_iff_getElem] at h
  rw [← hn k hk] at he
  exact h i k (by omega) hk (by omega) he
theorem upF_mono {d : HDoc} : ∀ {f : Nat} {n : Int} {g : Nat}, upF f d n < f → f ≤ g → upF g d n = upF f d n
  | 0, n, g, h, _ => by omega
  | f + 1, n, 0, _, h => by omega
  | f + 1, n, g + 1, h, hg => by
    unfold upF at h ⊢
    split
    · rename_i hp
      rw [if_pos hp] at h
      rw [upF_mono (f := f) (by omega) (by omega)]
    · rfl

/-- a document that is right -/
structure DV (d : HDoc) : Prop where
  pos : 0 < d.nodes.length
  len : d.nodes.length ≤ 200
  kind : ∀ n, inD d n → ((nd d n).kind = 1 ↔ n = 0)
  node : ∀ n, inD d n → nodeE (nd d n) = 0
  kid : ∀ n, inD d n → ∀ k ∈ (nd d n).kids, inD d k ∧ (nd d k).parent = n
  nodup : ∀ n, inD d n → (nd d n).kids.Nodup
  top : ∀ k ∈ (nd d 0).kids, (nd d k).kind ≠ 3
  par : ∀ n, inD d n → (nd d n).parent = -1 ∨ (inD d (nd d n).parent ∧ n ∈ (nd d (nd d n).parent).kids)
  root : (nd d 0).parent = -1
  fin : ∀ n, inD d n → up d n ≤ d.nodes.length
  deep : ∀ n, inD d n → up d n ≤ 40

theorem docE_iff (d : HDoc) : docE d = 0 ↔ DV d := by
  have all : ∀ {p : Int → Prop}, (∀ n, inD d n → p n) ↔ ∀ i : Nat, i < d.nodes.length → p i := fun {p} =>
    ⟨fun h i hi => h i (inD_nat.2 hi), fun h n hn => by have := h n.toNat hn.nat.1; rwa [hn.nat.2] at this⟩
  have h1 : fe d.nodes.length (headE d) = 0 ↔ ∀ n, inD d n → ((nd d n).kind = 1 ↔ n = 0) ∧ nodeE (nd d n) = 0 := by
    rw [fe_iff, all]
    refine forall_congr' fun i => imp_congr_right fun hi => ?_
    unfold headE
    rw [nd_nat]
    by_cases hc : (nth d.nodes i).kind = 1 ↔ i = 0
    · rw [if_neg (by simpa using hc)]
      exact ⟨fun h => ⟨hc.trans (by omega), h⟩, fun h => h.2⟩
    · rw [if_pos hc]
      exact ⟨fun h => by omega, fun h => absurd (h.1.trans (by omega)) hc⟩
  have h2 : fe d.nodes.length (kidsE d) = 0 ↔ (∀ n, inD d n → (∀ k ∈ (nd d n).kids, inD d k ∧ (nd d k).parent = n) ∧ (nd d n).kids.Nodup) ∧ (0 < d.nodes.length → ∀ k ∈ (nd d 0).kids, (nd d k).kind ≠ 3) := by
    rw [fe_iff, all]
    constructor
    · intro h
      refine ⟨fun i hi => ?_, fun h0 k hk => ?_⟩
      · have hi' := fe_zero (h i hi)
        rw [nd_nat]
        refine ⟨fun k hk => ?_, nodup_of_take fun k hk => ?_⟩
        · obtain ⟨j, hj, rfl⟩ := mem_nth hk
          have := hi' j hj
          unfold kidE at this
          simp only at this
          split at this
          · omega
          · rename_i hn
            simp only [not_or, Classical.not_not] at hn
            exact ⟨hn.1, hn.2.1⟩
        · have := hi' k hk
          unfold kidE at this
          simp only at this
          split at this
          · omega
          · rename_i hn
            simp only [not_or] at hn
            exact hn.2.2
      · have hi' := fe_zero (h 0 h0)
        have e0 : nd d 0 = nth d.nodes 0 := nd_nat d 0
        rw [e0] at hk
        obtain ⟨j, hj, rfl⟩ := mem_nth hk
        have := hi' j hj
        unfold kidE at this
        simp only at this
        split at this
        · omega
        · split at this
          · omega
          · rename_i hn
            intro hh
            exact hn (by simpa using hh)
    · intro ⟨h, ht⟩ i hi
      refine fe_none fun k hk => ?_
      have hi' := h i hi
      rw [nd_nat] at hi'
      have hm := nth_mem' hk
      unfold kidE
      simp only
      rw [if_neg, if_neg]
      · rintro ⟨rfl, hh⟩
        exact ht (by omega) _ (by rw [show nd d 0 = nth d.nodes 0 from nd_nat d 0]; exact hm) hh
      · simp only [not_or, Classical.not_not]
        exact ⟨(hi'.1 _ hm).1, (hi'.1 _ hm).2, take_of_nodup hi'.2 hk⟩
  have h3 : fe d.nodes.length (parE d) = 0 ↔ ∀ n, inD d n → (nd d n).parent = -1 ∨ (inD d (nd d n).parent ∧ n ∈ (nd d (nd d n).parent).kids) := by
    rw [fe_iff, all]
    refine forall_congr' fun i => imp_congr_right fun hi => ?_
    unfold parE
    simp only
    rw [nd_nat]
    by_cases hp : (nth d.nodes i).parent = -1
    · rw [if_neg (by simp [hp])]; simp [hp]
    · by_cases hq : inD d (nth d.nodes i).parent ∧ (i : Int) ∈ (nd d (nth d.nodes i).parent).kids
      · rw [if_neg (by rintro ⟨_, hh⟩; exact hh.elim (fun h => h hq.1) (fun h => h hq.2))]
        exact ⟨fun _ => .inr hq, fun _ => rfl⟩
      · rw [if_pos ⟨hp, by rw [← Classical.not_and_iff_not_or_not]; exact hq⟩]
        exact ⟨fun h => by omega, fun h => absurd (h.resolve_left hp) hq⟩
  have h4 : fe d.nodes.length (deepE d) = 0 ↔ ∀ n, inD d n → up d n ≤ d.nodes.length ∧ up d n ≤ 40 := by
    rw [fe_iff, all]
    refine forall_congr' fun i => imp_congr_right fun hi => ?_
    unfold deepE
    split
    · omega
    · split <;> omega
  constructor
  · intro h
    unfold docE at h
    split at h
    · omega
    · split at h
      · omega
      · split at h
        · contradiction
        · split at h
          · contradiction
          · split at h
            · contradiction
            · split at h
              · omega
              · rename_i g1 g2 g3 g4 g5 g6
                simp only [ne_eq, Classical.not_not] at g3 g4 g5 g6
                have k1 := h1.1 g3
                have k2 := h2.1 g4
                have k3 := h3.1 g5
                have k4 := h4.1 h
                exact ⟨by omega, by omega, fun n hn => (k1 n hn).1, fun n hn => (k1 n hn).2, fun n hn => (k2.1 n hn).1, fun n hn => (k2.1 n hn).2, k2.2 (by omega), k3, g6, fun n hn => (k4 n hn).1, fun n hn => (k4 n hn).2⟩
  · intro V
    have hl := V.len
    have hp := V.pos
    unfold docE
    rw [if_neg (by omega), if_neg (by omega), if_neg, if_neg, if_neg, if_neg (by simp [V.root])]
    · exact h4.2 fun n hn => ⟨V.fin n hn, V.deep n hn⟩
    · simp only [ne_eq, Classical.not_not]; exact h3.2 V.par
    · simp only [ne_eq, Classical.not_not]; exact h2.2 ⟨fun n hn => ⟨V.kid n hn, V.nodup n hn⟩, fun _ => V.top⟩
    · simp only [ne_eq, Classical.not_not]; exact h1.2 fun n hn => ⟨V.kind n hn, V.node n hn⟩

section
variable {d : HDoc}
theorem DV.zero (V : DV d) : inD d 0 := by have := V.pos; unfold inD; omega
theorem DV.par_in (V : DV d) {n : Int} (hn : inD d n) (hp : 0 ≤ (nd d n).parent) : inD d (nd d n).parent ∧ n ∈ (nd d (nd d n).parent).kids := by
  rcases V.par n hn with h | h
  · omega
  · exact h
theorem DV.up_par (V : DV d) {n : Int} (hn : inD d n) (hp : 0 ≤ (nd d n).parent) : up d n = up d (nd d n).parent + 1 := by
  have h1 : up d n = upF d.nodes.length d (nd d n).parent + 1 := by unfold up; conv => lhs; unfold upF
                                                                    rw [if_pos hp]
  have h2 := V.fin n hn
  have h3 : up d (nd d n).parent = upF d.nodes.length d (nd d n).parent := upF_mono (f := d.nodes.length) (by omega) (by omega)
  rw [h1, h3]
theorem DV.up_top (V : DV d) {n : Int} (hp : ¬ 0 ≤ (nd d n).parent) : up d n = 0 := by unfold up upF; rw [if_neg hp]
theorem DV.up_kid (V : DV d) {n k : Int} (hn : inD d n) (hk : k ∈ (nd d n).kids) : up d k = up d n + 1 := by
  obtain ⟨h1, h2⟩ := V.kid n hn k hk
  have := V.up_par h1 (by rw [h2]; exact hn.1)
  rwa [h2] at this
theorem DV.up_lt (V : DV d) {n k : Int} (hn : inD d n) (hk : k ∈ (nd d n).kids) : up d n < 40 := by
  have := V.up_kid hn hk
  have := V.deep k (V.kid n hn k hk).1
  omega
/-- from a node to its kids -/
theorem DV.down (V : DV d) {p : Int → Prop} (h : ∀ n, inD d n → (∀ k ∈ (nd d n).kids, p k) → p n) : ∀ n, inD d n → p n := by
  have : ∀ m n, inD d n → 40 ≤ m + up d n → p n := by
    intro m
    induction m with
    | zero => intro n hn hm; exact h n hn fun k hk => by have := V.up_lt hn hk; omega
    | succ m ih => intro n hn hm; exact h n hn fun k hk => ih k (V.kid n hn k hk).1 (by have := V.up_kid hn hk; omega)
  exact fun n hn => this 40 n hn (by omega)
/-- from a node to its parent -/
theorem DV.rise (V : DV d) {p : Int → Prop} (h : ∀ n, inD d n → (0 ≤ (nd d n).parent → p (nd d n).parent) → p n) : ∀ n, inD d n → p n := by
  have : ∀ m n, inD d n → up d n ≤ m → p n := by
    intro m
    induction m with
    | zero => intro n hn hm; exact h n hn fun hp => by have := V.up_par hn hp; omega
    | succ m ih => intro n hn hm; exact h n hn fun hp => ih _ (V.par_in hn hp).1 (by have := V.up_par hn hp; omega)
  exact fun n hn => this _ n hn (Nat.le_refl _)

/-- a node, and all below it -/
def belF : Nat → HDoc → Int → List Int
  | 0, _, n => [n]
  | f + 1, d, n => n :: (nd d n).kids.flatMap (belF f d)
def below (d : HDoc) (n : Int) : List Int := belF 40 d n
theorem flatMap_congr' {α β : Type} {l : List α} {f g : α → List β} (h : ∀ x ∈ l, f x = g x) : l.flatMap f = l.flatMap g := by
  induction l with
  | nil => rfl
  | cons x r ih => rw [List.flatMap_cons, List.flatMap_cons, h x List.mem_cons_self, ih fun y hy => h y (List.mem_cons_of_mem _ hy)]
theorem belF_eq (V : DV d) : ∀ (f g : Nat) (n : Int), inD d n → 40 ≤ f + up d n → 40 ≤ g + up d n → belF f d n = belF g d n
  | 0, 0, _, _, _, _ => rfl
  | 0, g + 1, n, hn, hf, _ => by
    have : (nd d n).kids = [] := List.eq_nil_iff_forall_not_mem.2 fun k hk => by have := V.up_lt hn hk; omega
    simp [belF, this]
  | f + 1, 0, n, hn, _, hg => by
    have : (nd d n).kids = [] := List.eq_nil_iff_forall_not_mem.2 fun k hk => by have := V.up_lt hn hk; omega
    simp [belF, this]
  | f + 1, g + 1, n, hn, hf, hg => by
    unfold belF
    rw [flatMap_congr' fun k hk => belF_eq V f g k (V.kid n hn k hk).1 (by have := V.up_kid hn hk; omega) (by have := V.up_kid hn hk; omega)]
theorem below_eq (V : DV d) {n : Int} (hn : inD d n) : below d n = n :: (nd d n).kids.flatMap (below d) := by
  have : below d n = n :: (nd d n).kids.flatMap (belF 39 d) := rfl
  rw [this, flatMap_congr' fun k hk => belF_eq V 39 40 k (V.kid n hn k hk).1 (by have := V.up_kid hn hk; omega) (by omega)]
  rfl
theorem below_in (V : DV d) : ∀ n, inD d n → ∀ m ∈ below d n, inD d m := V.down fun n hn ih m hm => by
  rw [below_eq V hn] at hm
  rcases List.mem_cons.1 hm with rfl | hm
  · exact hn
  · obtain ⟨k, hk, hm⟩ := List.mem_flatMap.1 hm
    exact ih k hk m hm
theorem below_self (V : DV d) {n : Int} (hn : inD d n) : n ∈ below d n := by rw [below_eq V hn]; exact List.mem_cons_self

/-- a node, and all above it -/
def chF : Nat → HDoc → Int → List Int
  | 0, _, n => [n]
  | f + 1, d, n => if 0 ≤ (nd d n).parent then n :: chF f d (nd d n).parent else [n]
def chain (d : HDoc) (n : Int) : List Int := chF 40 d n
theorem chF_eq (V : DV d) : ∀ (f g : Nat) (n : Int), inD d n → up d n ≤ f → up d n ≤ g → chF f d n = chF g d n
  | 0, 0, _, _, _, _ => rfl
  | 0, g + 1, n, hn, hf, _ => by
    have : ¬ 0 ≤ (nd d n).parent := fun hp => by have := V.up_par hn hp; omega
    simp [chF, this]
  | f + 1, 0, n, hn, _, hg => by
    have : ¬ 0 ≤ (nd d n).parent := fun hp => by have := V.up_par hn hp; omega
    simp [chF, this]
  | f + 1, g + 1, n, hn, hf, hg => by
    unfold chF
    split
    · rename_i hp
      rw [chF_eq V f g _ (V.par_in hn hp).1 (by have := V.up_par hn hp; omega) (by have := V.up_par hn hp; omega)]
    · rfl
theorem chain_up (V : DV d) {n : Int} (hn : inD d n) (hp : 0 ≤ (nd d n).parent) : chain d n = n :: chain d (nd d n).parent := by
  have : chain d n = n :: chF 39 d (nd d n).parent := by
    have e : ∀ f, chF (f + 1) d n = n :: chF f d (nd d n).parent := fun f => by rw [chF, if_pos hp]
    exact e 39
  rw [this, chF_eq V 39 40 _ (V.par_in hn hp).1 (by have := V.up_par hn hp; have := V.deep n hn; omega) (V.deep _ (V.par_in hn hp).1)]
  rfl
theorem chain_top (V : DV d) {n : Int} (hp : ¬ 0 ≤ (nd d n).parent) : chain d n = [n] := by
  have e : ∀ f, chF (f + 1) d n = [n] := fun f => by rw [chF, if_neg hp]
  exact e 39
theorem chain_self (d : HDoc) (n : Int) : n ∈ chain d n := by show n ∈ chF 40 d n; unfold chF; split <;> simp
theorem chain_len (V : DV d) : ∀ n, inD d n → (chain d n).length = up d n + 1 := V.rise fun n hn ih => by
  by_cases hp : 0 ≤ (nd d n).parent
  · rw [chain_up V hn hp, List.length_cons, ih hp, V.up_par hn hp]
  · rw [chain_top V hp, V.up_top hp]; rfl
theorem chain_le (V : DV d) : ∀ n, inD d n → ∀ m ∈ chain d n, up d m ≤ up d n ∧ (up d m = up d n → m = n) := V.rise fun n hn ih m hm => by
  by_cases hp : 0 ≤ (nd d n).parent
  · rw [chain_up V hn hp] at hm
    rcases List.mem_cons.1 hm with rfl | hm
    · exact ⟨Nat.le_refl _, fun _ => rfl⟩
    · have := ih hp m hm
      have := V.up_par hn hp
      exact ⟨by omega, fun h => by omega⟩
  · rw [chain_top V hp] at hm; simp at hm; subst hm; exact ⟨Nat.le_refl _, fun _ => rfl⟩
/-- two of them on one step are one -/
theorem chain_one (V : DV d) : ∀ n, inD d n → ∀ a ∈ chain d n, ∀ b ∈ chain d n, up d a = up d b → a = b := V.rise fun n hn ih a ha b hb hab => by
  by_cases hp : 0 ≤ (nd d n).parent
  · have hu := V.up_par hn hp
    rw [chain_up V hn hp] at ha hb
    have hle := fun m hm => (chain_le V _ (V.par_in hn hp).1 m hm).1
    rcases List.mem_cons.1 ha with rfl | ha <;> rcases List.mem_cons.1 hb with rfl | hb
    · rfl
    · have := hle b hb; omega
    · have := hle a ha; omega
    · exact ih hp a ha b hb hab
  · rw [chain_top V hp] at ha hb; simp at ha hb; rw [ha, hb]
theorem chain_trans (V : DV d) : ∀ n, inD d n → ∀ m ∈ chain d n, ∀ t ∈ chain d m, t ∈ chain d n := V.rise fun n hn ih m hm t ht => by
  by_cases hp : 0 ≤ (nd d n).parent
  · rw [chain_up V hn hp] at hm ⊢
    rcases List.mem_cons.1 hm with rfl | hm
    · rw [← chain_up V hn hp]; exact ht
    · exact List.mem_cons_of_mem _ (ih hp m hm t ht)
  · rw [chain_top V hp] at hm; simp at hm; subst hm; exact ht
/-- below and above are one thing -/
theorem mem_below (V : DV d) {m n : Int} (hm : inD d m) (hn : inD d n) : m ∈ below d n ↔ n ∈ chain d m := by
  constructor
  · revert m hm
    refine V.down (p := fun n => ∀ {m}, inD d m → m ∈ below d n → n ∈ chain d m) (fun n hn ih m hm h => ?_) n hn
    rw [below_eq V hn] at h
    rcases List.mem_cons.1 h with rfl | h
    · exact chain_self _ _
    · obtain ⟨k, hk, h⟩ := List.mem_flatMap.1 h
      have h1 := ih k hk hm h
      have h2 := V.kid n hn k hk
      refine chain_trans V m hm k h1 n ?_
      rw [chain_up V h2.1 (by rw [h2.2]; exact hn.1), h2.2]
      exact List.mem_cons_of_mem _ (chain_self _ _)
  · revert n hn
    refine V.rise (p := fun m => ∀ {n}, inD d n → n ∈ chain d m → m ∈ below d n) (fun m hm ih n hn h => ?_) m hm
    by_cases hp : 0 ≤ (nd d m).parent
    · rw [chain_up V hm hp] at h
      rcases List.mem_cons.1 h with rfl | h
      · exact below_self V hm
      · have h1 := ih hp hn h
        obtain ⟨h2, h3⟩ := V.par_in hm hp
        generalize (nd d m).parent = q at *
        clear ih hp
        revert h1
        refine V.down (p := fun n => q ∈ below d n → m ∈ below d n) (fun n hn ih h1 => ?_) n hn
        rw [below_eq V hn] at h1 ⊢
        rcases List.mem_cons.1 h1 with rfl | h1
        · exact List.mem_cons_of_mem _ (List.mem_flatMap.2 ⟨m, h3, below_self V hm⟩)
        · obtain ⟨k, hk, h1⟩ := List.mem_flatMap.1 h1
          exact List.mem_cons_of_mem _ (List.mem_flatMap.2 ⟨k, hk, ih k hk h1⟩)
    · rw [chain_top V hp] at h; simp at h; subst h; exact below_self V hm
theorem below_nodup (V : DV d) : ∀ n, inD d n → (below d n).Nodup := V.down fun n hn ih => by
  rw [below_eq V hn, List.nodup_cons]
  constructor
  · intro hm
    obtain ⟨k, hk, hm⟩ := List.mem_flatMap.1 hm
    have h1 := (mem_below V hn (V.kid n hn k hk).1).1 hm
    have := (chain_le V n hn k h1).1
    have := V.up_kid hn hk
    omega
  · rw [List.nodup_iff_pairwise_ne, List.pairwise_flatMap]
    refine ⟨fun k hk => List.nodup_iff_pairwise_ne.1 (ih k hk), ?_⟩
    have := V.nodup n hn
    rw [List.nodup_iff_pairwise_ne] at this
    refine this.imp_of_mem fun {a b} ha hb hab x hx y hy hxy => ?_
    subst hxy
    have ia := (V.kid n hn a ha).1
    have ib := (V.kid n hn b hb).1
    have ix := below_in V a ia x hx
    exact hab (chain_one V x ix a ((mem_below V ix ia).1 hx) b ((mem_below V ix ib).1 hy) (by rw [V.up_kid hn ha, V.up_kid hn hb]))
theorem nodup_filter {α : Type} [DecidableEq α] (a : α) : ∀ (l : List α), l.Nodup → l.length ≤ (l.filter (· ≠ a)).length + 1
  | [], _ => by simp
  | x :: r, h => by
    rw [List.nodup_cons] at h
    by_cases hx : x = a
    · subst hx
      have : r.filter (· ≠ x) = r := List.filter_eq_self.2 fun y hy => by simp; rintro rfl; exact h.1 hy
      rw [List.filter_cons_of_neg (by simp), this, List.length_cons]
      omega
    · have := nodup_filter a r h.2
      rw [List.filter_cons_of_pos (by simpa using hx), List.length_cons, List.length_cons]
      omega
theorem nodup_len : ∀ (N : Nat) (l : List Int), l.Nodup → (∀ x ∈ l, 0 ≤ x ∧ x < N) → l.length ≤ N
  | 0, l, _, h => by
    cases l with
    | nil => simp
    | cons x r => have := h x List.mem_cons_self; omega
  | N + 1, l, hn, h => by
    have h1 := nodup_filter (N : Int) l hn
    have h2 := nodup_len N (l.filter (· ≠ (N : Int))) (hn.sublist List.filter_sublist) fun x hx => by
      rw [List.mem_filter] at hx
      have := h x hx.1
      have h3 : x ≠ (N : Int) := by simpa using hx.2
      omega
    omega
theorem below_len (V : DV d) {n : Int} (hn : inD d n) : (below d n).length ≤ d.nodes.length := nodup_len _ _ (below_nodup V n hn) (below_in V n hn)
end
end Go.Proofs.K
end
section
/- Contracts of library functions at this program: the shelf's, laid by its tools. -/
namespace Go.Proofs
open Go.Shelf
def Tryd.lays160_ren : Go.Shelf.Ren := ⟨fun | 160 => 80 | 232 => 86 | 231 => 85 | 227 => 87 | 234 => 89 | 233 => 88 | 236 => 91 | 235 => 90 | 228 => 92 | 271 => 94 | 151 => 26 | 197 => 93 | 120 => 96 | 152 => 41 | 260 => 95 | 137 => 54 | 119 => 55 | 224 => 56 | 225 => 57 | 217 => 71 | 266 => 79 | n => n, fun | 9 => 9 | 4 => 4 | 3 => 3 | 5 => 5 | 117 => 122 | 116 => 121 | 0 => 0 | 124 => 125 | 21 => 21 | 105 => 126 | 46 => 100 | 119 => 128 | 139 => 131 | 138 => 130 | n => n, fun | 3 => 1 | 4 => 2 | n => n⟩
theorem Tryd.lays160 : Go.Proofs.Lays.n160 Tryd.prog Tryd.lays160_ren := {
  mixed := by kernel_rfl
  f119 := Tryd.func55.trans (congrArg some (by kernel_rfl))
  f120 := Tryd.func96.trans (congrArg some (by kernel_rfl))
  f137 := Tryd.func54.trans (congrArg some (by kernel_rfl))
  f151 := Tryd.func26.trans (congrArg some (by kernel_rfl))
  f152 := Tryd.func41.trans (congrArg some (by kernel_rfl))
  f160 := Tryd.func80.trans (congrArg some (by kernel_rfl))
  f197 := Tryd.func93.trans (congrArg some (by kernel_rfl))
  f217 := Tryd.func71.trans (congrArg some (by kernel_rfl))
  f224 := Tryd.func56.trans (congrArg some (by kernel_rfl))
  f225 := Tryd.func57.trans (congrArg some (by kernel_rfl))
  f227 := Tryd.func87.trans (congrArg some (by kernel_rfl))
  f228 := Tryd.func92.trans (congrArg some (by kernel_rfl))
  f231 := Tryd.func85.trans (congrArg some (by kernel_rfl))
  f232 := Tryd.func86.trans (congrArg some (by kernel_rfl))
  f233 := Tryd.func88.trans (congrArg some (by kernel_rfl))
  f234 := Tryd.func89.trans (congrArg some (by kernel_rfl))
  f235 := Tryd.func90.trans (congrArg some (by kernel_rfl))
  f236 := Tryd.func91.trans (congrArg some (by kernel_rfl))
  f260 := Tryd.func95.trans (congrArg some (by kernel_rfl))
  f266 := Tryd.func79.trans (congrArg some (by kernel_rfl))
  f271 := Tryd.func94.trans (congrArg some (by kernel_rfl))
  t0 := Tryd.underlying0
  a0 := Tryd.isAgg0
  z0 := Tryd.sizeOf0
  v0 := Tryd.zeroValue0
  t3 := Tryd.underlying3
  a3 := Tryd.isAgg3
  z3 := Tryd.sizeOf3
  v3 := Tryd.zeroValue3
  t4 := Tryd.underlying4
  a4 := Tryd.isAgg4
  z4 := Tryd.sizeOf4
  v4 := Tryd.zeroValue4
  t5 := Tryd.underlying5
  a5 := Tryd.isAgg5
  z5 := Tryd.sizeOf5
  v5 := Tryd.zeroValue5
  t9 := Tryd.underlying9
  a9 := Tryd.isAgg9
  z9 := Tryd.sizeOf9
  v9 := Tryd.zeroValue9
  t21 := Tryd.underlying21
  a21 := Tryd.isAgg21
  z21 := Tryd.sizeOf21
  v21 := Tryd.zeroValue21
  t46 := Tryd.underlying100
  a46 := Tryd.isAgg100
  z46 := Tryd.sizeOf100
  v46 := Tryd.zeroValue100
  t105 := Tryd.underlying126
  a105 := Tryd.isAgg126
  z105 := Tryd.sizeOf126
  v105 := Tryd.zeroValue126
  t116 := Tryd.underlying121
  a116 := Tryd.isAgg121
  z116 := Tryd.sizeOf121
  t117 := Tryd.underlying122
  a117 := Tryd.isAgg122
  z117 := Tryd.sizeOf122
  v117 := Tryd.zeroValue122
  t119 := Tryd.underlying128
  a119 := Tryd.isAgg128
  z119 := Tryd.sizeOf128
  t124 := Tryd.underlying125
  a124 := Tryd.isAgg125
  z124 := Tryd.sizeOf125
  v124 := Tryd.zeroValue125
  t138 := Tryd.underlying130
  a138 := Tryd.isAgg130
  z138 := Tryd.sizeOf130
  v138 := Tryd.zeroValue130
  t139 := Tryd.underlying131
  a139 := Tryd.isAgg131
  z139 := Tryd.sizeOf131
  v139 := Tryd.zeroValue131
  g3 := by kernel_rfl
  g4 := by kernel_rfl }
def Tryd.lays137_ren : Go.Shelf.Ren := ⟨fun | 137 => 54 | 217 => 71 | 266 => 79 | n => n, fun | 9 => 9 | 5 => 5 | 3 => 3 | n => n, fun | n => n⟩
theorem Tryd.lays137 : Go.Proofs.Lays.n137 Tryd.prog Tryd.lays137_ren := {
  mixed := by kernel_rfl
  f137 := Tryd.func54.trans (congrArg some (by kernel_rfl))
  f217 := Tryd.func71.trans (congrArg some (by kernel_rfl))
  f266 := Tryd.func79.trans (congrArg some (by kernel_rfl))
  t3 := Tryd.underlying3
  a3 := Tryd.isAgg3
  z3 := Tryd.sizeOf3
  v3 := Tryd.zeroValue3
  t5 := Tryd.underlying5
  a5 := Tryd.isAgg5
  z5 := Tryd.sizeOf5
  v5 := Tryd.zeroValue5
  t9 := Tryd.underlying9
  a9 := Tryd.isAgg9
  z9 := Tryd.sizeOf9
  v9 := Tryd.zeroValue9 }
open Go.RowKit in
theorem Tryd.strings_IndexByte (s : ByteArray) (c : Int) (w : World) :
    Calls Tryd.prog 54 #[.string s, .int .u8 c] w fun e w' => e = .returned (.int .i64 (Lib.indexByte s.data.toList c.toNat.toUInt8)) ∧ w' = w := Any.strings_IndexByte Tryd.lays137 s c w
end Go.Proofs
end
section
/- Documents: names, attributes, one node. -/
set_option linter.unusedSimpArgs false
set_option linter.unusedVariables false
namespace Go.Proofs.K
open Go Go.Sim Go.Proofs
variable {G : Glob}

/-! ## names -/
theorem indexByte_ok (s : List UInt8) (c : UInt8) : PCalls (Pg G) 54 [.str s, .int .u8 c.toNat] (aInt (Lib.indexByte s c)) := by
  refine PCalls.ofRun ⟨_, Tryd.func54, by kernel_rfl, by kernel_rfl⟩ fun g w vs GR V => ?_
  obtain ⟨u, v, rfl, hu, hv⟩ := V.two_inv
  rw [hu.str_inv', hv.int_inv]
  have := Tryd.strings_IndexByte ⟨⟨s⟩⟩ (c.toNat : Int) w
  refine this.mono fun e w' ⟨he, hw⟩ => ⟨_, he, hw, ?_⟩
  have e : ((c.toNat : Int)).toNat.toUInt8 = c := by simp
  rw [e]
  exact .int _ _
def signsL : List UInt8 := [97, 98, 99, 100, 101, 102, 103, 104, 105, 106, 107, 108, 109, 110, 111, 112, 113, 114, 115, 116, 117, 118, 119, 120, 121, 122, 48, 49, 50, 51, 52, 53, 54, 55, 56, 57, 45, 95, 58]
theorem trim_ok (s cs : List UInt8) (hs : s.length ≤ 1073741824) (hc : cs.length ≤ 1000) (ha : cs.all (fun b => decide (b.toNat < 128)) = true) : PCalls (Pg G) 80 [.str s, .str cs] (.str (Lib.trimS s cs)) := by
  refine ofBelow ⟨_, Tryd.func80, by kernel_rfl, by kernel_rfl⟩ fun g w vs GR V => ?_
  obtain ⟨u, v, rfl, hu, hv⟩ := V.two_inv
  rw [hu.str_inv', hv.str_inv']
  exact (Any.strings_Trim_laid Tryd.lays160 (by kernel_rfl) ⟨⟨s⟩⟩ ⟨⟨cs⟩⟩ w (by show s.length ≤ _; omega) (by show cs.length < _; omega) (ascii_of_all ha)).mono fun e w' ⟨he, hw⟩ => ⟨_, he, hw, fun g w => VRel.str_mk g w _⟩
theorem dropWhile_all {α : Type} (p : α → Bool) (l : List α) : l.dropWhile p = [] ↔ l.all p = true := by
  induction l with
  | nil => simp
  | cons x r ih =>
    rw [List.dropWhile_cons]
    split
    · rename_i h; rw [ih]; simp [h]
    · rename_i h; simp [h]
theorem trim_all (s cs : List UInt8) : Lib.trimS s cs = [] ↔ s.all (cs.contains ·) = true := by
  unfold Lib.trimS Lib.trimLeftS Lib.trimRightS
  rw [dropWhile_all, List.all_reverse]
  have hr : s.all (cs.contains ·) = s.reverse.all (cs.contains ·) := by rw [List.all_reverse]
  rw [hr, ← dropWhile_all]
  generalize s.reverse = l
  refine Iff.trans ?_ (dropWhile_all (cs.contains ·) l)
  constructor
  · intro h
    cases hd : l.dropWhile (cs.contains ·) with
    | nil => rfl
    | cons x r =>
      have h2 := List.head_dropWhile_not (cs.contains ·) (l := l) (by rw [hd]; simp)
      simp only [hd, List.head_cons] at h2
      rw [hd, List.dropWhile_cons] at h
      split at h
      · rename_i h3; rw [h2] at h3; cases h3
      · cases h
  · intro h; rw [h]; rfl
def namedM (s first : List UInt8) : Bool := decide (s ≠ []) && (decide (s.length ≤ 40) && (first.contains (s.getD 0 0) && s.all (signsL.contains ·)))
def k73_1 : List UInt8 := [97, 98, 99, 100, 101, 102, 103, 104, 105, 106, 107, 108, 109, 110, 111, 112, 113, 114, 115, 116, 117, 118, 119, 120, 121, 122, 48, 49, 50, 51, 52, 53, 54, 55, 56, 57, 45, 95, 58]
def c73 : SFun := ⟨(.seq (.reg [⟨(some 4), (.mv (.c (.bool false))), none⟩]) (.seq (.reg [⟨(some 5), (.mv (.t 0)), none⟩, ⟨(some 6), (.bin .neq (.t 5) (.c (.str []))), none⟩, ⟨(some 7), (.mv (.t 6)), none⟩, ⟨(some 8), (.mv (.t 0)), (some (7, true))⟩, ⟨(some 9), (.lenS (.t 8)), (some (7, true))⟩, ⟨(some 10), (.bin .leq (.t 9) (.c (.int .i64 (40)))), (some (7, true))⟩, ⟨(some 11), (.pick (.t 7) (.t 10) (.c (.bool false))), none⟩, ⟨(some 12), (.mv (.t 11)), none⟩, ⟨(some 13), (.mv (.t 1)), (some (12, true))⟩, ⟨(some 14), (.mv (.t 0)), (some (12, true))⟩, ⟨(some 15), (.idxS (.t 14) (.c (.int .i64 (0)))), (some (12, true))⟩, ⟨(some 16), (.call (.c (.fn 54 [] [])) [(.t 13), (.t 15)]), (some (12, true))⟩, ⟨(some 17), (.bin .geq (.t 16) (.c (.int .i64 (0)))), (some (12, true))⟩, ⟨(some 18), (.pick (.t 12) (.t 17) (.c (.bool false))), none⟩, ⟨(some 19), (.mv (.t 18)), none⟩, ⟨(some 20), (.mv (.t 0)), (some (19, true))⟩, ⟨(some 21), (.call (.c (.fn 80 [] [])) [(.t 20), (.c (.str k73_1))]), (some (19, true))⟩, ⟨(some 22), (.bin .eql (.t 21) (.c (.str []))), (some (19, true))⟩, ⟨(some 23), (.pick (.t 19) (.t 22) (.c (.bool false))), none⟩, ⟨(some 4), (.mv (.t 23)), none⟩]) .ret)), [(.tmp 4)]⟩
theorem hc73 : toSF Tryd.prog {} Tryd.f73 = some c73 := by kernel_rfl
theorem hn73 : (Tryd.f73.name == "runtime.NumGoroutine") = false := by kernel_rfl
theorem named_ok (s first : List UInt8) (hs : s.length ≤ 1073741824) : PCalls (Pg G) 73 [.str s, .str first] (.bool (namedM s first)) := fun h => by
  have hI := indexByte_ok (G := G) first (s.getD 0 0)
  have hC := Lib.contains_iff_indexByte first (s.getD 0 0)
  have hT := trim_ok (G := G) s signsL hs (by decide) (by decide)
  have hA := trim_all s signsL
  have hp : ∀ {a : Bool}, (∀ r h', r = AVal.bool a ∧ h' = h → Sim.Sub h' h ∧ r = AVal.bool a) := fun r h' ⟨h1, h2⟩ => by subst h2; exact ⟨Sub.refl _, h1⟩
  unfold namedM
  refine dcalls_of_vc Tryd.func73 hn73 hc73 (by rw [Tryd.ntmps73]; simp) (by rw [Tryd.ntmps73]; decide) ?_
  by_cases h1 : s = []
  · subst h1
    have f1 : (([] : List UInt8) != []) = false := rfl
    simp -dsimp -implicitDefEqProofs (disch := omega) only [↓vcOps_sp 7, ↓vcOps_sp 12, ↓vcOps_sp 19, VCA, Nat.reduceEqDiff, Nat.reduceLeDiff, ↓reduceIte, reduceCtorEq, ne_eq, exists_eq_right_right, c73, f1]
    exact ⟨Sub.refl _, by simp⟩
  · have f1 : (s != []) = true := by simpa using h1
    have hl := List.length_pos_iff.2 h1
    by_cases h2 : s.length ≤ 40
    · have f2 : decide ((s.length : Int) ≤ 40) = true := by rw [decide_eq_true_iff]; omega
      simp -dsimp -implicitDefEqProofs (disch := omega) only [↓vcOps_sp 7, ↓vcOps_sp 12, VCA, Nat.reduceEqDiff, ↓reduceIte, reduceCtorEq, ne_eq, c73, f1, f2]
      refine ⟨by omega, ?_⟩
      refine PCalls.of hI ?_
      cases h3 : first.contains (s.getD 0 0)
      · have f3 : decide ((0 : Int) ≤ Lib.indexByte first (s.getD 0 0)) = false := by rw [← hC]; exact h3
        simp -dsimp -implicitDefEqProofs (disch := omega) only [↓vcOps_sp 19, VCA, Nat.reduceEqDiff, ↓reduceIte, exists_eq_right_right, f3]
        exact ⟨Sub.refl _, by simp⟩
      · have f3 : decide ((0 : Int) ≤ Lib.indexByte first (s.getD 0 0)) = true := by rw [← hC]; exact h3
        simp -dsimp -implicitDefEqProofs (disch := omega) only [↓vcOps_sp 19, VCA, Nat.reduceEqDiff, ↓reduceIte, reduceCtorEq, f3]
        refine PCalls.of hT ?_
        simp -dsimp -implicitDefEqProofs (disch := omega) only [VCA, Nat.reduceEqDiff, ↓reduceIte, exists_eq_right_right]
        refine ⟨Sub.refl _, ?_⟩
        rw [decide_eq_true h1, decide_eq_true h2]
        simp only [Bool.true_and]
        rw [Bool.eq_iff_iff, beq_iff_eq, hA]
    · have f2 : decide ((s.length : Int) ≤ 40) = false := by rw [decide_eq_false_iff_not]; omega
      simp -dsimp -implicitDefEqProofs (disch := omega) only [↓vcOps_sp 7, ↓vcOps_sp 12, ↓vcOps_sp 19, VCA, Nat.reduceEqDiff, ↓reduceIte, reduceCtorEq, ne_eq, exists_eq_right_right, c73, f1, f2]
      exact ⟨Sub.refl _, by simp [h2]⟩
theorem sign_all (b : UInt8) : signsL.contains b = signB b := by
  have := u8_all (p := fun b => signsL.contains b == signB b) (by decide +kernel) b
  simpa using this
theorem first_all (el : Bool) (b : UInt8) : (if el = true then signsL.take 26 else signsL.take 26 ++ [45, 95]).contains b = firstB el b := by
  cases el
  · have := u8_all (p := fun b => (signsL.take 26 ++ [45, 95]).contains b == firstB false b) (by decide +kernel) b
    simpa using this
  · have := u8_all (p := fun b => (signsL.take 26).contains b == firstB true b) (by decide +kernel) b
    simpa using this
theorem namedM_eq (s : List UInt8) (el : Bool) : namedM s (if el = true then signsL.take 26 else signsL.take 26 ++ [45, 95]) = nameOK el s := by
  unfold namedM nameOK
  rw [first_all]
  have e1 : s.all (signsL.contains ·) = s.all signB := by congr 1; funext b; exact sign_all b
  rw [e1]
  have e2 : decide (s ≠ []) = decide (1 ≤ s.length) := by
    rw [Bool.eq_iff_iff, decide_eq_true_iff, decide_eq_true_iff, ← List.length_pos_iff]; exact Iff.rfl
  rw [e2]
def k59_1 : List UInt8 := [97, 98, 99, 100, 101, 102, 103, 104, 105, 106, 107, 108, 109, 110, 111, 112, 113, 114, 115, 116, 117, 118, 119, 120, 121, 122, 48, 49, 50, 51, 52, 53, 54, 55, 56, 57, 45, 95, 58]
def c59 : SFun := ⟨(.seq (.reg [⟨(some 2), (.mv (.c (.bool false))), none⟩]) (.seq (.reg [⟨(some 3), (.mv (.t 0)), none⟩, ⟨(some 4), (.slS (.c (.str k59_1)) none (some (.c (.int .i64 (26))))), none⟩, ⟨(some 5), (.call (.c (.fn 73 [] [])) [(.t 3), (.t 4)]), none⟩, ⟨(some 2), (.mv (.t 5)), none⟩]) .ret)), [(.tmp 2)]⟩
theorem hc59 : toSF Tryd.prog {} Tryd.f59 = some c59 := by kernel_rfl
theorem hn59 : (Tryd.f59.name == "runtime.NumGoroutine") = false := by kernel_rfl
theorem name_ok (s : List UInt8) (hs : s.length ≤ 1073741824) : PCalls (Pg G) 59 [.str s] (.bool (nameOK true s)) := fun h => by
  refine dcalls_of_vc Tryd.func59 hn59 hc59 (by rw [Tryd.ntmps59]; simp) (by rw [Tryd.ntmps59]; decide) ?_
  simp -dsimp -implicitDefEqProofs (disch := omega) only [VCA, Nat.reduceEqDiff, ↓reduceIte, reduceCtorEq, c59]
  refine ⟨by decide, PCalls.of (named_ok s _ hs) ?_⟩
  simp -dsimp -implicitDefEqProofs (disch := omega) only [VCA, ↓reduceIte, exists_eq_right_right]
  exact ⟨Sub.refl _, by rw [← namedM_eq]; rfl⟩
def k74_1 : List UInt8 := [97, 98, 99, 100, 101, 102, 103, 104, 105, 106, 107, 108, 109, 110, 111, 112, 113, 114, 115, 116, 117, 118, 119, 120, 121, 122, 48, 49, 50, 51, 52, 53, 54, 55, 56, 57, 45, 95, 58]
def c74 : SFun := ⟨(.seq (.reg [⟨(some 2), (.mv (.c (.bool false))), none⟩]) (.seq (.reg [⟨(some 3), (.mv (.t 0)), none⟩, ⟨(some 4), (.slS (.c (.str k74_1)) none (some (.c (.int .i64 (26))))), none⟩, ⟨(some 5), (.bin .add (.t 4) (.c (.str [45, 95]))), none⟩, ⟨(some 6), (.call (.c (.fn 73 [] [])) [(.t 3), (.t 5)]), none⟩, ⟨(some 2), (.mv (.t 6)), none⟩]) .ret)), [(.tmp 2)]⟩
theorem hc74 : toSF Tryd.prog {} Tryd.f74 = some c74 := by kernel_rfl
theorem hn74 : (Tryd.f74.name == "runtime.NumGoroutine") = false := by kernel_rfl
theorem attrName_ok (s : List UInt8) (hs : s.length ≤ 1073741824) : PCalls (Pg G) 74 [.str s] (.bool (nameOK false s)) := fun h => by
  refine dcalls_of_vc Tryd.func74 hn74 hc74 (by rw [Tryd.ntmps74]; simp) (by rw [Tryd.ntmps74]; decide) ?_
  simp -dsimp -implicitDefEqProofs (disch := omega) only [VCA, Nat.reduceEqDiff, Nat.reduceAdd, Nat.reduceLeDiff, ↓reduceIte, reduceCtorEq, c74]
  refine ⟨by decide, by decide, PCalls.of (named_ok s _ hs) ?_⟩
  simp -dsimp -implicitDefEqProofs (disch := omega) only [VCA, ↓reduceIte, exists_eq_right_right]
  exact ⟨Sub.refl _, by rw [← namedM_eq]; rfl⟩
def c81 : SFun := ⟨(.seq (.reg [⟨(some 4), (.mv (.c (.int .i64 (0)))), none⟩]) (.seq (.seq (.reg [⟨(some 6), (.mv (.t 0)), none⟩, ⟨(some 7), (.len (.t 6)), none⟩, ⟨(some 8), (.mv (.c (.int .i64 (0)))), none⟩]) (.block 0 (.loop (.seq (.reg [⟨(some 9), (.bin .lss (.t 8) (.t 7)), none⟩]) (.seq (.cond (.t 9) .skip (.exit 0)) (.seq (.block 1 (.seq (.reg [⟨(some 10), (.mv (.t 8)), none⟩, ⟨(some 5), (.mv (.t 10)), none⟩]) (.seq (.reg [⟨(some 11), (.mv (.t 1)), none⟩, ⟨(some 12), (.mv (.t 0)), none⟩, ⟨(some 13), (.mv (.t 5)), none⟩, ⟨(some 14), (.idxA 2 (.t 12) (.t 13)), none⟩, ⟨(some 15), (.ld 2 true (.t 14)), none⟩, ⟨(some 16), (.call (.t 11) [(.t 15)]), none⟩]) (.cond (.t 16) (.seq (.reg [⟨(some 17), (.mv (.t 5)), none⟩, ⟨(some 4), (.mv (.t 17)), none⟩]) .ret) .skip)))) (.reg [⟨(some 18), (.bin .add (.t 8) (.c (.int .i64 (1)))), none⟩, ⟨(some 8), (.mv (.t 18)), none⟩]))))))) (.seq (.reg [⟨(some 4), (.mv (.c (.int .i64 (-1)))), none⟩]) .ret))), [(.tmp 4)]⟩
theorem hc81 : toSF Tryd.prog {} Tryd.f81 = some c81 := by kernel_rfl
theorem hn81 : (Tryd.f81.name == "runtime.NumGoroutine") = false := by kernel_rfl
theorem indexFA_ok {h : Heap} (l : List HAttr) (f : Nat) (a b : List AVal) (p : HAttr → Bool) (hl : l.length ≤ 1073741824)
    (hp : ∀ x, DCalls (Pg G) f (a ++ ([.agg (eAttr x)] ++ b)) h fun r h' => r = .bool (p x) ∧ h' = h) : DCalls (Pg G) 81 [sl eAttr l, .fn f a b] h fun r h' => r = aInt (idxM p l) ∧ h' = h := by
  refine dcalls_of_vc Tryd.func81 hn81 hc81 (by rw [Tryd.ntmps81]; simp) (by rw [Tryd.ntmps81]; decide) ?_
  simp -dsimp -implicitDefEqProofs (disch := omega) only [VCA, ↓reduceIte, reduceCtorEq, c81]
  refine LoopVC.intro (fun m e h' => ∃ k : Nat, k ≤ l.length ∧ m = l.length - k ∧ e 0 = sl eAttr l ∧ e 1 = .fn f a b ∧ e 7 = aInt l.length ∧ e 8 = aInt k ∧ h' = h ∧ ∀ j, j < k → p (nth l j) = false) l.length ⟨0, by omega, by omega, rfl, rfl, rfl, rfl, rfl, by omega⟩ ?_
  rintro m e h' ⟨k, hk, rfl, he0, he1, he7, he8, rfl, hj⟩
  simp -dsimp -implicitDefEqProofs (disch := omega) only [VCA, ↓reduceIte, he7, he8]
  refine Br.dec (fun hlt => ?_) (fun hge => ?_)
  · simp -dsimp -implicitDefEqProofs (disch := omega) only [VCA, Nat.reduceEqDiff, Nat.reduceAdd, ↓reduceIte, reduceCtorEq, eAttr, he0, he1, he8, eAttr]
    refine ⟨by omega, DCalls.of (hp (nth l k)) ?_⟩
    rintro r h' ⟨rfl, rfl⟩
    simp -dsimp -implicitDefEqProofs (disch := omega) only [VCA, ↓reduceIte]
    refine Br.intro (fun ht => ?_) (fun hf => ?_)
    · simp -dsimp -implicitDefEqProofs (disch := omega) only [VCA, Nat.reduceEqDiff, ↓reduceIte, exists_eq_right_right]
      rw [idxM_some (by omega) hj ht]; exact ⟨Sub.refl _, rfl⟩
    · simp -dsimp -implicitDefEqProofs (disch := omega) only [VCA, Nat.reduceEqDiff, ↓reduceIte, reduceCtorEq, he0, he1, he7, he8]
      refine ⟨_, ?_, k + 1, by omega, rfl, by omega, fun j hj' => ?_⟩
      · omega
      · by_cases h1 : j = k
        · subst h1; exact hf
        · exact hj j (by omega)
  · simp -dsimp -implicitDefEqProofs (disch := omega) only [VCA, ↓reduceIte, exists_eq_right_right]
    rw [idxM_none (fun j hj' => hj j (by omega))]; exact ⟨Sub.refl _, rfl⟩
def c82 : SFun := ⟨(.seq (.reg [⟨(some 2), (.boxF 77 2 (.t 0)), none⟩, ⟨(some 3), (.mv (.c (.bool false))), none⟩]) (.seq (.reg [⟨(some 4), (.fldA 0 (.t 2)), none⟩, ⟨(some 5), (.ld 1 false (.t 4)), none⟩, ⟨(some 6), (.ld 1 false (.t 1)), none⟩, ⟨(some 7), (.bin .eql (.t 5) (.t 6)), none⟩, ⟨(some 3), (.mv (.t 7)), none⟩]) .ret)), [(.tmp 3)]⟩
theorem hc82 : toSF Tryd.prog {} Tryd.f82 = some c82 := by kernel_rfl
theorem hn82 : (Tryd.f82.name == "runtime.NumGoroutine") = false := by kernel_rfl
theorem find1_ok (name : List UInt8) (a : HAttr) : PCalls (Pg G) 82 [.agg (eAttr a), .pin [.str name]] (.bool (a.name == name)) := fun h => by
  refine dcalls_of_vc Tryd.func82 hn82 hc82 (by rw [Tryd.ntmps82]; simp) (by rw [Tryd.ntmps82]; decide) ?_
  simp -dsimp -implicitDefEqProofs (disch := omega) only [VCA, Nat.reduceEqDiff, Nat.reduceAdd, Nat.reduceLeDiff, ↓reduceIte, exists_eq_right, eAttr, c82, eAttr]
  exact Sub.refl _
def c75 : SFun := ⟨(.seq (.reg [⟨(some 3), (.boxF 9 1 (.t 1)), none⟩, ⟨(some 4), (.mv (.c (.int .i64 (0)))), none⟩]) (.seq (.reg [⟨(some 5), (.mv (.t 0)), none⟩, ⟨(some 6), (.mkf 82 [] [(.t 3)]), none⟩, ⟨(some 7), (.call (.c (.fn 81 [] [])) [(.t 5), (.t 6)]), none⟩, ⟨(some 4), (.mv (.t 7)), none⟩]) .ret)), [(.tmp 4)]⟩
theorem hc75 : toSF Tryd.prog {} Tryd.f75 = some c75 := by kernel_rfl
theorem hn75 : (Tryd.f75.name == "runtime.NumGoroutine") = false := by kernel_rfl
theorem find_ok (l : List HAttr) (name : List UInt8) (hl : l.length ≤ 1073741824) : PCalls (Pg G) 75 [sl eAttr l, .str name] (aInt (attrAt l name)) := fun h => by
  refine dcalls_of_vc Tryd.func75 hn75 hc75 (by rw [Tryd.ntmps75]; simp) (by rw [Tryd.ntmps75]; decide) ?_
  simp -dsimp -implicitDefEqProofs (disch := omega) only [VCA, Nat.reduceEqDiff, ↓reduceIte, reduceCtorEq, c75]
  refine DCalls.of (indexFA_ok l 82 [] [.pin [.str name]] (fun a => a.name == name) hl fun x => find1_ok name x h) ?_
  rintro r h' ⟨rfl, rfl⟩
  simp -dsimp -implicitDefEqProofs (disch := omega) only [VCA, ↓reduceIte, exists_eq_right_right]
  exact ⟨Sub.refl _, rfl⟩
end Go.Proofs.K
end
section
/- Documents: dom.Check. -/
set_option linter.unusedSimpArgs false
set_option linter.unusedVariables false
namespace Go.Proofs.K
open Go Go.Sim Go.Proofs
variable {G : Glob}

def c60 : SFun := ⟨(.seq (.reg [⟨(some 2), (.mv (.c (.int .i64 (0)))), none⟩]) (.seq (.seq (.reg [⟨(some 5), (.mv (.t 0)), none⟩, ⟨(some 6), (.len (.t 5)), none⟩, ⟨(some 7), (.bin .gtr (.t 6) (.c (.int .i64 (12)))), none⟩]) (.cond (.t 7) (.seq (.reg [⟨(some 2), (.mv (.c (.int .i64 (2)))), none⟩]) .ret) .skip)) (.seq (.seq (.reg [⟨(some 8), (.mv (.t 0)), none⟩, ⟨(some 9), (.len (.t 8)), none⟩, ⟨(some 10), (.mv (.c (.int .i64 (0)))), none⟩]) (.block 0 (.loop (.seq (.reg [⟨(some 11), (.bin .lss (.t 10) (.t 9)), none⟩]) (.seq (.cond (.t 11) .skip (.exit 0)) (.seq (.block 1 (.seq (.reg [⟨(some 12), (.mv (.t 10)), none⟩, ⟨(some 13), (.idxA 2 (.t 8) (.t 10)), none⟩, ⟨(some 14), (.ld 2 true (.t 13)), none⟩, ⟨(some 4), (.new 77 2 [(.str []), (.str [])]), none⟩, ⟨(some 3), (.mv (.t 12)), none⟩, ⟨none, (.st 2 (.t 4) (.t 14)), none⟩]) (.block 2 (.seq (.reg [⟨(some 16), (.fldA 0 (.t 4)), none⟩, ⟨(some 17), (.ld 1 false (.t 16)), none⟩, ⟨(some 18), (.pcall 74 [(.t 17)]), none⟩, ⟨(some 19), (.un .not (.t 18)), none⟩, ⟨(some 15), (.mv (.t 19)), none⟩]) (.cond (.t 15) (.seq (.reg [⟨(some 2), (.mv (.c (.int .i64 (3)))), none⟩]) .ret) (.seq (.reg [⟨(some 21), (.fldA 1 (.t 4)), none⟩, ⟨(some 22), (.ld 1 false (.t 21)), none⟩, ⟨(some 23), (.lenS (.t 22)), none⟩, ⟨(some 24), (.bin .gtr (.t 23) (.c (.int .i64 (400)))), none⟩, ⟨(some 20), (.mv (.t 24)), none⟩]) (.cond (.t 20) (.seq (.reg [⟨(some 2), (.mv (.c (.int .i64 (2)))), none⟩]) .ret) (.seq (.dreg [(⟨(some 26), (.mv (.t 0)), none⟩, none), (⟨(some 27), (.mv (.t 3)), none⟩, none), (⟨(some 28), (.slA 2 (.t 26) none (some (.t 27))), none⟩, none), (⟨(some 29), (.fldA 0 (.t 4)), none⟩, none), (⟨(some 30), (.ld 1 false (.t 29)), none⟩, none), (⟨(some 31), (.pcall 75 [(.t 28), (.t 30)]), none⟩, none), (⟨(some 32), (.bin .geq (.t 31) (.c (.int .i64 (0)))), none⟩, none), (⟨(some 25), (.mv (.t 32)), none⟩, none)]) (.cond (.t 25) (.seq (.reg [⟨(some 2), (.mv (.c (.int .i64 (3)))), none⟩]) .ret) .skip))))))))) (.reg [⟨(some 33), (.bin .add (.t 10) (.c (.int .i64 (1)))), none⟩, ⟨(some 10), (.mv (.t 33)), none⟩]))))))) (.seq (.reg [⟨(some 2), (.mv (.c (.int .i64 (0)))), none⟩]) .ret)))), [(.tmp 2)]⟩
theorem hc60 : toSF Tryd.prog {pure := [74, 75]} Tryd.f60 = some c60 := by kernel_rfl
theorem hn60 : (Tryd.f60.name == "runtime.NumGoroutine") = false := by kernel_rfl
theorem attrs_ok (l : List HAttr) (hl : l.length ≤ 1073741824) (hs : ∀ a ∈ l, a.name.length ≤ 1073741824) : PCalls (Pg G) 60 [sl eAttr l] (aInt (attrsE l)) := fun h => by
  refine dcalls_of_vc Tryd.func60 hn60 hc60 (by rw [Tryd.ntmps60]; simp) (by rw [Tryd.ntmps60]; decide) ?_
  simp -dsimp -implicitDefEqProofs (disch := omega) only [VCA, ↓reduceIte, reduceCtorEq, c60]
  unfold attrsE
  refine Br.dec (fun h1 => ?_) (fun h1 => ?_)
  · simp -dsimp -implicitDefEqProofs (disch := omega) only [VCA, ↓reduceIte, exists_eq_right_right]
    exact ⟨Sub.refl _, by rw [if_pos (by omega)]⟩
  · rw [if_neg (by omega)]
    simp -dsimp -implicitDefEqProofs (disch := omega) only [VCA, ↓reduceIte, reduceCtorEq]
    refine LoopVC.intro (fun m e h' => ∃ k : Nat, k ≤ l.length ∧ m = l.length - k ∧ e 0 = sl eAttr l ∧ e 8 = sl eAttr l ∧ e 9 = aInt l.length ∧ e 10 = aInt k ∧ Sim.Sub h h' ∧ ∀ j, j < k → attrE l j = 0) l.length ⟨0, by omega, by omega, rfl, rfl, rfl, rfl, Sub.refl _, by omega⟩ ?_
    rintro m e h' ⟨k, hk, rfl, he0, he8, he9, he10, S, hj⟩
    simp -dsimp -implicitDefEqProofs (disch := omega) only [VCA, ↓reduceIte, he9, he10]
    refine Br.dec (fun hlt => ?_) (fun hge => ?_)
    · have hk' : k < l.length := by omega
      have hn := hs _ (nth_mem' hk')
      have e2 : (l.take (Int.toNat (k : Int))) = l.take k := by simp
      have go0 : attrE l k = 0 → ∀ h2, Sim.Sub h h2 → ∃ m', m' < l.length - k ∧ ∃ k1, k1 ≤ l.length ∧ m' = l.length - k1 ∧ (k : Int) + 1 = k1 ∧ Sim.Sub h h2 ∧ ∀ j, j < k1 → attrE l j = 0 := fun h0 h2 S2 =>
        ⟨l.length - (k + 1), by omega, k + 1, by omega, rfl, by omega, S2, fun j hj' => by
          by_cases hjk : j = k
          · subst hjk; exact h0
          · exact hj j (by omega)⟩
      have fin : ∀ x : Int, x ≠ 0 → attrE l k = x → fe l.length (attrE l) = x := fun x hx he => by rw [fe_some hk' hj (by rw [he]; exact hx), he]
      simp -dsimp -implicitDefEqProofs (disch := omega) only [VCA, Nat.reduceEqDiff, Nat.reduceAdd, Nat.reduceLT, Nat.reduceLeDiff, ↓reduceIte, setAt, exists_eq_left', eAttr, he8, he10]
      refine ⟨by omega, fun r hr => ?_⟩
      have S1 := S.upd (x := some ⟨.t 77, 2, [[.str (nth l k).name, .str (nth l k).value]]⟩) (S.none hr)
      refine pcallE.of (attrName_ok _ hn) ?_; simp -dsimp -implicitDefEqProofs (disch := omega) only [VCA, ↓reduceIte]
      refine Br.intro (fun h2 => ?_) (fun h2 => ?_)
      · simp -dsimp -implicitDefEqProofs (disch := omega) only [VCA, ↓reduceIte, exists_eq_right_right]
        exact ⟨S1, (fin 3 (by decide) (by unfold attrE; rw [if_pos (by simpa using h2)])).symm⟩
      · have h2 : nameOK false (nth l k).name = true := by simpa using h2
        simp -dsimp -implicitDefEqProofs (disch := omega) only [VCA, Nat.reduceEqDiff, Nat.reduceAdd, Nat.reduceLT, ↓reduceIte, exists_eq_left']
        refine Br.dec (fun h3 => ?_) (fun h3 => ?_)
        · simp -dsimp -implicitDefEqProofs (disch := omega) only [VCA, ↓reduceIte, exists_eq_right_right]
          exact ⟨S1, (fin 2 (by decide) (by unfold attrE; rw [if_neg (by simp [h2]), if_pos (by omega)])).symm⟩
        · simp -dsimp -implicitDefEqProofs (disch := omega) only [VCA, Nat.reduceEqDiff, Nat.reduceAdd, Nat.reduceLT, Nat.reduceLeDiff, ↓reduceIte, reduceCtorEq, rsOf, rootsOf, exists_eq_left', rootL, he0]
          refine ⟨by omega, ?_⟩
          refine pcallE.of (find_ok (l.take k) (nth l k).name (by simp; omega)) ?_; simp -dsimp -implicitDefEqProofs (disch := omega) only [VCA, ↓reduceIte, rsOf, rootsOf, rootL]
          refine Br.dec (fun h4 => ?_) (fun h4 => ?_)
          · simp -dsimp -implicitDefEqProofs (disch := omega) only [VCA, ↓reduceIte, exists_eq_right_right]
            exact ⟨S1, (fin 3 (by decide) (by unfold attrE; rw [if_neg (by simp [h2]), if_neg (by omega), if_pos h4])).symm⟩
          · simp -dsimp -implicitDefEqProofs (disch := omega) only [VCA, Nat.reduceEqDiff, ↓reduceIte, reduceCtorEq, he0, he8, he9, he10]
            refine go0 ?_ _ S1
            unfold attrE
            rw [if_neg (by simp [h2]), if_neg (by omega), if_neg h4]
    · simp -dsimp -implicitDefEqProofs (disch := omega) only [VCA, ↓reduceIte, exists_eq_right_right]
      obtain rfl : k = l.length := by omega
      exact ⟨S, (fe_none hj).symm⟩
def c72 : SFun := ⟨(.seq (.reg [⟨(some 2), (.mv (.c (.bool false))), none⟩]) (.seq (.reg [⟨(some 3), (.mv (.t 0)), none⟩, ⟨(some 4), (.bin .eql (.t 3) (.c (.int .i64 (1)))), none⟩, ⟨(some 5), (.mv (.t 4)), none⟩, ⟨(some 6), (.mv (.t 0)), (some (5, false))⟩, ⟨(some 7), (.bin .eql (.t 6) (.c (.int .i64 (2)))), (some (5, false))⟩, ⟨(some 8), (.pick (.t 5) (.c (.bool true)) (.t 7)), none⟩, ⟨(some 2), (.mv (.t 8)), none⟩]) .ret)), [(.tmp 2)]⟩
theorem hc72 : toSF Tryd.prog {} Tryd.f72 = some c72 := by kernel_rfl
theorem hn72 : (Tryd.f72.name == "runtime.NumGoroutine") = false := by kernel_rfl
theorem parent_ok (k : Int) : PCalls (Pg G) 72 [aInt k] (.bool (decide (k = 1) || decide (k = 2))) := fun h => by
  refine dcalls_of_vc Tryd.func72 hn72 hc72 (by rw [Tryd.ntmps72]; simp) (by rw [Tryd.ntmps72]; decide) ?_
  by_cases h1 : k = 1
  · subst h1
    simp -dsimp -implicitDefEqProofs (disch := omega) only [↓vcOps_sp 5, VCA, ↓reduceIte, reduceCtorEq, c72]
    repeat' (first | ((with_reducible refine Br.dec (fun _ => ?_) (fun _ => ?_)) <;> try (exfalso; omega)) | ((with_reducible refine Br.eq (fun _ => ?_) (fun _ => ?_)) <;> try (exfalso; omega)) | ((with_reducible refine Br.ne (fun _ => ?_) (fun _ => ?_)) <;> try (exfalso; omega)) | ((with_reducible refine brNdec (fun _ => ?_) (fun _ => ?_)) <;> try (exfalso; omega)) | ((with_reducible refine brNeq (fun _ => ?_) (fun _ => ?_)) <;> try (exfalso; omega)) | with_reducible refine Br.intro (fun _ => ?_) (fun _ => ?_) | (with_reducible refine And.intro ?_ ?_; · omega) | simp -dsimp -implicitDefEqProofs (disch := omega) only [VCA, Nat.reduceEqDiff, ↓reduceIte, exists_eq_right_right])
    all_goals exact ⟨Sub.refl _, by simp_all⟩
  · simp -dsimp -implicitDefEqProofs (disch := omega) only [↓vcOps_sp 5, VCA, ↓reduceIte, reduceCtorEq, c72]
    repeat' (first | ((with_reducible refine Br.dec (fun _ => ?_) (fun _ => ?_)) <;> try (exfalso; omega)) | ((with_reducible refine Br.eq (fun _ => ?_) (fun _ => ?_)) <;> try (exfalso; omega)) | ((with_reducible refine Br.ne (fun _ => ?_) (fun _ => ?_)) <;> try (exfalso; omega)) | ((with_reducible refine brNdec (fun _ => ?_) (fun _ => ?_)) <;> try (exfalso; omega)) | ((with_reducible refine brNeq (fun _ => ?_) (fun _ => ?_)) <;> try (exfalso; omega)) | with_reducible refine Br.intro (fun _ => ?_) (fun _ => ?_) | (with_reducible refine And.intro ?_ ?_; · omega) | simp -dsimp -implicitDefEqProofs (disch := omega) only [VCA, Nat.reduceEqDiff, ↓reduceIte, reduceCtorEq, exists_eq_right_right])
    all_goals first | (exfalso; omega) | exact ⟨Sub.refl _, by rw [Bool.eq_iff_iff]; simp [h1]⟩
theorem len0 {α : Type} (l : List α) : ((l.length : Int) = 0) = (l = []) := by rw [← List.length_eq_zero_iff]; exact propext (by omega)
theorem len0b {α : Type} (l : List α) [DecidableEq α] : ((l.length : Int) == 0) = decide (l = []) := by
  rw [Bool.eq_iff_iff, beq_iff_eq, decide_eq_true_iff, len0]
def c58 : SFun := ⟨(.seq (.reg [⟨(some 1), (.boxF 53 6 (.t 0)), none⟩, ⟨(some 2), (.mv (.c (.bool false))), none⟩]) (.seq (.dreg [(⟨(some 5), (.fldA 0 (.t 1)), none⟩, none), (⟨(some 6), (.ld 1 false (.t 5)), none⟩, none), (⟨(some 7), (.bin .eql (.t 6) (.c (.int .i64 (2)))), none⟩, none), (⟨(some 8), (.fldA 0 (.t 1)), none⟩, none), (⟨(some 9), (.ld 1 false (.t 8)), none⟩, none), (⟨(some 10), (.bin .eql (.t 9) (.c (.int .i64 (3)))), none⟩, none), (⟨(some 11), (.mv (.t 10)), none⟩, none), (⟨(some 12), (.fldA 0 (.t 1)), (some (11, false))⟩, none), (⟨(some 13), (.ld 1 false (.t 12)), (some (11, false))⟩, none), (⟨(some 14), (.bin .eql (.t 13) (.c (.int .i64 (4)))), (some (11, false))⟩, none), (⟨(some 15), (.pick (.t 11) (.c (.bool true)) (.t 14)), none⟩, none), (⟨(some 3), (.mv (.t 7)), none⟩, none), (⟨(some 4), (.mv (.t 15)), none⟩, none)]) (.seq (.reg [⟨(some 16), (.mv (.t 3)), none⟩, ⟨(some 17), (.mv (.t 16)), none⟩, ⟨(some 18), (.fldA 0 (.t 1)), (some (17, false))⟩, ⟨(some 19), (.ld 1 false (.t 18)), (some (17, false))⟩, ⟨(some 20), (.bin .eql (.t 19) (.c (.int .i64 (5)))), (some (17, false))⟩, ⟨(some 21), (.pick (.t 17) (.c (.bool true)) (.t 20)), none⟩, ⟨(some 22), (.mv (.t 21)), none⟩, ⟨(some 23), (.fldA 1 (.t 1)), (some (22, false))⟩, ⟨(some 24), (.ld 1 false (.t 23)), (some (22, false))⟩, ⟨(some 25), (.bin .eql (.t 24) (.c (.str []))), (some (22, false))⟩, ⟨(some 26), (.pick (.t 22) (.c (.bool true)) (.t 25)), none⟩, ⟨(some 27), (.mv (.t 26)), none⟩, ⟨(some 28), (.mv (.t 3)), (some (27, true))⟩, ⟨(some 29), (.mv (.t 28)), (some (27, true))⟩, ⟨(some 30), (.fldA 2 (.t 1)), (some (29, false))⟩, ⟨(some 31), (.ld 1 false (.t 30)), (some (29, false))⟩, ⟨(some 32), (.len (.t 31)), (some (29, false))⟩, ⟨(some 33), (.bin .eql (.t 32) (.c (.int .i64 (0)))), (some (29, false))⟩, ⟨(some 34), (.pick (.t 29) (.c (.bool true)) (.t 33)), (some (27, true))⟩, ⟨(some 35), (.pick (.t 27) (.t 34) (.c (.bool false))), none⟩, ⟨(some 36), (.mv (.t 35)), none⟩, ⟨(some 37), (.mv (.t 4)), (some (36, true))⟩, ⟨(some 38), (.mv (.t 37)), (some (36, true))⟩, ⟨(some 39), (.fldA 3 (.t 1)), (some (38, false))⟩, ⟨(some 40), (.ld 1 false (.t 39)), (some (38, false))⟩, ⟨(some 41), (.bin .eql (.t 40) (.c (.str []))), (some (38, false))⟩, ⟨(some 42), (.pick (.t 38) (.c (.bool true)) (.t 41)), (some (36, true))⟩, ⟨(some 43), (.pick (.t 36) (.t 42) (.c (.bool false))), none⟩, ⟨(some 44), (.mv (.t 43)), none⟩, ⟨(some 45), (.fldA 0 (.t 1)), (some (44, true))⟩, ⟨(some 46), (.ld 1 false (.t 45)), (some (44, true))⟩, ⟨(some 47), (.pcall 72 [(.t 46)]), (some (44, true))⟩, ⟨(some 48), (.mv (.t 47)), (some (44, true))⟩, ⟨(some 49), (.fldA 5 (.t 1)), (some (48, false))⟩, ⟨(some 50), (.ld 1 false (.t 49)), (some (48, false))⟩, ⟨(some 51), (.len (.t 50)), (some (48, false))⟩, ⟨(some 52), (.bin .eql (.t 51) (.c (.int .i64 (0)))), (some (48, false))⟩, ⟨(some 53), (.pick (.t 48) (.c (.bool true)) (.t 52)), (some (44, true))⟩, ⟨(some 54), (.pick (.t 44) (.t 53) (.c (.bool false))), none⟩, ⟨(some 2), (.mv (.t 54)), none⟩]) .ret))), [(.tmp 2)]⟩
theorem hc58 : toSF Tryd.prog {pure := [72]} Tryd.f58 = some c58 := by kernel_rfl
theorem hn58 : (Tryd.f58.name == "runtime.NumGoroutine") = false := by kernel_rfl
theorem bare_ok (x : HNode) : PCalls (Pg G) 58 [.agg (eNode x)] (.bool (bareM x)) := fun h => by
  refine dcalls_of_vc Tryd.func58 hn58 hc58 (by rw [Tryd.ntmps58]; simp) (by rw [Tryd.ntmps58]; decide) ?_
  simp -dsimp -implicitDefEqProofs (disch := omega) only [↓vcD_sp 11, VCA, Nat.reduceEqDiff, Nat.reduceAdd, Nat.reduceLeDiff, ↓reduceIte, rsOf, rootsOf, rootL, eNode, c58, eNode]
  repeat' (first | ((with_reducible refine Br.dec (fun _ => ?_) (fun _ => ?_)) <;> try (exfalso; omega)) | ((with_reducible refine Br.eq (fun _ => ?_) (fun _ => ?_)) <;> try (exfalso; omega)) | ((with_reducible refine Br.ne (fun _ => ?_) (fun _ => ?_)) <;> try (exfalso; omega)) | ((with_reducible refine brNdec (fun _ => ?_) (fun _ => ?_)) <;> try (exfalso; omega)) | ((with_reducible refine brNeq (fun _ => ?_) (fun _ => ?_)) <;> try (exfalso; omega)) | with_reducible refine Br.intro (fun _ => ?_) (fun _ => ?_) | (with_reducible apply pcallE.of; · exact parent_ok x.kind) | (with_reducible refine And.intro ?_ ?_; · omega) | simp -dsimp -implicitDefEqProofs (disch := omega) only [↓vcOps_sp 17, ↓vcOps_sp 22, ↓vcOps_sp 27, ↓vcOps_sp 29, ↓vcOps_sp 36, ↓vcOps_sp 38, ↓vcOps_sp 44, ↓vcOps_sp 48, VCA, Nat.reduceEqDiff, Nat.reduceAdd, Nat.reduceLeDiff, ↓reduceIte, rsOf, rootsOf, exists_eq_right_right, rootL])
  all_goals (refine ⟨Sub.refl _, ?_⟩; simp_all [bareM, len0b])
theorem lt400 (n : Nat) : ((400 : Int) < (n : Int)) = (400 < n) := propext (by omega)
def c43 : SFun := ⟨(.seq (.reg [⟨(some 1), (.boxF 53 6 (.t 0)), none⟩, ⟨(some 2), (.mv (.c (.int .i64 (0)))), none⟩]) (.seq (.block 0 (.seq (.reg [⟨(some 5), (.fldA 0 (.t 1)), none⟩, ⟨(some 6), (.ld 1 false (.t 5)), none⟩, ⟨(some 7), (.bin .lss (.t 6) (.c (.int .i64 (1)))), none⟩, ⟨(some 8), (.mv (.t 7)), none⟩, ⟨(some 9), (.fldA 0 (.t 1)), (some (8, false))⟩, ⟨(some 10), (.ld 1 false (.t 9)), (some (8, false))⟩, ⟨(some 11), (.bin .gtr (.t 10) (.c (.int .i64 (5)))), (some (8, false))⟩, ⟨(some 12), (.pick (.t 8) (.c (.bool true)) (.t 11)), none⟩, ⟨(some 13), (.mv (.t 12)), none⟩, ⟨(some 14), (.ld 6 true (.t 1)), (some (13, false))⟩, ⟨(some 15), (.pcall 58 [(.t 14)]), (some (13, false))⟩, ⟨(some 16), (.un .not (.t 15)), (some (13, false))⟩, ⟨(some 17), (.pick (.t 13) (.c (.bool true)) (.t 16)), none⟩, ⟨(some 4), (.mv (.t 17)), none⟩]) (.cond (.t 4) (.seq (.reg [⟨(some 2), (.mv (.c (.int .i64 (7)))), none⟩]) .ret) (.seq (.reg [⟨(some 19), (.fldA 0 (.t 1)), none⟩, ⟨(some 20), (.ld 1 false (.t 19)), none⟩, ⟨(some 21), (.bin .eql (.t 20) (.c (.int .i64 (2)))), none⟩, ⟨(some 22), (.mv (.t 21)), none⟩, ⟨(some 23), (.fldA 1 (.t 1)), (some (22, true))⟩, ⟨(some 24), (.ld 1 false (.t 23)), (some (22, true))⟩, ⟨(some 25), (.pcall 59 [(.t 24)]), (some (22, true))⟩, ⟨(some 26), (.un .not (.t 25)), (some (22, true))⟩, ⟨(some 27), (.pick (.t 22) (.t 26) (.c (.bool false))), none⟩, ⟨(some 18), (.mv (.t 27)), none⟩]) (.cond (.t 18) (.seq (.reg [⟨(some 2), (.mv (.c (.int .i64 (3)))), none⟩]) .ret) .skip))))) (.seq (.seq (.reg [⟨(some 28), (.fldA 2 (.t 1)), none⟩, ⟨(some 29), (.ld 1 false (.t 28)), none⟩, ⟨(some 30), (.pcall 60 [(.t 29)]), none⟩, ⟨(some 3), (.mv (.t 30)), none⟩]) (.seq (.reg [⟨(some 31), (.mv (.t 3)), none⟩, ⟨(some 32), (.bin .neq (.t 31) (.c (.int .i64 (0)))), none⟩]) (.cond (.t 32) (.seq (.reg [⟨(some 33), (.mv (.t 3)), none⟩, ⟨(some 2), (.mv (.t 33)), none⟩]) .ret) .skip))) (.seq (.seq (.reg [⟨(some 34), (.fldA 3 (.t 1)), none⟩, ⟨(some 35), (.ld 1 false (.t 34)), none⟩, ⟨(some 36), (.lenS (.t 35)), none⟩, ⟨(some 37), (.bin .gtr (.t 36) (.c (.int .i64 (400)))), none⟩, ⟨(some 38), (.mv (.t 37)), none⟩, ⟨(some 39), (.fldA 1 (.t 1)), (some (38, false))⟩, ⟨(some 40), (.ld 1 false (.t 39)), (some (38, false))⟩, ⟨(some 41), (.lenS (.t 40)), (some (38, false))⟩, ⟨(some 42), (.bin .gtr (.t 41) (.c (.int .i64 (400)))), (some (38, false))⟩, ⟨(some 43), (.pick (.t 38) (.c (.bool true)) (.t 42)), none⟩]) (.cond (.t 43) (.seq (.reg [⟨(some 2), (.mv (.c (.int .i64 (2)))), none⟩]) .ret) .skip)) (.seq (.reg [⟨(some 2), (.mv (.c (.int .i64 (0)))), none⟩]) .ret))))), [(.tmp 2)]⟩
theorem hc43 : toSF Tryd.prog {pure := [58, 59, 60]} Tryd.f43 = some c43 := by kernel_rfl
theorem hn43 : (Tryd.f43.name == "runtime.NumGoroutine") = false := by kernel_rfl
theorem one_ok' (x : HNode) (hx : NodeSm x) : PCalls (Pg G) 43 [.agg (eNode x)] (aInt (nodeE x)) := fun h => by
  refine dcalls_of_vc Tryd.func43 hn43 hc43 (by rw [Tryd.ntmps43]; simp) (by rw [Tryd.ntmps43]; decide) ?_
  simp -dsimp -implicitDefEqProofs (disch := omega) only [↓vcOps_sp 8, VCA, Nat.reduceEqDiff, Nat.reduceAdd, Nat.reduceLeDiff, ↓reduceIte, eNode, c43, eNode]
  have hb : PCalls (Pg G) 58 [.agg [aInt x.kind, .str x.name, sl eAttr x.attrs, .str x.text, aInt x.parent, sl eInt x.kids]] (.bool (bareM x)) := bare_ok x
  repeat' (first | ((with_reducible refine Br.dec (fun _ => ?_) (fun _ => ?_)) <;> try (exfalso; omega)) | ((with_reducible refine Br.eq (fun _ => ?_) (fun _ => ?_)) <;> try (exfalso; omega)) | ((with_reducible refine Br.ne (fun _ => ?_) (fun _ => ?_)) <;> try (exfalso; omega)) | ((with_reducible refine brNdec (fun _ => ?_) (fun _ => ?_)) <;> try (exfalso; omega)) | ((with_reducible refine brNeq (fun _ => ?_) (fun _ => ?_)) <;> try (exfalso; omega)) | with_reducible refine Br.intro (fun _ => ?_) (fun _ => ?_) | (with_reducible apply pcallE.of; · exact hb) | (with_reducible apply pcallE.of; · exact name_ok x.name hx.name) | (with_reducible apply pcallE.of; · exact attrs_ok x.attrs hx.attrs (fun a ha => (hx.each a ha).1)) | (with_reducible refine And.intro ?_ ?_; · omega) | simp -dsimp -implicitDefEqProofs (disch := omega) only [↓vcOps_sp 13, ↓vcOps_sp 22, ↓vcOps_sp 38, VCA, Nat.reduceEqDiff, Nat.reduceAdd, Nat.reduceLeDiff, ↓reduceIte, exists_eq_right_right])
  all_goals (clear hb hx; refine ⟨Sub.refl _, ?_⟩; simp_all [nodeE, lt400]; try (first | omega | (intro hh; omega) | (rw [if_neg (by omega), if_neg (by omega)])))
end Go.Proofs.K
end
section
/- Documents: dom.kids, dom.up, dom.Check. -/
set_option linter.unusedSimpArgs false
set_option linter.unusedVariables false
namespace Go.Proofs.K
open Go Go.Sim Go.Proofs
variable {G : Glob}

def eBool (b : Bool) : List AVal := [.bool b]
instance : LenE eBool 1 := ⟨fun _ => rfl⟩
theorem upF_top {d : HDoc} {n : Int} (h : ¬ 0 ≤ (nd d n).parent) (f : Nat) : upF f d n = 0 := by cases f <;> simp [upF, h]
def c45 : SFun := ⟨(.seq (.reg [⟨(some 2), (.boxF 24 2 (.t 0)), none⟩, ⟨(some 4), (.mv (.c (.int .i64 (0)))), none⟩]) (.seq (.block 0 (.loop (.seq (.seq (.reg [⟨(some 5), (.fldA 0 (.t 2)), none⟩, ⟨(some 6), (.ld 1 false (.t 5)), none⟩, ⟨(some 7), (.mv (.t 1)), none⟩, ⟨(some 8), (.idxA 6 (.t 6) (.t 7)), none⟩, ⟨(some 9), (.fldA 4 (.t 8)), none⟩, ⟨(some 10), (.ld 1 false (.t 9)), none⟩, ⟨(some 11), (.bin .geq (.t 10) (.c (.int .i64 (0)))), none⟩, ⟨(some 12), (.mv (.t 11)), none⟩, ⟨(some 13), (.mv (.t 4)), (some (12, true))⟩, ⟨(some 14), (.fldA 0 (.t 2)), (some (12, true))⟩, ⟨(some 15), (.ld 1 false (.t 14)), (some (12, true))⟩, ⟨(some 16), (.len (.t 15)), (some (12, true))⟩, ⟨(some 17), (.bin .leq (.t 13) (.t 16)), (some (12, true))⟩, ⟨(some 18), (.pick (.t 12) (.t 17) (.c (.bool false))), none⟩]) (.cond (.t 18) .skip (.exit 0))) (.seq (.block 1 (.reg [⟨(some 25), (.mv (.t 4)), none⟩, ⟨(some 26), (.bin .add (.t 25) (.c (.int .i64 (1)))), none⟩, ⟨(some 4), (.mv (.t 26)), none⟩])) (.reg [⟨(some 19), (.fldA 0 (.t 2)), none⟩, ⟨(some 20), (.ld 1 false (.t 19)), none⟩, ⟨(some 21), (.mv (.t 1)), none⟩, ⟨(some 22), (.idxA 6 (.t 20) (.t 21)), none⟩, ⟨(some 23), (.fldA 4 (.t 22)), none⟩, ⟨(some 24), (.ld 1 false (.t 23)), none⟩, ⟨(some 1), (.mv (.t 24)), none⟩]))))) (.seq (.reg [⟨(some 27), (.mv (.t 4)), none⟩, ⟨(some 4), (.mv (.t 27)), none⟩]) .ret))), [(.tmp 4)]⟩
theorem hc45 : toSF Tryd.prog {} Tryd.f45 = some c45 := by kernel_rfl
theorem hn45 : (Tryd.f45.name == "runtime.NumGoroutine") = false := by kernel_rfl
theorem up_ok (d : HDoc) (sm : DocSm d) (hP : ∀ n, inD d n → 0 ≤ (nd d n).parent → inD d (nd d n).parent) (n : Int) (hn : inD d n) : PCalls (Pg G) 45 [.agg (eDoc d), aInt n] (aInt (up d n)) := fun h => by
  have hl := sm.len
  refine dcalls_of_vc Tryd.func45 hn45 hc45 (by rw [Tryd.ntmps45]; simp) (by rw [Tryd.ntmps45]; decide) ?_
  simp -dsimp -implicitDefEqProofs (disch := omega) only [VCA, Nat.reduceAdd, eDoc, c45, eDoc]
  refine LoopVC.intro (fun m e h' => ∃ (c : Int) (k : Nat), k ≤ d.nodes.length + 1 ∧ m = d.nodes.length + 1 - k ∧ inD d c ∧ e 1 = aInt c ∧ e 2 = .pin (eDoc d) ∧ e 4 = aInt k ∧ h' = h ∧ k + upF (d.nodes.length + 1 - k) d c = up d n) (d.nodes.length + 1) ⟨n, 0, by omega, rfl, hn, rfl, rfl, rfl, rfl, by simp [up]⟩ ?_
  rintro m e h' ⟨c, k, hk, rfl, hc, he1, he2, he4, rfl, hu⟩
  have hc0 := hc.1
  have hc1 := hc.2
  simp -dsimp -implicitDefEqProofs (disch := omega) only [↓vcOps_sp 12, VCA, Nat.reduceEqDiff, Nat.reduceAdd, Nat.reduceLeDiff, ↓reduceIte, eNode, eDoc, he1, he2, eDoc]
  refine ⟨by omega, ?_⟩
  have e0 : nth d.nodes c.toNat = nd d c := rfl
  rw [e0]
  refine Br.dec (fun h1 => ?_) (fun h1 => ?_)
  · simp -dsimp -implicitDefEqProofs (disch := omega) only [VCA, Nat.reduceEqDiff, Nat.reduceAdd, Nat.reduceLeDiff, ↓reduceIte, eDoc, he2, he4, eDoc]
    refine Br.dec (fun h2 => ?_) (fun h2 => ?_)
    · simp -dsimp -implicitDefEqProofs (disch := omega) only [VCA, Nat.reduceEqDiff, Nat.reduceAdd, Nat.reduceLeDiff, ↓reduceIte, eNode, eDoc, he1, he2, he4, eDoc]
      refine ⟨by omega, _, ?_, (nd d c).parent, k + 1, by omega, rfl, hP c hc h1, rfl, by omega, ?_⟩
      · omega
      · obtain ⟨f, hf⟩ : ∃ f, d.nodes.length + 1 - k = f + 1 := ⟨d.nodes.length - k, by omega⟩
        rw [hf, upF, if_pos h1] at hu
        have e2 : d.nodes.length + 1 - (k + 1) = f := by omega
        rw [e2]; omega
    · simp -dsimp -implicitDefEqProofs (disch := omega) only [VCA, Nat.reduceEqDiff, ↓reduceIte, exists_eq_right_right, he4]
      have hk' : k = d.nodes.length + 1 := by omega
      subst hk'
      rw [Nat.sub_self, upF] at hu
      exact ⟨Sub.refl _, by omega⟩
  · simp -dsimp -implicitDefEqProofs (disch := omega) only [VCA, Nat.reduceEqDiff, ↓reduceIte, exists_eq_right_right, he4]
    rw [upF_top h1] at hu
    exact ⟨Sub.refl _, by omega⟩

/-- which have been seen -/
def SeenI (d : HDoc) (i k : Nat) (sn : List Bool) : Prop := sn.length = d.nodes.length ∧ ∀ j, j < d.nodes.length → (nth sn j = true ↔ (∃ i', i' < i ∧ (j : Int) ∈ (nth d.nodes i').kids) ∨ (j : Int) ∈ (nth d.nodes i).kids.take k)
def kidsAll (d : HDoc) : Int :=
  if fe d.nodes.length (kidsE d) ≠ 0 then fe d.nodes.length (kidsE d)
  else if fe d.nodes.length (parE d) ≠ 0 then fe d.nodes.length (parE d)
  else if (nd d 0).parent ≠ -1 then 3 else 0
theorem seen_zero (d : HDoc) : SeenI d 0 0 (List.replicate d.nodes.length false) := by
  refine ⟨by simp, fun j hj => ?_⟩
  have : nth (List.replicate d.nodes.length false) j = false := by simp [nth, List.getD_eq_getElem?_getD, hj]
  rw [this]
  simp
theorem seen_next {d : HDoc} {i : Nat} {sn : List Bool} (h : SeenI d i (nth d.nodes i).kids.length sn) : SeenI d (i + 1) 0 sn := by
  refine ⟨h.1, fun j hj => ?_⟩
  rw [h.2 j hj, List.take_length]
  constructor
  · rintro (⟨i', h1, h2⟩ | h1)
    · exact .inl ⟨i', by omega, h2⟩
    · exact .inl ⟨i, by omega, h1⟩
  · rintro (⟨i', h1, h2⟩ | h1)
    · by_cases hi : i' = i
      · subst hi; exact .inr h2
      · exact .inl ⟨i', by omega, h2⟩
    · simp at h1
theorem seen_kid {d : HDoc} {i k : Nat} {sn : List Bool} (h : SeenI d i k sn) (hk : k < (nth d.nodes i).kids.length) (hd : inD d (nth (nth d.nodes i).kids k)) : SeenI d i (k + 1) (sn.set (nth (nth d.nodes i).kids k).toNat true) := by
  have hn := hd.nat
  refine ⟨by rw [List.length_set]; exact h.1, fun j hj => ?_⟩
  rw [nth_set _ _ _ _ (by rw [h.1]; exact hn.1), take_snoc hk, List.mem_append, List.mem_singleton]
  split
  · rename_i hj'
    subst hj'
    rw [hn.2]
    simp
  · rename_i hj'
    rw [h.2 j hj]
    constructor
    · rintro (h1 | h1)
      · exact .inl h1
      · exact .inr (.inl h1)
    · rintro (h1 | h1 | h1)
      · exact .inl h1
      · exact .inr h1
      · exact absurd (by omega) hj'
/-- seen is: in this list already, where all before was right -/
theorem seen_is {d : HDoc} {i k : Nat} {sn : List Bool} (h : SeenI d i k sn) (hi : i < d.nodes.length) (h0 : ∀ j, j < i → kidsE d j = 0) {c : Int} (hc : inD d c) (hp : (nd d c).parent = i) : nth sn c.toNat = true ↔ c ∈ (nth d.nodes i).kids.take k := by
  rw [h.2 _ hc.nat.1, hc.nat.2]
  constructor
  · rintro (⟨i', h1, h2⟩ | h1)
    · obtain ⟨q, hq, rfl⟩ := mem_nth h2
      have := fe_zero (h0 i' h1) q hq
      unfold kidE at this
      simp only at this
      split at this
      · omega
      · rename_i hn
        simp only [not_or, Classical.not_not] at hn
        omega
    · exact h1
  · exact .inr
/-- .. at the end -/
theorem seen_end {d : HDoc} {sn : List Bool} (h : SeenI d d.nodes.length 0 sn) (h0 : ∀ j, j < d.nodes.length → kidsE d j = 0) {i : Nat} (hi : i < d.nodes.length) : nth sn i = true ↔ (inD d (nth d.nodes i).parent ∧ (i : Int) ∈ (nd d (nth d.nodes i).parent).kids) := by
  rw [h.2 _ hi]
  constructor
  · rintro (⟨i', h1, h2⟩ | h1)
    · obtain ⟨q, hq, he⟩ := mem_nth h2
      have := fe_zero (h0 i' h1) q hq
      unfold kidE at this
      simp only [he] at this
      split at this
      · omega
      · rename_i hn
        simp only [not_or, Classical.not_not] at hn
        rw [nd_nat] at hn
        rw [hn.2.1, nd_nat]
        exact ⟨inD_nat.2 h1, h2⟩
    · simp at h1
  · intro ⟨h1, h2⟩
    exact .inl ⟨_, h1.nat.1, h2⟩
theorem eBool_set (sn : List Bool) (k : Nat) (b : Bool) : (sn.map eBool).set k [.bool b] = (sn.set k b).map eBool := by
  rw [List.map_set]; rfl
def c44 : SFun := ⟨(.seq (.reg [⟨(some 1), (.boxF 24 2 (.t 0)), none⟩, ⟨(some 2), (.mv (.c (.int .i64 (0)))), none⟩]) (.seq (.reg [⟨(some 10), (.fldA 0 (.t 1)), none⟩, ⟨(some 11), (.ld 1 false (.t 10)), none⟩, ⟨(some 12), (.len (.t 11)), none⟩, ⟨(some 13), (.mks 4 1 1 [(.bool false)] (.t 12) (.t 12)), none⟩, ⟨(some 3), (.mv (.t 13)), none⟩]) (.seq (.seq (.reg [⟨(some 14), (.fldA 0 (.t 1)), none⟩, ⟨(some 15), (.ld 1 false (.t 14)), none⟩, ⟨(some 16), (.len (.t 15)), none⟩, ⟨(some 17), (.mv (.c (.int .i64 (0)))), none⟩]) (.block 0 (.loop (.seq (.reg [⟨(some 18), (.bin .lss (.t 17) (.t 16)), none⟩]) (.seq (.cond (.t 18) .skip (.exit 0)) (.seq (.block 1 (.seq (.reg [⟨(some 19), (.mv (.t 17)), none⟩, ⟨(some 20), (.idxA 6 (.t 15) (.t 17)), none⟩, ⟨(some 21), (.ld 6 true (.t 20)), none⟩, ⟨(some 5), (.new 53 6 [(.int .i64 (0)), (.str []), .emp, (.str []), (.int .i64 (0)), .emp]), none⟩, ⟨(some 4), (.mv (.t 19)), none⟩, ⟨none, (.st 6 (.t 5) (.t 21)), none⟩]) (.seq (.reg [⟨(some 22), (.fldA 5 (.t 5)), none⟩, ⟨(some 23), (.ld 1 false (.t 22)), none⟩, ⟨(some 24), (.len (.t 23)), none⟩, ⟨(some 25), (.mv (.c (.int .i64 (0)))), none⟩]) (.block 2 (.loop (.seq (.reg [⟨(some 26), (.bin .lss (.t 25) (.t 24)), none⟩]) (.seq (.cond (.t 26) .skip (.exit 2)) (.seq (.block 3 (.seq (.reg [⟨(some 27), (.idxA 1 (.t 23) (.t 25)), none⟩, ⟨(some 28), (.ld 1 false (.t 27)), none⟩, ⟨(some 7), (.mv (.t 28)), none⟩]) (.seq (.block 4 (.seq (.reg [⟨(some 30), (.mv (.t 7)), none⟩, ⟨(some 31), (.bin .lss (.t 30) (.c (.int .i64 (0)))), none⟩, ⟨(some 32), (.mv (.t 31)), none⟩, ⟨(some 33), (.mv (.t 7)), (some (32, false))⟩, ⟨(some 34), (.mv (.t 3)), (some (32, false))⟩, ⟨(some 35), (.len (.t 34)), (some (32, false))⟩, ⟨(some 36), (.bin .geq (.t 33) (.t 35)), (some (32, false))⟩, ⟨(some 37), (.pick (.t 32) (.c (.bool true)) (.t 36)), none⟩, ⟨(some 38), (.mv (.t 37)), none⟩, ⟨(some 39), (.fldA 0 (.t 1)), (some (38, false))⟩, ⟨(some 40), (.ld 1 false (.t 39)), (some (38, false))⟩, ⟨(some 41), (.mv (.t 7)), (some (38, false))⟩, ⟨(some 42), (.idxA 6 (.t 40) (.t 41)), (some (38, false))⟩, ⟨(some 43), (.fldA 4 (.t 42)), (some (38, false))⟩, ⟨(some 44), (.ld 1 false (.t 43)), (some (38, false))⟩, ⟨(some 45), (.mv (.t 4)), (some (38, false))⟩, ⟨(some 46), (.bin .neq (.t 44) (.t 45)), (some (38, false))⟩, ⟨(some 47), (.pick (.t 38) (.c (.bool true)) (.t 46)), none⟩, ⟨(some 48), (.mv (.t 47)), none⟩, ⟨(some 49), (.mv (.t 3)), (some (48, false))⟩, ⟨(some 50), (.mv (.t 7)), (some (48, false))⟩, ⟨(some 51), (.idxA 1 (.t 49) (.t 50)), (some (48, false))⟩, ⟨(some 52), (.ld 1 false (.t 51)), (some (48, false))⟩, ⟨(some 53), (.pick (.t 48) (.c (.bool true)) (.t 52)), none⟩, ⟨(some 29), (.mv (.t 53)), none⟩]) (.cond (.t 29) (.seq (.reg [⟨(some 2), (.mv (.c (.int .i64 (3)))), none⟩]) .ret) (.seq (.reg [⟨(some 55), (.mv (.t 4)), none⟩, ⟨(some 56), (.bin .eql (.t 55) (.c (.int .i64 (0)))), none⟩, ⟨(some 57), (.mv (.t 56)), none⟩, ⟨(some 58), (.fldA 0 (.t 1)), (some (57, true))⟩, ⟨(some 59), (.ld 1 false (.t 58)), (some (57, true))⟩, ⟨(some 60), (.mv (.t 7)), (some (57, true))⟩, ⟨(some 61), (.idxA 6 (.t 59) (.t 60)), (some (57, true))⟩, ⟨(some 62), (.fldA 0 (.t 61)), (some (57, true))⟩, ⟨(some 63), (.ld 1 false (.t 62)), (some (57, true))⟩, ⟨(some 64), (.bin .eql (.t 63) (.c (.int .i64 (3)))), (some (57, true))⟩, ⟨(some 65), (.pick (.t 57) (.t 64) (.c (.bool false))), none⟩, ⟨(some 54), (.mv (.t 65)), none⟩]) (.cond (.t 54) (.seq (.reg [⟨(some 2), (.mv (.c (.int .i64 (7)))), none⟩]) .ret) .skip))))) (.reg [⟨(some 66), (.mv (.t 3)), none⟩, ⟨(some 67), (.mv (.t 7)), none⟩, ⟨(some 68), (.idxA 1 (.t 66) (.t 67)), none⟩, ⟨none, (.st 1 (.t 68) (.c (.bool true))), none⟩])))) (.reg [⟨(some 69), (.bin .add (.t 25) (.c (.int .i64 (1)))), none⟩, ⟨(some 25), (.mv (.t 69)), none⟩]))))))))) (.reg [⟨(some 70), (.bin .add (.t 17) (.c (.int .i64 (1)))), none⟩, ⟨(some 17), (.mv (.t 70)), none⟩]))))))) (.seq (.seq (.reg [⟨(some 71), (.fldA 0 (.t 1)), none⟩, ⟨(some 72), (.ld 1 false (.t 71)), none⟩, ⟨(some 73), (.len (.t 72)), none⟩, ⟨(some 74), (.mv (.c (.int .i64 (0)))), none⟩]) (.block 5 (.loop (.seq (.reg [⟨(some 75), (.bin .lss (.t 74) (.t 73)), none⟩]) (.seq (.cond (.t 75) .skip (.exit 5)) (.seq (.block 6 (.seq (.reg [⟨(some 76), (.mv (.t 74)), none⟩, ⟨(some 77), (.idxA 6 (.t 72) (.t 74)), none⟩, ⟨(some 78), (.ld 6 true (.t 77)), none⟩, ⟨(some 9), (.new 53 6 [(.int .i64 (0)), (.str []), .emp, (.str []), (.int .i64 (0)), .emp]), none⟩, ⟨(some 8), (.mv (.t 76)), none⟩, ⟨none, (.st 6 (.t 9) (.t 78)), none⟩]) (.seq (.reg [⟨(some 79), (.fldA 4 (.t 9)), none⟩, ⟨(some 80), (.ld 1 false (.t 79)), none⟩, ⟨(some 81), (.bin .neq (.t 80) (.c (.int .i64 (-1)))), none⟩, ⟨(some 82), (.mv (.t 81)), none⟩, ⟨(some 83), (.mv (.t 3)), (some (82, true))⟩, ⟨(some 84), (.mv (.t 8)), (some (82, true))⟩, ⟨(some 85), (.idxA 1 (.t 83) (.t 84)), (some (82, true))⟩, ⟨(some 86), (.ld 1 false (.t 85)), (some (82, true))⟩, ⟨(some 87), (.un .not (.t 86)), (some (82, true))⟩, ⟨(some 88), (.pick (.t 82) (.t 87) (.c (.bool false))), none⟩]) (.cond (.t 88) (.seq (.reg [⟨(some 2), (.mv (.c (.int .i64 (3)))), none⟩]) .ret) .skip)))) (.reg [⟨(some 89), (.bin .add (.t 74) (.c (.int .i64 (1)))), none⟩, ⟨(some 74), (.mv (.t 89)), none⟩]))))))) (.seq (.seq (.reg [⟨(some 90), (.fldA 0 (.t 1)), none⟩, ⟨(some 91), (.ld 1 false (.t 90)), none⟩, ⟨(some 92), (.idxA 6 (.t 91) (.c (.int .i64 (0)))), none⟩, ⟨(some 93), (.fldA 4 (.t 92)), none⟩, ⟨(some 94), (.ld 1 false (.t 93)), none⟩, ⟨(some 95), (.bin .neq (.t 94) (.c (.int .i64 (-1)))), none⟩]) (.cond (.t 95) (.seq (.reg [⟨(some 2), (.mv (.c (.int .i64 (3)))), none⟩]) .ret) .skip)) (.seq (.reg [⟨(some 2), (.mv (.c (.int .i64 (0)))), none⟩]) .ret)))))), [(.tmp 2)]⟩
theorem hc44 : toSF Tryd.prog {} Tryd.f44 = some c44 := by kernel_rfl
theorem hn44 : (Tryd.f44.name == "runtime.NumGoroutine") = false := by kernel_rfl
theorem kids_ok (d : HDoc) (sm : DocSm d) (hp : 0 < d.nodes.length) : PCalls (Pg G) 44 [.agg (eDoc d)] (aInt (kidsAll d)) := fun h => by
  have hl := sm.len
  refine dcalls_of_vc Tryd.func44 hn44 hc44 (by rw [Tryd.ntmps44]; simp) (by rw [Tryd.ntmps44]; decide) ?_
  simp -dsimp -implicitDefEqProofs (disch := omega) only [VCA, Nat.reduceEqDiff, Nat.reduceAdd, Nat.reduceLeDiff, ↓reduceIte, eDoc, c44, eDoc]
  refine ⟨by omega, by omega, by omega, by omega, fun r hr => ?_⟩
  have S0 : Sim.Sub h (upd h r (some ⟨.t 4, 1, List.replicate d.nodes.length [.bool false]⟩)) := (Sub.refl h).upd hr
  refine LoopVC.intro (fun m e h' => ∃ (i : Nat) (sn : List Bool), i ≤ d.nodes.length ∧ m = d.nodes.length - i ∧ e 1 = .pin (eDoc d) ∧ e 3 = .osl r 1 0 d.nodes.length ∧ e 15 = sl eNode d.nodes ∧ e 16 = aInt d.nodes.length ∧ e 17 = aInt i ∧ Sim.Sub h h' ∧
      h' r = some ⟨.t 4, 1, sn.map eBool⟩ ∧ SeenI d i 0 sn ∧ ∀ j, j < i → kidsE d j = 0) d.nodes.length ⟨0, List.replicate d.nodes.length false, by omega, by omega, rfl, rfl, rfl, rfl, rfl, S0, by simp [eBool], seen_zero d, by omega⟩ ?_
  rintro m e h' ⟨i, sn, hi, rfl, he1, he3, he15, he16, he17, S, hr', hS, hj⟩
  simp -dsimp -implicitDefEqProofs (disch := omega) only [VCA, ↓reduceIte, eDoc, he16, he17]
  refine Br.dec (fun hlt => ?_) (fun hge => ?_)
  · have hi' : i < d.nodes.length := by omega
    have smi := sm.nth i
    simp -dsimp -implicitDefEqProofs (disch := omega) only [VCA, Nat.reduceEqDiff, Nat.reduceAdd, Nat.reduceLT, ↓reduceIte, setAt, exists_eq_left', eNode, he15, he17]
    refine ⟨by omega, fun rx hrx => ?_⟩
    have hne : r ≠ rx := fun e => by subst e; rw [hr'] at hrx; cases hrx
    have S1 := S.upd (x := some ⟨.t 53, 6, [eNode (nth d.nodes i)]⟩) (S.none hrx)
    have hr1 : upd h' rx (some ⟨.t 53, 6, [eNode (nth d.nodes i)]⟩) r = some ⟨.t 4, 1, sn.map eBool⟩ := by rw [upd_ne _ _ hne]; exact hr'
    have kl := smi.kids
    refine LoopVC.intro (fun m e h' => ∃ (k : Nat) (sn : List Bool), k ≤ (nth d.nodes i).kids.length ∧ m = (nth d.nodes i).kids.length - k ∧ e 1 = .pin (eDoc d) ∧ e 3 = .osl r 1 0 d.nodes.length ∧ e 4 = aInt i ∧ e 15 = sl eNode d.nodes ∧ e 16 = aInt d.nodes.length ∧ e 17 = aInt i ∧
      e 23 = sl eInt (nth d.nodes i).kids ∧ e 24 = aInt (nth d.nodes i).kids.length ∧ e 25 = aInt k ∧ Sim.Sub h h' ∧ h' r = some ⟨.t 4, 1, sn.map eBool⟩ ∧ SeenI d i k sn ∧ ∀ j, j < k → kidE d i j = 0) (nth d.nodes i).kids.length ⟨0, sn, by omega, by omega, he1, he3, rfl, he15, he16, he17, rfl, rfl, rfl, S1, hr1, hS, by omega⟩ ?_
    rintro m e h' ⟨k, sn, hk, rfl, he1, he3, he4, he15, he16, he17, he23, he24, he25, S, hr', hS, hk0⟩
    have hsl := hS.1
    simp -dsimp -implicitDefEqProofs (disch := omega) only [VCA, ↓reduceIte, eDoc, he24, he25]
    refine Br.dec (fun hlt => ?_) (fun hge => ?_)
    · have hk' : k < (nth d.nodes i).kids.length := by omega
      have bad : ∀ x : Int, x ≠ 0 → kidE d i k = x → kidsAll d = x := fun x hx he => by
        have h1 : kidsE d i = x := by unfold kidsE; rw [fe_some hk' hk0 (by rw [he]; exact hx), he]
        have h2 : fe d.nodes.length (kidsE d) = x := by rw [fe_some hi' hj (by rw [h1]; exact hx), h1]
        unfold kidsAll; rw [h2, if_pos hx]
      have ks : ∀ hc : inD d (nth (nth d.nodes i).kids k), (nd d (nth (nth d.nodes i).kids k)).parent = i → (nth sn (nth (nth d.nodes i).kids k).toNat = true ↔ nth (nth d.nodes i).kids k ∈ (nth d.nodes i).kids.take k) := fun hc hp => seen_is hS hi' hj hc hp
      have hsk := fun hc => seen_kid hS hk' hc
      have kdef : kidE d i k = if ¬ inD d (nth (nth d.nodes i).kids k) ∨ (nd d (nth (nth d.nodes i).kids k)).parent ≠ i ∨ nth (nth d.nodes i).kids k ∈ (nth d.nodes i).kids.take k then 3 else if i = 0 ∧ (nd d (nth (nth d.nodes i).kids k)).kind = 3 then 7 else 0 := rfl
      have inC : inD d (nth (nth d.nodes i).kids k) ↔ ¬ nth (nth d.nodes i).kids k < 0 ∧ ¬ (d.nodes.length : Int) ≤ nth (nth d.nodes i).kids k := by unfold inD; omega
      have ok0 : ∀ j, kidE d i k = 0 → j < k + 1 → kidE d i j = 0 := fun j h0 hj' => by
        by_cases hjk : j = k
        · subst hjk; exact h0
        · exact hk0 j (by omega)
      simp -dsimp -implicitDefEqProofs (disch := omega) only [↓vcOps_sp 32, VCA, Nat.reduceEqDiff, ↓reduceIte, eInt, he23, he25]
      repeat' (first | ((with_reducible refine Br.dec (fun _ => ?_) (fun _ => ?_)) <;> try (exfalso; omega)) | ((with_reducible refine Br.eq (fun _ => ?_) (fun _ => ?_)) <;> try (exfalso; omega)) | ((with_reducible refine Br.ne (fun _ => ?_) (fun _ => ?_)) <;> try (exfalso; omega)) | ((with_reducible refine brNdec (fun _ => ?_) (fun _ => ?_)) <;> try (exfalso; omega)) | ((with_reducible refine brNeq (fun _ => ?_) (fun _ => ?_)) <;> try (exfalso; omega)) | with_reducible refine Br.intro (fun _ => ?_) (fun _ => ?_) | (with_reducible refine And.intro ?_ ?_; · omega) | simp -dsimp -implicitDefEqProofs (disch := omega) only [↓vcOps_sp 38, ↓vcOps_sp 48, ↓vcOps_sp 57, VCA, Nat.reduceEqDiff, Nat.reduceAdd, Nat.reduceLeDiff, ↓reduceIte, setAt, exists_eq_right_right, exists_eq_left', eNode, eDoc, eBool, he1, he3, he4, he15, he16, he17, he23, he24, he25, eDoc, eNode, hr', eBool])
      · rename_i q
        exact (bad 3 (by decide) (by rw [kdef, if_pos (.inl fun hc => (inC.1 hc).1 q)])).symm
      · rename_i q
        exact (bad 3 (by decide) (by rw [kdef, if_pos (.inl fun hc => (inC.1 hc).2 q)])).symm
      · rename_i q
        exact (bad 3 (by decide) (by rw [kdef, if_pos (.inr (.inl q))])).symm
      · rename_i q3 q2 q1 q
        exact (bad 3 (by decide) (by rw [kdef, if_pos (.inr (.inr ((ks (inC.2 ⟨q3, q2⟩) q1).1 q)))])).symm
      · rename_i q5 q4 q3 q2 q1 q
        refine (bad 7 (by decide) ?_).symm
        rw [kdef, if_neg, if_pos ⟨by omega, q⟩]
        rintro (hh | hh | hh)
        · exact hh (inC.2 ⟨q5, q4⟩)
        · exact hh q3
        · rw [(ks (inC.2 ⟨q5, q4⟩) q3).2 hh] at q2; cases q2
      · rename_i q5 q4 q3 q2 q1 q
        have k0 : kidE d i k = 0 := by
          rw [kdef, if_neg, if_neg (fun hh => q hh.2)]
          rintro (hh | hh | hh)
          · exact hh (inC.2 ⟨q5, q4⟩)
          · exact hh q3
          · rw [(ks (inC.2 ⟨q5, q4⟩) q3).2 hh] at q2; cases q2
        refine ⟨_, by omega, k + 1, sn.set (nth (nth d.nodes i).kids k).toNat true, by omega, rfl, by omega, S.upd hr, ?_, hsk (inC.2 ⟨q5, q4⟩), fun j => ok0 j k0⟩
        rw [eBool_set]
      · rename_i q4 q3 q2 q1 q
        have k0 : kidE d i k = 0 := by
          rw [kdef, if_neg, if_neg (fun hh => q (by omega))]
          rintro (hh | hh | hh)
          · exact hh (inC.2 ⟨q4, q3⟩)
          · exact hh q2
          · rw [(ks (inC.2 ⟨q4, q3⟩) q2).2 hh] at q1; cases q1
        refine ⟨_, by omega, k + 1, sn.set (nth (nth d.nodes i).kids k).toNat true, by omega, rfl, by omega, S.upd hr, ?_, hsk (inC.2 ⟨q4, q3⟩), fun j => ok0 j k0⟩
        rw [eBool_set]
    · simp -dsimp -implicitDefEqProofs (disch := omega) only [VCA, Nat.reduceEqDiff, ↓reduceIte, eDoc, he1, he3, he15, he16, he17]
      obtain rfl : k = (nth d.nodes i).kids.length := by omega
      refine ⟨_, by omega, i + 1, sn, by omega, rfl, by omega, S, hr', seen_next hS, fun j hj' => ?_⟩
      by_cases hji : j = i
      · subst hji; exact fe_none hk0
      · exact hj j (by omega)
  · obtain rfl : i = d.nodes.length := by omega
    have hk0 : fe d.nodes.length (kidsE d) = 0 := fe_none hj
    have hsl := hS.1
    simp -dsimp -implicitDefEqProofs (disch := omega) only [VCA, Nat.reduceEqDiff, Nat.reduceAdd, Nat.reduceLeDiff, ↓reduceIte, eDoc, he1, eDoc]
    refine LoopVC.intro (fun m e h' => ∃ i : Nat, i ≤ d.nodes.length ∧ m = d.nodes.length - i ∧ e 1 = .pin (eDoc d) ∧ e 3 = .osl r 1 0 d.nodes.length ∧ e 72 = sl eNode d.nodes ∧ e 73 = aInt d.nodes.length ∧ e 74 = aInt i ∧ Sim.Sub h h' ∧
      h' r = some ⟨.t 4, 1, sn.map eBool⟩ ∧ ∀ j, j < i → parE d j = 0) d.nodes.length ⟨0, by omega, by omega, he1, he3, rfl, rfl, rfl, S, hr', by omega⟩ ?_
    rintro m e h' ⟨i, hi, rfl, he1, he3, he72, he73, he74, S, hr', hp0⟩
    simp -dsimp -implicitDefEqProofs (disch := omega) only [VCA, ↓reduceIte, eDoc, he73, he74]
    refine Br.dec (fun hlt => ?_) (fun hge => ?_)
    · have hi' : i < d.nodes.length := by omega
      have se := seen_end hS hj hi'
      have bad : parE d i = 3 → kidsAll d = 3 := fun h3 => by
        have h2 : fe d.nodes.length (parE d) = 3 := by rw [fe_some hi' hp0 (by rw [h3]; decide), h3]
        unfold kidsAll; rw [hk0, if_neg (by simp), h2]; rfl
      simp -dsimp -implicitDefEqProofs (disch := omega) only [↓vcOps_sp 82, VCA, Nat.reduceEqDiff, Nat.reduceAdd, Nat.reduceLT, Nat.reduceLeDiff, ↓reduceIte, setAt, exists_eq_left', eNode, he72, he74, eNode]
      refine ⟨by omega, fun rx hrx => ?_⟩
      have hne : r ≠ rx := fun e => by subst e; rw [hr'] at hrx; cases hrx
      have S1 := S.upd (x := some ⟨.t 53, 6, [eNode (nth d.nodes i)]⟩) (S.none hrx)
      have hr1 : ∀ x, upd h' rx (some x) r = some ⟨.t 4, 1, sn.map eBool⟩ := fun x => by rw [upd_ne _ _ hne]; exact hr'
      have pdef : parE d i = if (nth d.nodes i).parent ≠ -1 ∧ (¬ inD d (nth d.nodes i).parent ∨ (i : Int) ∉ (nd d (nth d.nodes i).parent).kids) then 3 else 0 := rfl
      have ok0 : parE d i = 0 → ∀ j, j < i + 1 → parE d j = 0 := fun h0 j hj' => by
        by_cases hji : j = i
        · subst hji; exact h0
        · exact hp0 j (by omega)
      repeat' (first | ((with_reducible refine Br.dec (fun _ => ?_) (fun _ => ?_)) <;> try (exfalso; omega)) | ((with_reducible refine Br.eq (fun _ => ?_) (fun _ => ?_)) <;> try (exfalso; omega)) | ((with_reducible refine Br.ne (fun _ => ?_) (fun _ => ?_)) <;> try (exfalso; omega)) | ((with_reducible refine brNdec (fun _ => ?_) (fun _ => ?_)) <;> try (exfalso; omega)) | ((with_reducible refine brNeq (fun _ => ?_) (fun _ => ?_)) <;> try (exfalso; omega)) | with_reducible refine Br.intro (fun _ => ?_) (fun _ => ?_) | (with_reducible refine And.intro ?_ ?_; · omega) | simp -dsimp -implicitDefEqProofs (disch := omega) only [VCA, Nat.reduceEqDiff, ↓reduceIte, exists_eq_right_right, exists_eq_left', eDoc, eBool, he1, he3, he72, he73, he74, hne, hr', eBool])
      · rename_i q1 q
        have hb := bad (by
          rw [pdef, if_pos]
          refine ⟨q1, ?_⟩
          rw [← Classical.not_and_iff_not_or_not, ← se]
          simpa using q)
        exact ⟨S1, by rw [hb]⟩
      · rename_i q1 q
        refine ⟨_, by omega, i + 1, by omega, rfl, by omega, S1, ok0 ?_⟩
        rw [pdef, if_neg]
        rintro ⟨_, hh⟩
        rw [← Classical.not_and_iff_not_or_not, ← se] at hh
        simp [hh] at q
      · rename_i q
        refine ⟨_, by omega, i + 1, by omega, rfl, by omega, S1, ok0 ?_⟩
        rw [pdef, if_neg (fun hh => hh.1 q)]
    · obtain rfl : i = d.nodes.length := by omega
      have hp1 : fe d.nodes.length (parE d) = 0 := fe_none hp0
      have e0 : nd d 0 = nth d.nodes 0 := nd_nat d 0
      have kd : kidsAll d = if (nth d.nodes 0).parent ≠ -1 then 3 else 0 := by
        unfold kidsAll; rw [hk0, if_neg (by simp), hp1, if_neg (by simp), e0]
      repeat' (first | ((with_reducible refine Br.dec (fun _ => ?_) (fun _ => ?_)) <;> try (exfalso; omega)) | ((with_reducible refine Br.eq (fun _ => ?_) (fun _ => ?_)) <;> try (exfalso; omega)) | ((with_reducible refine Br.ne (fun _ => ?_) (fun _ => ?_)) <;> try (exfalso; omega)) | ((with_reducible refine brNdec (fun _ => ?_) (fun _ => ?_)) <;> try (exfalso; omega)) | ((with_reducible refine brNeq (fun _ => ?_) (fun _ => ?_)) <;> try (exfalso; omega)) | with_reducible refine Br.intro (fun _ => ?_) (fun _ => ?_) | (with_reducible refine And.intro ?_ ?_; · omega) | simp -dsimp -implicitDefEqProofs (disch := omega) only [VCA, Nat.reduceEqDiff, Nat.reduceAdd, Nat.reduceLeDiff, ↓reduceIte, exists_eq_right_right, eNode, eDoc, he1, eDoc, eNode])
      · rename_i q
        rw [kd, if_pos q]
      · rename_i q
        rw [kd, if_neg (by simpa using q)]
theorem docE_kids (d : HDoc) : docE d = if 200 < d.nodes.length then 2 else if d.nodes.length = 0 then 3 else if fe d.nodes.length (headE d) ≠ 0 then fe d.nodes.length (headE d) else if kidsAll d ≠ 0 then kidsAll d else fe d.nodes.length (deepE d) := by
  unfold docE kidsAll
  by_cases h1 : fe d.nodes.length (kidsE d) ≠ 0
  · simp [h1]
  · by_cases h2 : fe d.nodes.length (parE d) ≠ 0
    · simp [h1, h2]
    · by_cases h3 : (nd d 0).parent ≠ -1 <;> simp [h1, h2, h3]
theorem kids_par {d : HDoc} (h : kidsAll d = 0) : ∀ n, inD d n → 0 ≤ (nd d n).parent → inD d (nd d n).parent := by
  intro n hn hp
  have h2 : fe d.nodes.length (parE d) = 0 := by
    unfold kidsAll at h
    split at h
    · contradiction
    · split at h
      · contradiction
      · rename_i hh; simpa using hh
  have := fe_zero h2 n.toNat hn.nat.1
  unfold parE at this
  simp only at this
  split at this
  · omega
  · rename_i hh
    have e : (nth d.nodes n.toNat) = nd d n := rfl
    rw [e] at hh
    simp only [not_and, not_or, Classical.not_not] at hh
    exact (hh (by omega)).1
def c32 : SFun := ⟨(.seq (.reg [⟨(some 1), (.boxF 24 2 (.t 0)), none⟩, ⟨(some 2), (.mv (.c (.int .i64 (0)))), none⟩]) (.seq (.block 0 (.seq (.reg [⟨(some 10), (.fldA 0 (.t 1)), none⟩, ⟨(some 11), (.ld 1 false (.t 10)), none⟩, ⟨(some 12), (.len (.t 11)), none⟩, ⟨(some 13), (.bin .gtr (.t 12) (.c (.int .i64 (200)))), none⟩, ⟨(some 9), (.mv (.t 13)), none⟩]) (.cond (.t 9) (.seq (.reg [⟨(some 2), (.mv (.c (.int .i64 (2)))), none⟩]) .ret) (.seq (.reg [⟨(some 15), (.fldA 0 (.t 1)), none⟩, ⟨(some 16), (.ld 1 false (.t 15)), none⟩, ⟨(some 17), (.len (.t 16)), none⟩, ⟨(some 18), (.bin .eql (.t 17) (.c (.int .i64 (0)))), none⟩, ⟨(some 14), (.mv (.t 18)), none⟩]) (.cond (.t 14) (.seq (.reg [⟨(some 2), (.mv (.c (.int .i64 (3)))), none⟩]) .ret) .skip))))) (.seq (.seq (.reg [⟨(some 19), (.fldA 0 (.t 1)), none⟩, ⟨(some 20), (.ld 1 false (.t 19)), none⟩, ⟨(some 21), (.len (.t 20)), none⟩, ⟨(some 22), (.mv (.c (.int .i64 (0)))), none⟩]) (.block 1 (.loop (.seq (.reg [⟨(some 23), (.bin .lss (.t 22) (.t 21)), none⟩]) (.seq (.cond (.t 23) .skip (.exit 1)) (.seq (.block 2 (.seq (.reg [⟨(some 24), (.mv (.t 22)), none⟩, ⟨(some 25), (.idxA 6 (.t 20) (.t 22)), none⟩, ⟨(some 26), (.ld 6 true (.t 25)), none⟩, ⟨(some 4), (.new 53 6 [(.int .i64 (0)), (.str []), .emp, (.str []), (.int .i64 (0)), .emp]), none⟩, ⟨(some 3), (.mv (.t 24)), none⟩, ⟨none, (.st 6 (.t 4) (.t 26)), none⟩]) (.seq (.seq (.reg [⟨(some 27), (.fldA 0 (.t 4)), none⟩, ⟨(some 28), (.ld 1 false (.t 27)), none⟩, ⟨(some 29), (.bin .eql (.t 28) (.c (.int .i64 (1)))), none⟩, ⟨(some 30), (.mv (.t 3)), none⟩, ⟨(some 31), (.bin .eql (.t 30) (.c (.int .i64 (0)))), none⟩, ⟨(some 32), (.eqb true (.t 29) (.t 31)), none⟩]) (.cond (.t 32) (.seq (.reg [⟨(some 2), (.mv (.c (.int .i64 (3)))), none⟩]) .ret) .skip)) (.seq (.reg [⟨(some 33), (.ld 6 true (.t 4)), none⟩, ⟨(some 34), (.pcall 43 [(.t 33)]), none⟩, ⟨(some 5), (.mv (.t 34)), none⟩]) (.seq (.reg [⟨(some 35), (.mv (.t 5)), none⟩, ⟨(some 36), (.bin .neq (.t 35) (.c (.int .i64 (0)))), none⟩]) (.cond (.t 36) (.seq (.reg [⟨(some 37), (.mv (.t 5)), none⟩, ⟨(some 2), (.mv (.t 37)), none⟩]) .ret) .skip)))))) (.reg [⟨(some 38), (.bin .add (.t 22) (.c (.int .i64 (1)))), none⟩, ⟨(some 22), (.mv (.t 38)), none⟩]))))))) (.seq (.seq (.reg [⟨(some 39), (.ld 2 true (.t 1)), none⟩, ⟨(some 40), (.pcall 44 [(.t 39)]), none⟩, ⟨(some 6), (.mv (.t 40)), none⟩]) (.seq (.reg [⟨(some 41), (.mv (.t 6)), none⟩, ⟨(some 42), (.bin .neq (.t 41) (.c (.int .i64 (0)))), none⟩]) (.cond (.t 42) (.seq (.reg [⟨(some 43), (.mv (.t 6)), none⟩, ⟨(some 2), (.mv (.t 43)), none⟩]) .ret) .skip))) (.seq (.seq (.reg [⟨(some 44), (.fldA 0 (.t 1)), none⟩, ⟨(some 45), (.ld 1 false (.t 44)), none⟩, ⟨(some 46), (.len (.t 45)), none⟩, ⟨(some 47), (.mv (.c (.int .i64 (0)))), none⟩]) (.block 3 (.loop (.seq (.reg [⟨(some 48), (.bin .lss (.t 47) (.t 46)), none⟩]) (.seq (.cond (.t 48) .skip (.exit 3)) (.seq (.block 4 (.seq (.reg [⟨(some 49), (.mv (.t 47)), none⟩, ⟨(some 7), (.mv (.t 49)), none⟩]) (.seq (.reg [⟨(some 50), (.ld 2 true (.t 1)), none⟩, ⟨(some 51), (.mv (.t 7)), none⟩, ⟨(some 52), (.pcall 45 [(.t 50), (.t 51)]), none⟩, ⟨(some 8), (.mv (.t 52)), none⟩]) (.block 5 (.seq (.reg [⟨(some 54), (.mv (.t 8)), none⟩, ⟨(some 55), (.fldA 0 (.t 1)), none⟩, ⟨(some 56), (.ld 1 false (.t 55)), none⟩, ⟨(some 57), (.len (.t 56)), none⟩, ⟨(some 58), (.bin .gtr (.t 54) (.t 57)), none⟩, ⟨(some 53), (.mv (.t 58)), none⟩]) (.cond (.t 53) (.seq (.reg [⟨(some 2), (.mv (.c (.int .i64 (8)))), none⟩]) .ret) (.seq (.reg [⟨(some 60), (.mv (.t 8)), none⟩, ⟨(some 61), (.bin .gtr (.t 60) (.c (.int .i64 (40)))), none⟩, ⟨(some 59), (.mv (.t 61)), none⟩]) (.cond (.t 59) (.seq (.reg [⟨(some 2), (.mv (.c (.int .i64 (2)))), none⟩]) .ret) .skip)))))))) (.reg [⟨(some 62), (.bin .add (.t 47) (.c (.int .i64 (1)))), none⟩, ⟨(some 47), (.mv (.t 62)), none⟩]))))))) (.seq (.reg [⟨(some 2), (.mv (.c (.int .i64 (0)))), none⟩]) .ret)))))), [(.tmp 2)]⟩
theorem hc32 : toSF Tryd.prog {pure := [43, 44, 45]} Tryd.f32 = some c32 := by kernel_rfl
theorem hn32 : (Tryd.f32.name == "runtime.NumGoroutine") = false := by kernel_rfl
theorem check_ok (d : HDoc) (sm : DocSm d) : PCalls (Pg G) 32 [.agg (eDoc d)] (aInt (docE d)) := fun h => by
  have hl := sm.len
  rw [docE_kids]
  refine dcalls_of_vc Tryd.func32 hn32 hc32 (by rw [Tryd.ntmps32]; simp) (by rw [Tryd.ntmps32]; decide) ?_
  simp -dsimp -implicitDefEqProofs (disch := omega) only [VCA, Nat.reduceEqDiff, Nat.reduceAdd, Nat.reduceLeDiff, ↓reduceIte, ne_eq, eDoc, c32, eDoc]
  refine Br.dec (fun h1 => ?_) (fun h1 => ?_)
  · rw [if_pos (by omega)]
    simp -dsimp -implicitDefEqProofs (disch := omega) only [VCA, ↓reduceIte, exists_eq_right]
    exact Sub.refl _
  · rw [if_neg (by omega)]
    simp -dsimp -implicitDefEqProofs (disch := omega) only [VCA, Nat.reduceEqDiff, Nat.reduceAdd, Nat.reduceLeDiff, ↓reduceIte]
    refine Br.eq (fun h2 => ?_) (fun h2 => ?_)
    · rw [if_pos (by omega)]
      simp -dsimp -implicitDefEqProofs (disch := omega) only [VCA, ↓reduceIte, exists_eq_right]
      exact Sub.refl _
    · rw [if_neg (by omega)]
      simp -dsimp -implicitDefEqProofs (disch := omega) only [VCA, Nat.reduceEqDiff, Nat.reduceAdd, Nat.reduceLeDiff, ↓reduceIte]
      refine LoopVC.intro (fun m e h' => ∃ i : Nat, i ≤ d.nodes.length ∧ m = d.nodes.length - i ∧ e 1 = .pin (eDoc d) ∧ e 20 = sl eNode d.nodes ∧ e 21 = aInt d.nodes.length ∧ e 22 = aInt i ∧ Sim.Sub h h' ∧ ∀ j, j < i → headE d j = 0) d.nodes.length ⟨0, by omega, by omega, rfl, rfl, rfl, rfl, Sub.refl _, by omega⟩ ?_
      rintro m e h' ⟨i, hi, rfl, he1, he20, he21, he22, S, hj⟩
      simp -dsimp -implicitDefEqProofs (disch := omega) only [VCA, ↓reduceIte, eDoc, he21, he22]
      refine Br.dec (fun hlt => ?_) (fun hge => ?_)
      · have hi' : i < d.nodes.length := by omega
        have hO : PCalls (Pg G) 43 [.agg [aInt (nth d.nodes i).kind, .str (nth d.nodes i).name, sl eAttr (nth d.nodes i).attrs, .str (nth d.nodes i).text, aInt (nth d.nodes i).parent, sl eInt (nth d.nodes i).kids]] (aInt (nodeE (nth d.nodes i))) := one_ok' _ (sm.nth i)
        simp -dsimp -implicitDefEqProofs (disch := omega) only [VCA, Nat.reduceEqDiff, Nat.reduceAdd, Nat.reduceLT, Nat.reduceLeDiff, ↓reduceIte, setAt, exists_eq_left', eNode, he20, he22, eNode]
        refine ⟨by omega, fun rx hrx => ?_⟩
        have S1 := S.upd (x := some ⟨.t 53, 6, [eNode (nth d.nodes i)]⟩) (S.none hrx)
        have hdef : headE d i = if ¬ ((nth d.nodes i).kind = 1 ↔ i = 0) then 3 else nodeE (nth d.nodes i) := rfl
        have bad : ∀ x : Int, x ≠ 0 → headE d i = x → fe d.nodes.length (headE d) = x := fun x hx he => by rw [fe_some hi' hj (by rw [he]; exact hx), he]
        have bq : (((nth d.nodes i).kind == 1) == ((i : Int) == 0)) = true ↔ ((nth d.nodes i).kind = 1 ↔ i = 0) := by
          rw [beq_iff_eq, Bool.eq_iff_iff, beq_iff_eq, beq_iff_eq]; omega
        repeat' (first | ((with_reducible refine Br.dec (fun _ => ?_) (fun _ => ?_)) <;> try (exfalso; omega)) | ((with_reducible refine Br.eq (fun _ => ?_) (fun _ => ?_)) <;> try (exfalso; omega)) | ((with_reducible refine Br.ne (fun _ => ?_) (fun _ => ?_)) <;> try (exfalso; omega)) | ((with_reducible refine brNdec (fun _ => ?_) (fun _ => ?_)) <;> try (exfalso; omega)) | ((with_reducible refine brNeq (fun _ => ?_) (fun _ => ?_)) <;> try (exfalso; omega)) | with_reducible refine Br.intro (fun _ => ?_) (fun _ => ?_) | (with_reducible apply pcallE.of; · exact hO) | (with_reducible refine And.intro ?_ ?_; · omega) | simp -dsimp -implicitDefEqProofs (disch := omega) only [VCA, Nat.reduceEqDiff, Nat.reduceAdd, Nat.reduceLT, ↓reduceIte, exists_eq_right_right, exists_eq_left', eDoc, he1, he20, he21, he22])
        · rename_i q
          have q : ¬ ((nth d.nodes i).kind = 1 ↔ i = 0) := fun hh => q (beq_iff_eq.1 (bq.2 hh))
          have := bad 3 (by decide) (by rw [hdef, if_pos q])
          exact ⟨S1, by rw [this]; rfl⟩
        · rename_i q1 q
          have q1 : ¬ ¬ ((nth d.nodes i).kind = 1 ↔ i = 0) := fun hh => hh (bq.1 (beq_iff_eq.2 q1))
          have := bad _ q (by rw [hdef, if_neg q1])
          exact ⟨S1, by rw [this, if_pos q]⟩
        · rename_i q1 q
          have q1 : ¬ ¬ ((nth d.nodes i).kind = 1 ↔ i = 0) := fun hh => hh (bq.1 (beq_iff_eq.2 q1))
          refine ⟨_, by omega, i + 1, by omega, rfl, by omega, S1, fun j hj' => ?_⟩
          by_cases hji : j = i
          · subst hji; rw [hdef, if_neg q1, q]
          · exact hj j (by omega)
      · obtain rfl : i = d.nodes.length := by omega
        rw [if_neg (by rw [fe_none hj]; simp)]
        have hK : PCalls (Pg G) 44 [.agg [sl eNode d.nodes, .bool d.quirks]] (aInt (kidsAll d)) := kids_ok d sm (by omega)
        simp -dsimp -implicitDefEqProofs (disch := omega) only [VCA, Nat.reduceEqDiff, Nat.reduceAdd, ↓reduceIte, eDoc, he1, eDoc]
        refine pcallE.of (hK) ?_; simp -dsimp -implicitDefEqProofs (disch := omega) only [VCA, ↓reduceIte]
        refine Br.ne (fun h3 => ?_) (fun h3 => ?_)
        · simp -dsimp -implicitDefEqProofs (disch := omega) only [VCA, Nat.reduceEqDiff, ↓reduceIte, exists_eq_right_right]
          exact ⟨S, by rw [if_pos h3]⟩
        · rw [if_neg (by simpa using h3)]
          have hP := kids_par h3
          simp -dsimp -implicitDefEqProofs (disch := omega) only [VCA, Nat.reduceEqDiff, Nat.reduceAdd, Nat.reduceLeDiff, ↓reduceIte, eDoc, he1, eDoc]
          refine LoopVC.intro (fun m e h' => ∃ i : Nat, i ≤ d.nodes.length ∧ m = d.nodes.length - i ∧ e 1 = .pin (eDoc d) ∧ e 46 = aInt d.nodes.length ∧ e 47 = aInt i ∧ Sim.Sub h h' ∧ ∀ j, j < i → deepE d j = 0) d.nodes.length ⟨0, by omega, by omega, he1, rfl, rfl, S, by omega⟩ ?_
          rintro m e h' ⟨i, hi, rfl, he1, he46, he47, S, hj⟩
          simp -dsimp -implicitDefEqProofs (disch := omega) only [VCA, ↓reduceIte, eDoc, he46, he47]
          refine Br.dec (fun hlt => ?_) (fun hge => ?_)
          · have hi' : i < d.nodes.length := by omega
            have hU : PCalls (Pg G) 45 [.agg [sl eNode d.nodes, .bool d.quirks], aInt i] (aInt (up d i)) := up_ok d sm hP i (inD_nat.2 hi')
            have bad : ∀ x : Int, x ≠ 0 → deepE d i = x → fe d.nodes.length (deepE d) = x := fun x hx he => by rw [fe_some hi' hj (by rw [he]; exact hx), he]
            have ddef : deepE d i = if d.nodes.length < up d i then 8 else if 40 < up d i then 2 else 0 := rfl
            simp -dsimp -implicitDefEqProofs (disch := omega) only [VCA, Nat.reduceEqDiff, Nat.reduceAdd, ↓reduceIte, eDoc, he1, he47, eDoc]
            repeat' (first | ((with_reducible refine Br.dec (fun _ => ?_) (fun _ => ?_)) <;> try (exfalso; omega)) | ((with_reducible refine Br.eq (fun _ => ?_) (fun _ => ?_)) <;> try (exfalso; omega)) | ((with_reducible refine Br.ne (fun _ => ?_) (fun _ => ?_)) <;> try (exfalso; omega)) | ((with_reducible refine brNdec (fun _ => ?_) (fun _ => ?_)) <;> try (exfalso; omega)) | ((with_reducible refine brNeq (fun _ => ?_) (fun _ => ?_)) <;> try (exfalso; omega)) | with_reducible refine Br.intro (fun _ => ?_) (fun _ => ?_) | (with_reducible apply pcallE.of; · exact hU) | (with_reducible refine And.intro ?_ ?_; · omega) | simp -dsimp -implicitDefEqProofs (disch := omega) only [VCA, Nat.reduceEqDiff, Nat.reduceAdd, Nat.reduceLeDiff, ↓reduceIte, exists_eq_right_right, eDoc, he1, he46, he47, eDoc])
            · exact (bad 8 (by decide) (by rw [ddef, if_pos (by omega)])).symm
            · exact (bad 2 (by decide) (by rw [ddef, if_neg (by omega), if_pos (by omega)])).symm
            · refine ⟨_, by omega, i + 1, by omega, rfl, by omega, S, fun j hj' => ?_⟩
              by_cases hji : j = i
              · subst hji; rw [ddef, if_neg (by omega), if_neg (by omega)]
              · exact hj j (by omega)
          · obtain rfl : i = d.nodes.length := by omega
            simp -dsimp -implicitDefEqProofs (disch := omega) only [VCA, ↓reduceIte, exists_eq_right_right]
            exact ⟨S, (fe_none hj).symm⟩
end Go.Proofs.K
end
section
/- The reference's between. -/
set_option linter.unusedSimpArgs false
set_option linter.unusedVariables false
namespace Go.Proofs.K
open Go Go.Sim Go.Proofs
variable {G : Glob}
end Go.Proofs.K
end
section
/- Documents: the reference's DocErr. -/
set_option linter.unusedSimpArgs false
set_option linter.unusedVariables false
namespace Go.Proofs.K
open Go Go.Sim Go.Proofs
variable {G : Glob}

/-! ## names -/
end Go.Proofs.K
end
section
/- The index's lists: Nodes and First of a word. -/
set_option linter.unusedSimpArgs false
set_option linter.unusedVariables false
namespace Go.Proofs.K
open Go Go.Sim Go.Proofs
variable {G : Glob}
structure HRef where
  word : List UInt8
  nodes : List Int
deriving DecidableEq, Inhabited
def eRef (x : HRef) : List AVal := [.str x.word, sl eInt x.nodes]
instance : LenE eRef 2 := ⟨fun _ => rfl⟩
/-- the nodes of a word -/
def refN (l : List HRef) (w : List UInt8) : List Int := match l.find? (fun x => x.word == w) with | some x => x.nodes | none => []
theorem refN_some {l : List HRef} {w : List UInt8} {k : Nat} (hk : k < l.length) (h1 : ∀ j, j < k → (nth l j).word ≠ w) (h2 : (nth l k).word = w) : refN l w = (nth l k).nodes := by
  have : l.find? (fun x => x.word == w) = some (nth l k) := by
    rw [List.find?_eq_some_iff_getElem]
    refine ⟨by simpa using h2, k, hk, ?_, fun j hj => ?_⟩
    · have := nth_some hk; rw [List.getElem?_eq_getElem hk] at this; exact Option.some.inj this
    · have hn : l[j]'(by omega) = nth l j := by have := nth_some (show j < l.length by omega); rw [List.getElem?_eq_getElem (by omega)] at this; exact Option.some.inj this
      rw [hn]; simpa using h1 j hj
  unfold refN; rw [this]
theorem refN_none {l : List HRef} {w : List UInt8} (h1 : ∀ j, j < l.length → (nth l j).word ≠ w) : refN l w = [] := by
  have : l.find? (fun x => x.word == w) = none := by
    rw [List.find?_eq_none]
    intro x hx
    obtain ⟨j, hj, rfl⟩ := mem_nth hx
    simpa using h1 j hj
  unfold refN; rw [this]
structure RefSm (x : HRef) : Prop where
  word : x.word.length ≤ 1073741824
  nodes : x.nodes.length ≤ 1073741824
def c31 : SFun := ⟨(.seq (.reg [⟨(some 2), (.mv (.c .emp)), none⟩]) (.seq (.seq (.reg [⟨(some 3), (.mv (.t 0)), none⟩, ⟨(some 4), (.isnil 0 false (.t 3)), none⟩]) (.cond (.t 4) (.seq (.reg [⟨(some 2), (.mv (.c .emp)), none⟩]) .ret) .skip)) (.seq (.reg [⟨(some 5), (.bldF 3 1 []), none⟩, ⟨(some 6), (.mv (.t 0)), none⟩, ⟨(some 7), (.app 3 1 8 (.t 5) (.t 6)), none⟩, ⟨(some 2), (.mv (.t 7)), none⟩]) .ret))), [(.tmp 2)]⟩
theorem hc31 : toSF Tryd.prog {} Tryd.f31 = some c31 := by kernel_rfl
theorem hn31 : (Tryd.f31.name == "runtime.NumGoroutine") = false := by kernel_rfl
theorem cloneZ_own {h : Heap} (l : List Int) (hl : l.length ≤ 1073741824) : DCalls (Pg G) 31 [sl eInt l] h (AccK h 3 1 (l.map eInt)) := by
  refine dcalls_of_vc Tryd.func31 hn31 hc31 (by rw [Tryd.ntmps31]; simp) (by rw [Tryd.ntmps31]; decide) ?_
  simp -dsimp -implicitDefEqProofs (disch := omega) only [VCA, ↓reduceIte, reduceCtorEq, c31]
  intro b hb
  refine Br.intro (fun ht => ?_) (fun hf => ?_)
  · simp -dsimp -implicitDefEqProofs (disch := omega) only [VCA, ↓reduceIte]
    have : l = [] := hb (by simpa using ht)
    subst this
    exact ⟨_, Sub.refl _, Acc.nil, Sub.refl _⟩
  · simp -dsimp -implicitDefEqProofs (disch := omega) only [VCA, Nat.reduceEqDiff, ↓reduceIte, reduceCtorEq, okParts, exists_eq_left]
    refine ⟨by omega, by omega, fun r hr => ?_⟩
    exact ⟨_, Sub.refl _, by simpa using Acc.root (cells := l.map eInt) hr (upd_same _ _ _), (Sub.refl _).upd hr⟩
theorem cloneZ_ok (l : List Int) (hl : l.length ≤ 1073741824) : PCalls (Pg G) 31 [sl eInt l] (sl eInt l) := PCalls.acc fun h => cloneZ_own l hl
def c15 : SFun := ⟨(.seq (.reg [⟨(some 4), (.mv (.c .emp)), none⟩]) (.seq (.seq (.reg [⟨(some 7), (.mv (.t 0)), none⟩, ⟨(some 8), (.len (.t 7)), none⟩, ⟨(some 9), (.mv (.c (.int .i64 (0)))), none⟩]) (.block 0 (.loop (.seq (.reg [⟨(some 10), (.bin .lss (.t 9) (.t 8)), none⟩]) (.seq (.cond (.t 10) .skip (.exit 0)) (.seq (.block 1 (.seq (.reg [⟨(some 11), (.idxA 2 (.t 7) (.t 9)), none⟩, ⟨(some 12), (.ld 2 true (.t 11)), none⟩, ⟨(some 6), (.new 45 2 [(.str []), .emp]), none⟩, ⟨none, (.st 2 (.t 6) (.t 12)), none⟩]) (.seq (.reg [⟨(some 13), (.fldA 0 (.t 6)), none⟩, ⟨(some 14), (.ld 1 false (.t 13)), none⟩, ⟨(some 15), (.mv (.t 1)), none⟩, ⟨(some 16), (.bin .eql (.t 14) (.t 15)), none⟩]) (.cond (.t 16) (.seq (.reg [⟨(some 17), (.fldA 1 (.t 6)), none⟩, ⟨(some 18), (.ld 1 false (.t 17)), none⟩, ⟨(some 19), (.pcall 31 [(.t 18)]), none⟩, ⟨(some 4), (.mv (.t 19)), none⟩]) .ret) .skip)))) (.reg [⟨(some 20), (.bin .add (.t 9) (.c (.int .i64 (1)))), none⟩, ⟨(some 9), (.mv (.t 20)), none⟩]))))))) (.seq (.reg [⟨(some 4), (.mv (.c .emp)), none⟩]) .ret))), [(.tmp 4)]⟩
theorem hc15 : toSF Tryd.prog {pure := [31]} Tryd.f15 = some c15 := by kernel_rfl
theorem hn15 : (Tryd.f15.name == "runtime.NumGoroutine") = false := by kernel_rfl
theorem ixNodes_ok (l : List HRef) (w : List UInt8) (hl : l.length ≤ 1073741824) (hs : ∀ x ∈ l, RefSm x) (hw : w.length ≤ 1073741824) : PCalls (Pg G) 15 [sl eRef l, .str w] (sl eInt (refN l w)) := by
  refine PCalls.outV fun h => ?_
  refine dcalls_of_vc Tryd.func15 hn15 hc15 (by rw [Tryd.ntmps15]; simp) (by rw [Tryd.ntmps15]; decide) ?_
  simp -dsimp -implicitDefEqProofs (disch := omega) only [VCA, ↓reduceIte, reduceCtorEq, c15]
  refine LoopVC.intro (fun m e h' => ∃ k : Nat, k ≤ l.length ∧ m = l.length - k ∧ e 1 = .str w ∧ e 7 = sl eRef l ∧ e 8 = aInt l.length ∧ e 9 = aInt k ∧ Sim.Sub h h' ∧ ∀ j, j < k → (nth l j).word ≠ w) l.length ⟨0, by omega, by omega, rfl, rfl, rfl, rfl, Sub.refl _, fun j hj => absurd hj (Nat.not_lt_zero j)⟩ ?_
  rintro m e h' ⟨k, hk, rfl, he1, he7, he8, he9, S, hj⟩
  simp -dsimp -implicitDefEqProofs (disch := omega) only [VCA, ↓reduceIte, ne_eq, he8, he9]
  refine Br.dec (fun hlt => ?_) (fun hge => ?_)
  · have hk' : k < l.length := by omega
    have hsk := hs _ (nth_mem' hk')
    have hC := cloneZ_ok (G := G) (nth l k).nodes hsk.nodes
    simp -dsimp -implicitDefEqProofs (disch := omega) only [VCA, Nat.reduceEqDiff, Nat.reduceAdd, Nat.reduceLT, Nat.reduceLeDiff, ↓reduceIte, setAt, exists_eq_left', eRef, he1, he7, he9, eRef]
    refine ⟨by omega, fun r hr => Br.intro (fun h2 => ?_) (fun h2 => ?_)⟩
    · have h2' : (nth l k).word = w := by simpa using h2
      rw [refN_some hk' hj h2']
      repeat' (first | ((with_reducible refine Br.dec (fun _ => ?_) (fun _ => ?_)) <;> try (exfalso; omega)) | ((with_reducible refine Br.eq (fun _ => ?_) (fun _ => ?_)) <;> try (exfalso; omega)) | ((with_reducible refine Br.ne (fun _ => ?_) (fun _ => ?_)) <;> try (exfalso; omega)) | ((with_reducible refine brNdec (fun _ => ?_) (fun _ => ?_)) <;> try (exfalso; omega)) | ((with_reducible refine brNeq (fun _ => ?_) (fun _ => ?_)) <;> try (exfalso; omega)) | with_reducible refine Br.intro (fun _ => ?_) (fun _ => ?_) | (with_reducible apply pcallE.of; · exact hC) | (with_reducible refine And.intro ?_ ?_; · omega) | simp -dsimp -implicitDefEqProofs (disch := omega) only [VCA, Nat.reduceEqDiff, Nat.reduceAdd, Nat.reduceLT, ↓reduceIte, exists_eq_left'])
      exact ⟨_, Sub.refl _, S.upd (S.none hr), .one _ _ (.refl _)⟩
    · have h2' : (nth l k).word ≠ w := by simpa using h2
      simp -dsimp -implicitDefEqProofs (disch := omega) only [VCA, Nat.reduceEqDiff, ↓reduceIte, he1, he7, he8, he9]
      refine ⟨_, ?_, k + 1, by omega, rfl, by omega, S.upd (S.none hr), fun j hj' => ?_⟩
      · omega
      · by_cases h3 : j = k
        · subst h3; exact h2'
        · exact hj j (by omega)
  · obtain rfl : k = l.length := by omega
    simp -dsimp -implicitDefEqProofs (disch := omega) only [VCA, ↓reduceIte]
    rw [refN_none hj]
    exact ⟨_, Sub.refl _, S, .one _ _ .emp⟩
def c14 : SFun := ⟨(.seq (.reg [⟨(some 4), (.mv (.c (.int .i64 (0)))), none⟩, ⟨(some 5), (.mv (.c (.bool false))), none⟩]) (.seq (.reg [⟨(some 7), (.mv (.t 0)), none⟩, ⟨(some 8), (.mv (.t 1)), none⟩, ⟨(some 9), (.pcall 15 [(.t 7), (.t 8)]), none⟩, ⟨(some 6), (.mv (.t 9)), none⟩]) (.seq (.seq (.reg [⟨(some 10), (.mv (.t 6)), none⟩, ⟨(some 11), (.len (.t 10)), none⟩, ⟨(some 12), (.bin .eql (.t 11) (.c (.int .i64 (0)))), none⟩]) (.cond (.t 12) (.seq (.reg [⟨(some 4), (.mv (.c (.int .i64 (0)))), none⟩, ⟨(some 5), (.mv (.c (.bool false))), none⟩]) .ret) .skip)) (.seq (.reg [⟨(some 13), (.mv (.t 6)), none⟩, ⟨(some 14), (.idxA 1 (.t 13) (.c (.int .i64 (0)))), none⟩, ⟨(some 15), (.ld 1 false (.t 14)), none⟩, ⟨(some 4), (.mv (.t 15)), none⟩, ⟨(some 5), (.mv (.c (.bool true))), none⟩]) .ret)))), [(.tmp 4), (.tmp 5)]⟩
theorem hc14 : toSF Tryd.prog {pure := [15]} Tryd.f14 = some c14 := by kernel_rfl
theorem hn14 : (Tryd.f14.name == "runtime.NumGoroutine") = false := by kernel_rfl
theorem ixFirst_ok (l : List HRef) (w : List UInt8) (hl : l.length ≤ 1073741824) (hs : ∀ x ∈ l, RefSm x) (hw : w.length ≤ 1073741824) : PCalls (Pg G) 14 [sl eRef l, .str w] (.tup [aInt ((refN l w).headD 0), .bool (decide (refN l w ≠ []))]) := by
  intro h
  have hN := ixNodes_ok (G := G) l w hl hs hw
  have hn : (refN l w).length ≤ 1073741824 := by
    unfold refN
    split
    · rename_i x hx; exact (hs x (List.mem_of_find?_eq_some hx)).nodes
    · simp
  refine dcalls_of_vc Tryd.func14 hn14 hc14 (by rw [Tryd.ntmps14]; simp) (by rw [Tryd.ntmps14]; decide) ?_
  simp -dsimp -implicitDefEqProofs (disch := omega) only [VCA, Nat.reduceEqDiff, ↓reduceIte, reduceCtorEq, ne_eq, c14]
  repeat' (first | ((with_reducible refine Br.dec (fun _ => ?_) (fun _ => ?_)) <;> try (exfalso; omega)) | ((with_reducible refine Br.eq (fun _ => ?_) (fun _ => ?_)) <;> try (exfalso; omega)) | ((with_reducible refine Br.ne (fun _ => ?_) (fun _ => ?_)) <;> try (exfalso; omega)) | ((with_reducible refine brNdec (fun _ => ?_) (fun _ => ?_)) <;> try (exfalso; omega)) | ((with_reducible refine brNeq (fun _ => ?_) (fun _ => ?_)) <;> try (exfalso; omega)) | with_reducible refine Br.intro (fun _ => ?_) (fun _ => ?_) | (with_reducible apply pcallE.of; · exact hN) | (with_reducible refine And.intro ?_ ?_; · omega) | simp -dsimp -implicitDefEqProofs (disch := omega) only [VCA, Nat.reduceEqDiff, ↓reduceIte, exists_eq_right_right, eInt])
  all_goals rename_i hx; refine ⟨Sub.refl _, ?_⟩; generalize refN l w = m at hx; cases m <;> first | (exfalso; simp at hx; omega) | simp_all [nth, aInt]
end Go.Proofs.K
end
section
/- Words with their nodes as they are handed in: a reader. -/
set_option linter.unusedSimpArgs false
set_option linter.unusedVariables false
namespace Go.Proofs.YtggekcghfpfmiaaDoor
open Go Go.Sim Go.Proofs Go.Proofs.K Go.ChangeShapes Go.WideShapes Go.ChangeAt Go.RowKit
variable {H : Type} {enc : TypeId × Value → H} {w : World}
def goodR (k : Nat) (x : HRef) : Prop := x.word.length ≤ k ∧ x.nodes.length ≤ k
theorem mR : Mono goodR := fun _ _ _ h1 h2 => ⟨Nat.le_trans h2.1 h1, Nat.le_trans h2.2 h1⟩
theorem rRef : Rdr enc Tryd.prog w Rows.uptoBulk 45 eRef goodR := by
  have hB := bulk H
  have r := Rdr.struct (eh := enc) (w := w) hB Tryd.underlying45 (by kernel_rfl) (.cons (sz := 1) rfl (by kernel_rfl) mStr rStr (.cons (sz := 1) rfl (by kernel_rfl) (fun _ _ _ h1 h2 => ⟨Nat.le_trans h2.1 h1, h2.2⟩) rInts (.nil _)))
  exact r.map (fun p => ⟨p.1, p.2.1⟩) (fun _ => rfl) (fun _ _ h => ⟨h.1, h.2.1.1⟩)
def goodRs (k : Nat) (l : List HRef) : Prop := l.length ≤ k ∧ ∀ e ∈ l, goodR k e
theorem rRefs : Rdr enc Tryd.prog w Rows.uptoBulk 27 (fun l => [sl eRef l]) goodRs :=
  Rdr.slice (eh := enc) (w := w) (bulk H) mR (sz := 2) (enc := eRef) Tryd.underlying27 (by kernel_rfl) (by decide) (fun _ => rfl) (rRef (H := H))
end Go.Proofs.YtggekcghfpfmiaaDoor
end
section
/- strings.Builder: contracts. -/
set_option linter.unusedSimpArgs false
set_option linter.unusedVariables false
namespace Go.Proofs.K
open Go Go.Sim Go.Proofs Go.Shelf
variable {G : Glob}

/-! ## runes -/
end Go.Proofs.K
end
section
/- chars: signs to bytes. -/
set_option linter.unusedSimpArgs false
set_option linter.unusedVariables false
namespace Go.Proofs.K
open Go Go.Sim Go.Proofs
variable {G : Glob}

def eRune (r : Int) : List AVal := [.int .i32 r]
instance : LenE eRune 1 := ⟨fun _ => rfl⟩
def validR (r : Int) : Bool := (decide (0 ≤ r) && decide (r < 55296)) || (decide (57343 < r) && decide (r ≤ 1114111))
def c55 : SFun := ⟨(.seq (.reg [⟨(some 2), (.mv (.c (.bool false))), none⟩]) (.seq (.block 0 (.seq (.reg [⟨(some 4), (.mv (.t 0)), none⟩, ⟨(some 5), (.bin .leq (.c (.int .i32 (0))) (.t 4)), none⟩, ⟨(some 6), (.mv (.t 5)), none⟩, ⟨(some 7), (.mv (.t 0)), (some (6, true))⟩, ⟨(some 8), (.bin .lss (.t 7) (.c (.int .i32 (55296)))), (some (6, true))⟩, ⟨(some 9), (.pick (.t 6) (.t 8) (.c (.bool false))), none⟩, ⟨(some 3), (.mv (.t 9)), none⟩]) (.cond (.t 3) (.seq (.reg [⟨(some 2), (.mv (.c (.bool true))), none⟩]) .ret) (.seq (.reg [⟨(some 11), (.mv (.t 0)), none⟩, ⟨(some 12), (.bin .lss (.c (.int .i32 (57343))) (.t 11)), none⟩, ⟨(some 13), (.mv (.t 12)), none⟩, ⟨(some 14), (.mv (.t 0)), (some (13, true))⟩, ⟨(some 15), (.bin .leq (.t 14) (.c (.int .i32 (1114111)))), (some (13, true))⟩, ⟨(some 16), (.pick (.t 13) (.t 15) (.c (.bool false))), none⟩, ⟨(some 10), (.mv (.t 16)), none⟩]) (.cond (.t 10) (.seq (.reg [⟨(some 2), (.mv (.c (.bool true))), none⟩]) .ret) .skip))))) (.seq (.reg [⟨(some 2), (.mv (.c (.bool false))), none⟩]) .ret))), [(.tmp 2)]⟩
theorem hc55 : toSF Tryd.prog {} Tryd.f55 = some c55 := by kernel_rfl
theorem hn55 : (Tryd.f55.name == "runtime.NumGoroutine") = false := by kernel_rfl
theorem validRune_ok (r : Int) : PCalls (Pg G) 55 [.int .i32 r] (.bool (validR r)) := fun h => by
  refine dcalls_of_vc Tryd.func55 hn55 hc55 (by rw [Tryd.ntmps55]; simp) (by rw [Tryd.ntmps55]; decide) ?_
  unfold validR
  by_cases h1 : 0 ≤ r <;> by_cases h2 : r < 55296 <;> by_cases h3 : 57343 < r <;> by_cases h4 : r ≤ 1114111
  all_goals simp only [h1, h2, h3, h4, decide_true, decide_false, Bool.and_true, Bool.and_false, Bool.or_true, Bool.or_false]
  all_goals first | omega | skip
  all_goals (
    simp -dsimp -implicitDefEqProofs (disch := omega) only [↓vcOps_sp 6, ↓vcOps_sp 13, VCA, Nat.reduceEqDiff, ↓reduceIte, reduceCtorEq, exists_eq_right, c55, h1, h2, h3, h4, decide_true, decide_false]
    exact Sub.refl _)
end Go.Proofs.K
end
section
/- chars: bytes to signs. -/
set_option linter.unusedSimpArgs false
set_option linter.unusedVariables false
namespace Go.Proofs.K
open Go Go.Sim Go.Proofs
variable {G : Glob}

/-- the byte at a place -/
def bt (s : List UInt8) (i : Nat) : Int := ((s.getD i 0).toNat : Int)
end Go.Proofs.K
end
section
/- Places in a text, plain. -/
set_option linter.unusedSimpArgs false
set_option linter.unusedVariables false
namespace Go.Proofs.K
open Go Go.Sim Go.Proofs
/-- the first place from a on, below n, at which q holds; or n -/
def firstF (q : Nat → Bool) : Nat → Nat → Nat
  | 0, a => a
  | f + 1, a => if q a = true then a else firstF q f (a + 1)
def firstM (q : Nat → Bool) (n a : Nat) : Nat := firstF q (n - a) a
theorem first_on {q : Nat → Bool} {n a : Nat} (h : a < n) (hq : q a = false) : firstM q n a = firstM q n (a + 1) := by
  unfold firstM
  obtain ⟨f, hf⟩ : ∃ f, n - a = f + 1 := ⟨n - a - 1, by omega⟩
  rw [hf, show n - (a + 1) = f by omega, firstF, hq, if_neg (by simp)]
theorem first_off {q : Nat → Bool} {n a : Nat} (hq : q a = true) (h : a < n) : firstM q n a = a := by
  unfold firstM
  obtain ⟨f, hf⟩ : ∃ f, n - a = f + 1 := ⟨n - a - 1, by omega⟩
  rw [hf, firstF, hq, if_pos rfl]
theorem first_end {q : Nat → Bool} {n a : Nat} (h : n ≤ a) : firstM q n a = a := by
  unfold firstM
  rw [show n - a = 0 by omega]; rfl
structure FirstIs (q : Nat → Bool) (n a k : Nat) : Prop where
  ge : a ≤ k
  le : k ≤ n
  hit : k < n → q k = true
  no : ∀ j, a ≤ j → j < k → q j = false
theorem first_is {q : Nat → Bool} {n : Nat} : ∀ m a, n - a = m → a ≤ n → FirstIs q n a (firstM q n a)
  | 0, a, hm, h => by
    obtain rfl : a = n := by omega
    rw [first_end (Nat.le_refl _)]
    exact ⟨Nat.le_refl _, Nat.le_refl _, fun h => absurd h (Nat.lt_irrefl _), fun j h1 h2 => by omega⟩
  | m + 1, a, hm, h => by
    cases hq : q a with
    | true =>
      rw [first_off hq (by omega)]
      exact ⟨Nat.le_refl _, h, fun _ => hq, fun j h1 h2 => by omega⟩
    | false =>
      rw [first_on (by omega) hq]
      obtain ⟨h1, h2, h3, h4⟩ := first_is (q := q) (n := n) m (a + 1) (by omega) (by omega)
      refine ⟨by omega, h2, h3, fun j g1 g2 => ?_⟩
      by_cases e : j = a
      · rw [e]; exact hq
      · exact h4 j (by omega) g2
theorem fstI {q : Nat → Bool} {n a : Nat} (h : a ≤ n) : FirstIs q n a (firstM q n a) := first_is _ a rfl h
theorem FirstIs.eq {q : Nat → Bool} {n a k : Nat} (h : FirstIs q n a k) : firstM q n a = k := by
  have g := fstI (q := q) (n := n) (a := a) (Nat.le_trans h.ge h.le)
  rcases Nat.lt_trichotomy (firstM q n a) k with hl | he | hl
  · have h1 := h.no _ g.ge hl
    rw [g.hit (Nat.lt_of_lt_of_le hl h.le)] at h1; cases h1
  · exact he
  · have h1 := g.no _ h.ge hl
    rw [h.hit (Nat.lt_of_lt_of_le hl g.le)] at h1; cases h1
/-- a piece of a text -/
def seg (s : List UInt8) (a b : Nat) : List UInt8 := (s.take b).drop a
theorem seg_len {s : List UInt8} {a b : Nat} (hb : b ≤ s.length) : (seg s a b).length = b - a := by
  unfold seg; rw [List.length_drop, List.length_take]; omega
def blankI (b : Int) : Bool := b == 32 || (b == 9 || (b == 10 || (b == 12 || b == 13)))
end Go.Proofs.K
end
section
/- Signs of a text. -/
set_option linter.unusedSimpArgs false
set_option linter.unusedVariables false
namespace Go.Proofs.K
open Go Go.Sim Go.Proofs
variable {G : Glob}
/-! ## signs of a text -/
theorem runeAt_is (l : List UInt8) (p : Nat) (hp : p < l.length) :
    (bt l p < 128 → runeAt l p = ((bt l p).toNat, 1)) ∧ (128 ≤ bt l p → (runeAt l p = (65533, 1)) ∨ (2 ≤ (runeAt l p).2 ∧ 128 ≤ (runeAt l p).1)) ∧ 1 ≤ (runeAt l p).2 ∧ p + (runeAt l p).2 ≤ l.length := by
  have hb : ((⟨l.toArray⟩ : ByteArray).get! (p + 0)).toNat = (bt l p).toNat := by
    show (l.toArray.getD (p + 0) default).toNat = _
    unfold bt
    simp [Array.getD_eq_getD_getElem?, List.getD_eq_getElem?_getD]
    rfl
  have hs : (⟨l.toArray⟩ : ByteArray).size = l.length := rfl
  have h0 : 0 ≤ bt l p := by unfold bt; omega
  unfold runeAt Utf8.decode
  simp only [hb, hs, Utf8.runeError]
  generalize ((⟨l.toArray⟩ : ByteArray).get! (p + 1)).toNat = b1
  generalize ((⟨l.toArray⟩ : ByteArray).get! (p + 2)).toNat = b2
  generalize ((⟨l.toArray⟩ : ByteArray).get! (p + 3)).toNat = b3
  simp only [Bool.and_eq_true, decide_eq_true_eq, beq_iff_eq]
  (repeat' split) <;> (refine ⟨fun h => ?_, fun h => ?_, ?_, ?_⟩) <;> first | omega | rfl | (simp only; omega) | (left; rfl) | (right; constructor <;> (simp only; omega)) | (exfalso; omega) | trace_state
end Go.Proofs.K
end
section
/- First places of signs: strings.IndexRune among ASCII. -/
set_option linter.unusedSimpArgs false
set_option linter.unusedVariables false
namespace Go.Proofs.K
open Go Go.Sim Go.Proofs
variable {G : Glob}
theorem runeAt_cont (l : List UInt8) (p : Nat) : ∀ i, p < i → i < p + (runeAt l p).2 → 128 ≤ bt l i := by
  have hb : ∀ k, ((⟨l.toArray⟩ : ByteArray).get! (p + k)).toNat = (bt l (p + k)).toNat := fun k => by
    show (l.toArray.getD (p + k) default).toNat = _
    unfold bt
    simp [Array.getD_eq_getD_getElem?, List.getD_eq_getElem?_getD]
    rfl
  intro i h1 h2
  obtain ⟨k, rfl⟩ : ∃ k, i = p + k := ⟨i - p, by omega⟩
  have hk : k = 1 ∨ k = 2 ∨ k = 3 ∨ 4 ≤ k := by omega
  revert h2
  unfold runeAt Utf8.decode
  simp only [hb, Utf8.runeError]
  simp only [Bool.and_eq_true, decide_eq_true_eq, beq_iff_eq]
  (repeat' split) <;> intro h2 <;> (simp only at h2) <;> rcases hk with rfl | rfl | rfl | hk <;> first | omega | trace_state
theorem idxB_none {l : List UInt8} {c : UInt8} (h : c ∉ l) : Lib.indexByte l c = -1 := by
  have h1 := Lib.indexByte_ge l c
  by_cases h2 : Lib.indexByte l c = -1
  · exact h2
  · obtain ⟨o, ho⟩ : ∃ o : Nat, Lib.indexByte l c = o := ⟨(Lib.indexByte l c).toNat, by omega⟩
    exact absurd (List.mem_of_getElem? (Lib.indexByte_some ho).1) h
theorem idxB_some {l : List UInt8} {c : UInt8} (h : c ∈ l) : 0 ≤ Lib.indexByte l c := by
  have h1 := Lib.indexByte_ge l c
  by_cases h2 : Lib.indexByte l c = -1
  · obtain ⟨k, hk, e⟩ := List.getElem_of_mem h
    exact absurd (by rw [List.getElem?_eq_getElem hk, e]) (Lib.indexByte_none h2 k)
  · omega
theorem enc_is (c : Nat) (h : 128 ≤ c) (hv : Utf8.valid (c : Int) = true) : 2 ≤ (Utf8.encode (c : Int)).data.toList.length ∧ (Utf8.encode (c : Int)).data.toList.length ≤ 4 ∧ ∀ b ∈ (Utf8.encode (c : Int)).data.toList, 128 ≤ b.toNat := by
  have hc : c < 2097152 := by
    unfold Utf8.valid at hv
    simp only [Bool.or_eq_true, Bool.and_eq_true, decide_eq_true_eq] at hv
    omega
  unfold Utf8.encode
  simp only [hv, if_true, Int.toNat_natCast]
  (repeat' split)
  · omega
  all_goals
    refine ⟨by simp, by simp, fun b hb => ?_⟩
    simp at hb
    rcases hb with rfl | rfl | rfl | rfl <;> simp <;> omega
theorem valid_eq (c : Int) : validR c = Utf8.valid c := by
  unfold validR Utf8.valid
  rw [Bool.eq_iff_iff]
  simp only [Bool.or_eq_true, Bool.and_eq_true, decide_eq_true_eq]
  omega
/-- the place of a sign among those of ASCII: its byte's, or none -/
def ixR (l : List UInt8) (c : Nat) : Int := if c < 128 then Lib.indexByte l (UInt8.ofNat c) else -1
def c41 : SFun := ⟨(.seq (.reg [⟨(some 4), (.mv (.c (.int .i64 (0)))), none⟩]) (.block 0 (.seq (.reg [⟨(some 161), (.mv (.t 1)), none⟩, ⟨(some 162), (.bin .leq (.c (.int .i32 (0))) (.t 161)), none⟩, ⟨(some 163), (.mv (.t 162)), none⟩, ⟨(some 164), (.mv (.t 1)), (some (163, true))⟩, ⟨(some 165), (.bin .lss (.t 164) (.c (.int .i32 (128)))), (some (163, true))⟩, ⟨(some 166), (.pick (.t 163) (.t 165) (.c (.bool false))), none⟩, ⟨(some 160), (.mv (.t 166)), none⟩]) (.cond (.t 160) (.seq (.reg [⟨(some 167), (.mv (.t 0)), none⟩, ⟨(some 168), (.mv (.t 1)), none⟩, ⟨(some 169), (.cvi .u8 (.t 168)), none⟩, ⟨(some 170), (.pcall 54 [(.t 167), (.t 169)]), none⟩, ⟨(some 4), (.mv (.t 170)), none⟩]) .ret) (.seq (.reg [⟨(some 172), (.mv (.t 1)), none⟩, ⟨(some 173), (.bin .eql (.t 172) (.c (.int .i32 (65533)))), none⟩, ⟨(some 171), (.mv (.t 173)), none⟩]) (.cond (.t 171) (.seq (.seq (.reg [⟨(some 174), (.mv (.t 0)), none⟩, ⟨(some 175), (.rng (.t 174)), none⟩]) (.block 9 (.loop (.seq (.reg [⟨(some 176), (.nxt (.t 175)), none⟩, ⟨(some 177), (.ext (.t 176) 0), none⟩]) (.seq (.cond (.t 177) .skip (.exit 9)) (.block 10 (.seq (.reg [⟨(some 178), (.ext (.t 176) 1), none⟩, ⟨(some 179), (.ext (.t 176) 2), none⟩, ⟨(some 5), (.mv (.t 178)), none⟩, ⟨(some 6), (.mv (.t 179)), none⟩]) (.seq (.reg [⟨(some 180), (.mv (.t 6)), none⟩, ⟨(some 181), (.bin .eql (.t 180) (.c (.int .i32 (65533)))), none⟩]) (.cond (.t 181) (.seq (.reg [⟨(some 182), (.mv (.t 5)), none⟩, ⟨(some 4), (.mv (.t 182)), none⟩]) .ret) .skip))))))))) (.seq (.reg [⟨(some 4), (.mv (.c (.int .i64 (-1)))), none⟩]) .ret)) (.seq (.reg [⟨(some 184), (.mv (.t 1)), none⟩, ⟨(some 185), (.pcall 55 [(.t 184)]), none⟩, ⟨(some 186), (.un .not (.t 185)), none⟩, ⟨(some 183), (.mv (.t 186)), none⟩]) (.cond (.t 183) (.seq (.reg [⟨(some 4), (.mv (.c (.int .i64 (-1)))), none⟩]) .ret) (.scope 1 (.seq (.reg [⟨(some 17), (.mv (.t 1)), none⟩, ⟨(some 18), (.r2s (.t 17)), none⟩, ⟨(some 7), (.mv (.t 18)), none⟩]) (.seq (.reg [⟨(some 19), (.mv (.t 7)), none⟩, ⟨(some 20), (.lenS (.t 19)), none⟩, ⟨(some 21), (.bin .sub (.t 20) (.c (.int .i64 (1)))), none⟩, ⟨(some 8), (.mv (.t 21)), none⟩]) (.seq (.reg [⟨(some 22), (.mv (.t 8)), none⟩, ⟨(some 9), (.mv (.t 22)), none⟩]) (.seq (.reg [⟨(some 10), (.mv (.c (.int .i64 (0)))), none⟩]) (.seq (.block 1 (.loop (.seq (.seq (.reg [⟨(some 23), (.mv (.t 9)), none⟩, ⟨(some 24), (.mv (.t 0)), none⟩, ⟨(some 25), (.lenS (.t 24)), none⟩, ⟨(some 26), (.bin .lss (.t 23) (.t 25)), none⟩]) (.cond (.t 26) .skip (.exit 1))) (.block 2 (.scope 0 (.seq (.seq (.dreg [(⟨(some 27), (.mv (.t 0)), none⟩, none), (⟨(some 28), (.mv (.t 9)), none⟩, none), (⟨(some 29), (.idxS (.t 27) (.t 28)), none⟩, none), (⟨(some 30), (.mv (.t 7)), none⟩, none), (⟨(some 31), (.mv (.t 8)), none⟩, none), (⟨(some 32), (.idxS (.t 30) (.t 31)), none⟩, none), (⟨(some 33), (.bin .neq (.t 29) (.t 32)), none⟩, none)]) (.cond (.t 33) (.seq (.dreg [(⟨(some 34), (.mv (.t 0)), none⟩, none), (⟨(some 35), (.mv (.t 9)), none⟩, none), (⟨(some 36), (.bin .add (.t 35) (.c (.int .i64 (1)))), none⟩, none), (⟨(some 37), (.slS (.t 34) (some (.t 36)) none), none⟩, none), (⟨(some 38), (.mv (.t 7)), none⟩, none), (⟨(some 39), (.mv (.t 8)), none⟩, none), (⟨(some 40), (.idxS (.t 38) (.t 39)), none⟩, none), (⟨(some 41), (.pcall 54 [(.t 37), (.t 40)]), none⟩, none), (⟨(some 11), (.mv (.t 41)), none⟩, none)]) (.seq (.seq (.reg [⟨(some 42), (.mv (.t 11)), none⟩, ⟨(some 43), (.bin .lss (.t 42) (.c (.int .i64 (0)))), none⟩]) (.cond (.t 43) (.seq (.reg [⟨(some 4), (.mv (.c (.int .i64 (-1)))), none⟩]) .ret) .skip)) (.reg [⟨(some 44), (.mv (.t 9)), none⟩, ⟨(some 45), (.mv (.t 11)), none⟩, ⟨(some 46), (.bin .add (.t 45) (.c (.int .i64 (1)))), none⟩, ⟨(some 47), (.bin .add (.t 44) (.t 46)), none⟩, ⟨(some 9), (.mv (.t 47)), none⟩]))) .skip)) (.seq (.seq (.reg [⟨(some 12), (.mv (.c (.int .i64 (1)))), none⟩]) (.block 3 (.loop (.seq (.seq (.reg [⟨(some 48), (.mv (.t 12)), none⟩, ⟨(some 49), (.mv (.t 7)), none⟩, ⟨(some 50), (.lenS (.t 49)), none⟩, ⟨(some 51), (.bin .lss (.t 48) (.t 50)), none⟩]) (.cond (.t 51) .skip (.exit 3))) (.seq (.block 4 (.seq (.dreg [(⟨(some 54), (.mv (.t 0)), none⟩, none), (⟨(some 55), (.mv (.t 9)), none⟩, none), (⟨(some 56), (.mv (.t 12)), none⟩, none), (⟨(some 57), (.bin .sub (.t 55) (.t 56)), none⟩, none), (⟨(some 58), (.idxS (.t 54) (.t 57)), none⟩, none), (⟨(some 59), (.mv (.t 7)), none⟩, none), (⟨(some 60), (.mv (.t 8)), none⟩, none), (⟨(some 61), (.mv (.t 12)), none⟩, none), (⟨(some 62), (.bin .sub (.t 60) (.t 61)), none⟩, none), (⟨(some 63), (.idxS (.t 59) (.t 62)), none⟩, none), (⟨(some 64), (.bin .neq (.t 58) (.t 63)), none⟩, none)]) (.cond (.t 64) (.goto 0) .skip))) (.reg [⟨(some 52), (.mv (.t 12)), none⟩, ⟨(some 53), (.bin .add (.t 52) (.c (.int .i64 (1)))), none⟩, ⟨(some 12), (.mv (.t 53)), none⟩])))))) (.seq (.seq (.reg [⟨(some 65), (.mv (.t 9)), none⟩, ⟨(some 66), (.mv (.t 8)), none⟩, ⟨(some 67), (.bin .sub (.t 65) (.t 66)), none⟩, ⟨(some 4), (.mv (.t 67)), none⟩]) .ret) (.seq (.label 0) (.seq (.reg [⟨(some 68), (.mv (.t 10)), none⟩, ⟨(some 69), (.bin .add (.t 68) (.c (.int .i64 (1)))), none⟩, ⟨(some 10), (.mv (.t 69)), none⟩]) (.seq (.reg [⟨(some 70), (.mv (.t 9)), none⟩, ⟨(some 71), (.bin .add (.t 70) (.c (.int .i64 (1)))), none⟩, ⟨(some 9), (.mv (.t 71)), none⟩]) (.seq (.reg [⟨(some 72), (.mv (.c (.bool true))), none⟩, ⟨(some 73), (.mv (.t 10)), (some (72, true))⟩, ⟨(some 74), (.mv (.t 9)), (some (72, true))⟩, ⟨(some 75), (.call (.c (.fn 56 [] [])) [(.t 74)]), (some (72, true))⟩, ⟨(some 76), (.bin .gtr (.t 73) (.t 75)), (some (72, true))⟩, ⟨(some 77), (.pick (.t 72) (.t 76) (.c (.bool false))), none⟩, ⟨(some 78), (.mv (.t 77)), none⟩, ⟨(some 79), (.mv (.t 9)), (some (78, true))⟩, ⟨(some 80), (.mv (.t 0)), (some (78, true))⟩, ⟨(some 81), (.lenS (.t 80)), (some (78, true))⟩, ⟨(some 82), (.bin .lss (.t 79) (.t 81)), (some (78, true))⟩, ⟨(some 83), (.pick (.t 78) (.t 82) (.c (.bool false))), none⟩, ⟨(some 84), (.mv (.t 83)), none⟩, ⟨(some 85), (.mv (.c (.bool false))), (some (84, false))⟩, ⟨(some 86), (.mv (.t 10)), (some (85, true))⟩, ⟨(some 87), (.mv (.t 9)), (some (85, true))⟩, ⟨(some 88), (.bin .shr (.t 87) (.c (.int .u64 (4)))), (some (85, true))⟩, ⟨(some 89), (.bin .add (.c (.int .i64 (4))) (.t 88)), (some (85, true))⟩, ⟨(some 90), (.bin .geq (.t 86) (.t 89)), (some (85, true))⟩, ⟨(some 91), (.pick (.t 85) (.t 90) (.c (.bool false))), (some (84, false))⟩, ⟨(some 92), (.mv (.t 91)), (some (84, false))⟩, ⟨(some 93), (.mv (.t 9)), (some (92, true))⟩, ⟨(some 94), (.mv (.t 0)), (some (92, true))⟩, ⟨(some 95), (.lenS (.t 94)), (some (92, true))⟩, ⟨(some 96), (.bin .lss (.t 93) (.t 95)), (some (92, true))⟩, ⟨(some 97), (.pick (.t 92) (.t 96) (.c (.bool false))), (some (84, false))⟩, ⟨(some 98), (.pick (.t 84) (.c (.bool true)) (.t 97)), none⟩]) (.cond (.t 98) (.goto 1) .skip)))))))) (.seq .skip (.seq (.reg [⟨(some 68), (.mv (.t 10)), none⟩, ⟨(some 69), (.bin .add (.t 68) (.c (.int .i64 (1)))), none⟩, ⟨(some 10), (.mv (.t 69)), none⟩]) (.seq (.reg [⟨(some 70), (.mv (.t 9)), none⟩, ⟨(some 71), (.bin .add (.t 70) (.c (.int .i64 (1)))), none⟩, ⟨(some 9), (.mv (.t 71)), none⟩]) (.seq (.reg [⟨(some 72), (.mv (.c (.bool true))), none⟩, ⟨(some 73), (.mv (.t 10)), (some (72, true))⟩, ⟨(some 74), (.mv (.t 9)), (some (72, true))⟩, ⟨(some 75), (.call (.c (.fn 56 [] [])) [(.t 74)]), (some (72, true))⟩, ⟨(some 76), (.bin .gtr (.t 73) (.t 75)), (some (72, true))⟩, ⟨(some 77), (.pick (.t 72) (.t 76) (.c (.bool false))), none⟩, ⟨(some 78), (.mv (.t 77)), none⟩, ⟨(some 79), (.mv (.t 9)), (some (78, true))⟩, ⟨(some 80), (.mv (.t 0)), (some (78, true))⟩, ⟨(some 81), (.lenS (.t 80)), (some (78, true))⟩, ⟨(some 82), (.bin .lss (.t 79) (.t 81)), (some (78, true))⟩, ⟨(some 83), (.pick (.t 78) (.t 82) (.c (.bool false))), none⟩, ⟨(some 84), (.mv (.t 83)), none⟩, ⟨(some 85), (.mv (.c (.bool false))), (some (84, false))⟩, ⟨(some 86), (.mv (.t 10)), (some (85, true))⟩, ⟨(some 87), (.mv (.t 9)), (some (85, true))⟩, ⟨(some 88), (.bin .shr (.t 87) (.c (.int .u64 (4)))), (some (85, true))⟩, ⟨(some 89), (.bin .add (.c (.int .i64 (4))) (.t 88)), (some (85, true))⟩, ⟨(some 90), (.bin .geq (.t 86) (.t 89)), (some (85, true))⟩, ⟨(some 91), (.pick (.t 85) (.t 90) (.c (.bool false))), (some (84, false))⟩, ⟨(some 92), (.mv (.t 91)), (some (84, false))⟩, ⟨(some 93), (.mv (.t 9)), (some (92, true))⟩, ⟨(some 94), (.mv (.t 0)), (some (92, true))⟩, ⟨(some 95), (.lenS (.t 94)), (some (92, true))⟩, ⟨(some 96), (.bin .lss (.t 93) (.t 95)), (some (92, true))⟩, ⟨(some 97), (.pick (.t 92) (.t 96) (.c (.bool false))), (some (84, false))⟩, ⟨(some 98), (.pick (.t 84) (.c (.bool true)) (.t 97)), none⟩]) (.cond (.t 98) (.goto 1) .skip)))))))))) (.seq (.seq (.reg [⟨(some 4), (.mv (.c (.int .i64 (-1)))), none⟩]) .ret) (.seq (.label 1) (.seq (.cond (.c (.bool true)) (.seq (.reg [⟨(some 99), (.mv (.t 0)), none⟩, ⟨(some 100), (.mv (.t 9)), none⟩, ⟨(some 101), (.mv (.t 8)), none⟩, ⟨(some 102), (.bin .sub (.t 100) (.t 101)), none⟩, ⟨(some 103), (.slS (.t 99) (some (.t 102)) none), none⟩, ⟨(some 104), (.mv (.t 1)), none⟩, ⟨(some 105), (.r2s (.t 104)), none⟩, ⟨(some 106), (.call (.c (.fn 57 [] [])) [(.t 103), (.t 105)]), none⟩, ⟨(some 13), (.mv (.t 106)), none⟩]) (.seq (.reg [⟨(some 107), (.mv (.t 13)), none⟩, ⟨(some 108), (.bin .geq (.t 107) (.c (.int .i64 (0)))), none⟩]) (.cond (.t 108) (.seq (.reg [⟨(some 109), (.mv (.t 9)), none⟩, ⟨(some 110), (.mv (.t 13)), none⟩, ⟨(some 111), (.bin .add (.t 109) (.t 110)), none⟩, ⟨(some 112), (.mv (.t 8)), none⟩, ⟨(some 113), (.bin .sub (.t 111) (.t 112)), none⟩, ⟨(some 4), (.mv (.t 113)), none⟩]) .ret) .skip))) (.scope 2 (.seq (.reg [⟨(some 114), (.mv (.t 7)), none⟩, ⟨(some 115), (.mv (.t 8)), none⟩, ⟨(some 116), (.idxS (.t 114) (.t 115)), none⟩, ⟨(some 14), (.mv (.t 116)), none⟩]) (.seq (.reg [⟨(some 117), (.mv (.t 7)), none⟩, ⟨(some 118), (.mv (.t 8)), none⟩, ⟨(some 119), (.bin .sub (.t 118) (.c (.int .i64 (1)))), none⟩, ⟨(some 120), (.idxS (.t 117) (.t 119)), none⟩, ⟨(some 15), (.mv (.t 120)), none⟩]) (.seq (.label 2) (.block 5 (.loop (.seq (.seq (.reg [⟨(some 121), (.mv (.t 9)), none⟩, ⟨(some 122), (.mv (.t 0)), none⟩, ⟨(some 123), (.lenS (.t 122)), none⟩, ⟨(some 124), (.bin .lss (.t 121) (.t 123)), none⟩]) (.cond (.t 124) .skip (.exit 5))) (.seq (.block 6 (.seq (.reg [⟨(some 127), (.mv (.t 0)), none⟩, ⟨(some 128), (.mv (.t 9)), none⟩, ⟨(some 129), (.idxS (.t 127) (.t 128)), none⟩, ⟨(some 130), (.mv (.t 14)), none⟩, ⟨(some 131), (.bin .eql (.t 129) (.t 130)), none⟩, ⟨(some 132), (.mv (.t 131)), none⟩, ⟨(some 133), (.mv (.t 0)), (some (132, true))⟩, ⟨(some 134), (.mv (.t 9)), (some (132, true))⟩, ⟨(some 135), (.bin .sub (.t 134) (.c (.int .i64 (1)))), (some (132, true))⟩, ⟨(some 136), (.idxS (.t 133) (.t 135)), (some (132, true))⟩, ⟨(some 137), (.mv (.t 15)), (some (132, true))⟩, ⟨(some 138), (.bin .eql (.t 136) (.t 137)), (some (132, true))⟩, ⟨(some 139), (.pick (.t 132) (.t 138) (.c (.bool false))), none⟩]) (.cond (.t 139) (.seq (.seq (.reg [⟨(some 16), (.mv (.c (.int .i64 (2)))), none⟩]) (.block 7 (.loop (.seq (.seq (.reg [⟨(some 140), (.mv (.t 16)), none⟩, ⟨(some 141), (.mv (.t 7)), none⟩, ⟨(some 142), (.lenS (.t 141)), none⟩, ⟨(some 143), (.bin .lss (.t 140) (.t 142)), none⟩]) (.cond (.t 143) .skip (.exit 7))) (.seq (.block 8 (.seq (.dreg [(⟨(some 146), (.mv (.t 0)), none⟩, none), (⟨(some 147), (.mv (.t 9)), none⟩, none), (⟨(some 148), (.mv (.t 16)), none⟩, none), (⟨(some 149), (.bin .sub (.t 147) (.t 148)), none⟩, none), (⟨(some 150), (.idxS (.t 146) (.t 149)), none⟩, none), (⟨(some 151), (.mv (.t 7)), none⟩, none), (⟨(some 152), (.mv (.t 8)), none⟩, none), (⟨(some 153), (.mv (.t 16)), none⟩, none), (⟨(some 154), (.bin .sub (.t 152) (.t 153)), none⟩, none), (⟨(some 155), (.idxS (.t 151) (.t 154)), none⟩, none), (⟨(some 156), (.bin .neq (.t 150) (.t 155)), none⟩, none)]) (.cond (.t 156) (.exit 6) .skip))) (.reg [⟨(some 144), (.mv (.t 16)), none⟩, ⟨(some 145), (.bin .add (.t 144) (.c (.int .i64 (1)))), none⟩, ⟨(some 16), (.mv (.t 145)), none⟩])))))) (.seq (.reg [⟨(some 157), (.mv (.t 9)), none⟩, ⟨(some 158), (.mv (.t 8)), none⟩, ⟨(some 159), (.bin .sub (.t 157) (.t 158)), none⟩, ⟨(some 4), (.mv (.t 159)), none⟩]) .ret)) .skip))) (.reg [⟨(some 125), (.mv (.t 9)), none⟩, ⟨(some 126), (.bin .add (.t 125) (.c (.int .i64 (1)))), none⟩, ⟨(some 9), (.mv (.t 126)), none⟩])))))))) (.seq .skip (.block 5 (.loop (.seq (.seq (.reg [⟨(some 121), (.mv (.t 9)), none⟩, ⟨(some 122), (.mv (.t 0)), none⟩, ⟨(some 123), (.lenS (.t 122)), none⟩, ⟨(some 124), (.bin .lss (.t 121) (.t 123)), none⟩]) (.cond (.t 124) .skip (.exit 5))) (.seq (.block 6 (.seq (.reg [⟨(some 127), (.mv (.t 0)), none⟩, ⟨(some 128), (.mv (.t 9)), none⟩, ⟨(some 129), (.idxS (.t 127) (.t 128)), none⟩, ⟨(some 130), (.mv (.t 14)), none⟩, ⟨(some 131), (.bin .eql (.t 129) (.t 130)), none⟩, ⟨(some 132), (.mv (.t 131)), none⟩, ⟨(some 133), (.mv (.t 0)), (some (132, true))⟩, ⟨(some 134), (.mv (.t 9)), (some (132, true))⟩, ⟨(some 135), (.bin .sub (.t 134) (.c (.int .i64 (1)))), (some (132, true))⟩, ⟨(some 136), (.idxS (.t 133) (.t 135)), (some (132, true))⟩, ⟨(some 137), (.mv (.t 15)), (some (132, true))⟩, ⟨(some 138), (.bin .eql (.t 136) (.t 137)), (some (132, true))⟩, ⟨(some 139), (.pick (.t 132) (.t 138) (.c (.bool false))), none⟩]) (.cond (.t 139) (.seq (.seq (.reg [⟨(some 16), (.mv (.c (.int .i64 (2)))), none⟩]) (.block 7 (.loop (.seq (.seq (.reg [⟨(some 140), (.mv (.t 16)), none⟩, ⟨(some 141), (.mv (.t 7)), none⟩, ⟨(some 142), (.lenS (.t 141)), none⟩, ⟨(some 143), (.bin .lss (.t 140) (.t 142)), none⟩]) (.cond (.t 143) .skip (.exit 7))) (.seq (.block 8 (.seq (.dreg [(⟨(some 146), (.mv (.t 0)), none⟩, none), (⟨(some 147), (.mv (.t 9)), none⟩, none), (⟨(some 148), (.mv (.t 16)), none⟩, none), (⟨(some 149), (.bin .sub (.t 147) (.t 148)), none⟩, none), (⟨(some 150), (.idxS (.t 146) (.t 149)), none⟩, none), (⟨(some 151), (.mv (.t 7)), none⟩, none), (⟨(some 152), (.mv (.t 8)), none⟩, none), (⟨(some 153), (.mv (.t 16)), none⟩, none), (⟨(some 154), (.bin .sub (.t 152) (.t 153)), none⟩, none), (⟨(some 155), (.idxS (.t 151) (.t 154)), none⟩, none), (⟨(some 156), (.bin .neq (.t 150) (.t 155)), none⟩, none)]) (.cond (.t 156) (.exit 6) .skip))) (.reg [⟨(some 144), (.mv (.t 16)), none⟩, ⟨(some 145), (.bin .add (.t 144) (.c (.int .i64 (1)))), none⟩, ⟨(some 16), (.mv (.t 145)), none⟩])))))) (.seq (.reg [⟨(some 157), (.mv (.t 9)), none⟩, ⟨(some 158), (.mv (.t 8)), none⟩, ⟨(some 159), (.bin .sub (.t 157) (.t 158)), none⟩, ⟨(some 4), (.mv (.t 159)), none⟩]) .ret)) .skip))) (.reg [⟨(some 125), (.mv (.t 9)), none⟩, ⟨(some 126), (.bin .add (.t 125) (.c (.int .i64 (1)))), none⟩, ⟨(some 9), (.mv (.t 126)), none⟩])))))))) (.seq (.reg [⟨(some 4), (.mv (.c (.int .i64 (-1)))), none⟩]) .ret))))))))) (.seq .skip (.seq (.cond (.c (.bool true)) (.seq (.reg [⟨(some 99), (.mv (.t 0)), none⟩, ⟨(some 100), (.mv (.t 9)), none⟩, ⟨(some 101), (.mv (.t 8)), none⟩, ⟨(some 102), (.bin .sub (.t 100) (.t 101)), none⟩, ⟨(some 103), (.slS (.t 99) (some (.t 102)) none), none⟩, ⟨(some 104), (.mv (.t 1)), none⟩, ⟨(some 105), (.r2s (.t 104)), none⟩, ⟨(some 106), (.call (.c (.fn 57 [] [])) [(.t 103), (.t 105)]), none⟩, ⟨(some 13), (.mv (.t 106)), none⟩]) (.seq (.reg [⟨(some 107), (.mv (.t 13)), none⟩, ⟨(some 108), (.bin .geq (.t 107) (.c (.int .i64 (0)))), none⟩]) (.cond (.t 108) (.seq (.reg [⟨(some 109), (.mv (.t 9)), none⟩, ⟨(some 110), (.mv (.t 13)), none⟩, ⟨(some 111), (.bin .add (.t 109) (.t 110)), none⟩, ⟨(some 112), (.mv (.t 8)), none⟩, ⟨(some 113), (.bin .sub (.t 111) (.t 112)), none⟩, ⟨(some 4), (.mv (.t 113)), none⟩]) .ret) .skip))) (.scope 2 (.seq (.reg [⟨(some 114), (.mv (.t 7)), none⟩, ⟨(some 115), (.mv (.t 8)), none⟩, ⟨(some 116), (.idxS (.t 114) (.t 115)), none⟩, ⟨(some 14), (.mv (.t 116)), none⟩]) (.seq (.reg [⟨(some 117), (.mv (.t 7)), none⟩, ⟨(some 118), (.mv (.t 8)), none⟩, ⟨(some 119), (.bin .sub (.t 118) (.c (.int .i64 (1)))), none⟩, ⟨(some 120), (.idxS (.t 117) (.t 119)), none⟩, ⟨(some 15), (.mv (.t 120)), none⟩]) (.seq (.label 2) (.block 5 (.loop (.seq (.seq (.reg [⟨(some 121), (.mv (.t 9)), none⟩, ⟨(some 122), (.mv (.t 0)), none⟩, ⟨(some 123), (.lenS (.t 122)), none⟩, ⟨(some 124), (.bin .lss (.t 121) (.t 123)), none⟩]) (.cond (.t 124) .skip (.exit 5))) (.seq (.block 6 (.seq (.reg [⟨(some 127), (.mv (.t 0)), none⟩, ⟨(some 128), (.mv (.t 9)), none⟩, ⟨(some 129), (.idxS (.t 127) (.t 128)), none⟩, ⟨(some 130), (.mv (.t 14)), none⟩, ⟨(some 131), (.bin .eql (.t 129) (.t 130)), none⟩, ⟨(some 132), (.mv (.t 131)), none⟩, ⟨(some 133), (.mv (.t 0)), (some (132, true))⟩, ⟨(some 134), (.mv (.t 9)), (some (132, true))⟩, ⟨(some 135), (.bin .sub (.t 134) (.c (.int .i64 (1)))), (some (132, true))⟩, ⟨(some 136), (.idxS (.t 133) (.t 135)), (some (132, true))⟩, ⟨(some 137), (.mv (.t 15)), (some (132, true))⟩, ⟨(some 138), (.bin .eql (.t 136) (.t 137)), (some (132, true))⟩, ⟨(some 139), (.pick (.t 132) (.t 138) (.c (.bool false))), none⟩]) (.cond (.t 139) (.seq (.seq (.reg [⟨(some 16), (.mv (.c (.int .i64 (2)))), none⟩]) (.block 7 (.loop (.seq (.seq (.reg [⟨(some 140), (.mv (.t 16)), none⟩, ⟨(some 141), (.mv (.t 7)), none⟩, ⟨(some 142), (.lenS (.t 141)), none⟩, ⟨(some 143), (.bin .lss (.t 140) (.t 142)), none⟩]) (.cond (.t 143) .skip (.exit 7))) (.seq (.block 8 (.seq (.dreg [(⟨(some 146), (.mv (.t 0)), none⟩, none), (⟨(some 147), (.mv (.t 9)), none⟩, none), (⟨(some 148), (.mv (.t 16)), none⟩, none), (⟨(some 149), (.bin .sub (.t 147) (.t 148)), none⟩, none), (⟨(some 150), (.idxS (.t 146) (.t 149)), none⟩, none), (⟨(some 151), (.mv (.t 7)), none⟩, none), (⟨(some 152), (.mv (.t 8)), none⟩, none), (⟨(some 153), (.mv (.t 16)), none⟩, none), (⟨(some 154), (.bin .sub (.t 152) (.t 153)), none⟩, none), (⟨(some 155), (.idxS (.t 151) (.t 154)), none⟩, none), (⟨(some 156), (.bin .neq (.t 150) (.t 155)), none⟩, none)]) (.cond (.t 156) (.exit 6) .skip))) (.reg [⟨(some 144), (.mv (.t 16)), none⟩, ⟨(some 145), (.bin .add (.t 144) (.c (.int .i64 (1)))), none⟩, ⟨(some 16), (.mv (.t 145)), none⟩])))))) (.seq (.reg [⟨(some 157), (.mv (.t 9)), none⟩, ⟨(some 158), (.mv (.t 8)), none⟩, ⟨(some 159), (.bin .sub (.t 157) (.t 158)), none⟩, ⟨(some 4), (.mv (.t 159)), none⟩]) .ret)) .skip))) (.reg [⟨(some 125), (.mv (.t 9)), none⟩, ⟨(some 126), (.bin .add (.t 125) (.c (.int .i64 (1)))), none⟩, ⟨(some 9), (.mv (.t 126)), none⟩])))))))) (.seq .skip (.block 5 (.loop (.seq (.seq (.reg [⟨(some 121), (.mv (.t 9)), none⟩, ⟨(some 122), (.mv (.t 0)), none⟩, ⟨(some 123), (.lenS (.t 122)), none⟩, ⟨(some 124), (.bin .lss (.t 121) (.t 123)), none⟩]) (.cond (.t 124) .skip (.exit 5))) (.seq (.block 6 (.seq (.reg [⟨(some 127), (.mv (.t 0)), none⟩, ⟨(some 128), (.mv (.t 9)), none⟩, ⟨(some 129), (.idxS (.t 127) (.t 128)), none⟩, ⟨(some 130), (.mv (.t 14)), none⟩, ⟨(some 131), (.bin .eql (.t 129) (.t 130)), none⟩, ⟨(some 132), (.mv (.t 131)), none⟩, ⟨(some 133), (.mv (.t 0)), (some (132, true))⟩, ⟨(some 134), (.mv (.t 9)), (some (132, true))⟩, ⟨(some 135), (.bin .sub (.t 134) (.c (.int .i64 (1)))), (some (132, true))⟩, ⟨(some 136), (.idxS (.t 133) (.t 135)), (some (132, true))⟩, ⟨(some 137), (.mv (.t 15)), (some (132, true))⟩, ⟨(some 138), (.bin .eql (.t 136) (.t 137)), (some (132, true))⟩, ⟨(some 139), (.pick (.t 132) (.t 138) (.c (.bool false))), none⟩]) (.cond (.t 139) (.seq (.seq (.reg [⟨(some 16), (.mv (.c (.int .i64 (2)))), none⟩]) (.block 7 (.loop (.seq (.seq (.reg [⟨(some 140), (.mv (.t 16)), none⟩, ⟨(some 141), (.mv (.t 7)), none⟩, ⟨(some 142), (.lenS (.t 141)), none⟩, ⟨(some 143), (.bin .lss (.t 140) (.t 142)), none⟩]) (.cond (.t 143) .skip (.exit 7))) (.seq (.block 8 (.seq (.dreg [(⟨(some 146), (.mv (.t 0)), none⟩, none), (⟨(some 147), (.mv (.t 9)), none⟩, none), (⟨(some 148), (.mv (.t 16)), none⟩, none), (⟨(some 149), (.bin .sub (.t 147) (.t 148)), none⟩, none), (⟨(some 150), (.idxS (.t 146) (.t 149)), none⟩, none), (⟨(some 151), (.mv (.t 7)), none⟩, none), (⟨(some 152), (.mv (.t 8)), none⟩, none), (⟨(some 153), (.mv (.t 16)), none⟩, none), (⟨(some 154), (.bin .sub (.t 152) (.t 153)), none⟩, none), (⟨(some 155), (.idxS (.t 151) (.t 154)), none⟩, none), (⟨(some 156), (.bin .neq (.t 150) (.t 155)), none⟩, none)]) (.cond (.t 156) (.exit 6) .skip))) (.reg [⟨(some 144), (.mv (.t 16)), none⟩, ⟨(some 145), (.bin .add (.t 144) (.c (.int .i64 (1)))), none⟩, ⟨(some 16), (.mv (.t 145)), none⟩])))))) (.seq (.reg [⟨(some 157), (.mv (.t 9)), none⟩, ⟨(some 158), (.mv (.t 8)), none⟩, ⟨(some 159), (.bin .sub (.t 157) (.t 158)), none⟩, ⟨(some 4), (.mv (.t 159)), none⟩]) .ret)) .skip))) (.reg [⟨(some 125), (.mv (.t 9)), none⟩, ⟨(some 126), (.bin .add (.t 125) (.c (.int .i64 (1)))), none⟩, ⟨(some 9), (.mv (.t 126)), none⟩])))))))) (.seq (.reg [⟨(some 4), (.mv (.c (.int .i64 (-1)))), none⟩]) .ret)))))))))))), [(.tmp 4)]⟩
theorem hc41 : toSF Tryd.prog {pure := [54, 55], mp := [175]} Tryd.f41 = some c41 := by kernel_rfl
theorem hn41 : (Tryd.f41.name == "runtime.NumGoroutine") = false := by kernel_rfl
set_option maxHeartbeats 1000000 in
theorem indexRune_ok (l : List UInt8) (c : Nat) (hc : c < 2147483648) (hl : l.length ≤ 1000) (ha : ∀ b ∈ l, b.toNat < 128) : PCalls (Pg G) 41 [.str l, .int .i32 c] (aInt (ixR l c)) := fun h => by
  have hbt : ∀ i, i < l.length → bt l i < 128 := fun i hi => by
    unfold bt; rw [List.getD_eq_getElem?_getD, List.getElem?_eq_getElem hi]
    have := ha _ (List.getElem_mem hi)
    simp only [Option.getD_some]
    omega
  unfold ixR
  by_cases h1 : c < 128
  · rw [if_pos h1]
    have cB := indexByte_ok (G := G) l (UInt8.ofNat c)
    have e1 : ((UInt8.ofNat c).toNat : Int) = c := by
      have : (UInt8.ofNat c).toNat = c := by simp; omega
      rw [this]
    rw [e1] at cB
    have e2 : IntKind.u8.wrap (c : Int) = c := by simp only [IntKind.wrap_u8]; omega
    refine dcalls_of_vc Tryd.func41 hn41 hc41 (by rw [Tryd.ntmps41]; simp) (by rw [Tryd.ntmps41]; decide) ?_
    simp -dsimp -implicitDefEqProofs (disch := omega) only [↓vcOps_sp 163, VCA, Nat.reduceEqDiff, ↓reduceIte, c41]
    repeat' (first | ((with_reducible refine Br.dec (fun _ => ?_) (fun _ => ?_)) <;> try (exfalso; omega)) | ((with_reducible refine Br.eq (fun _ => ?_) (fun _ => ?_)) <;> try (exfalso; omega)) | ((with_reducible refine Br.ne (fun _ => ?_) (fun _ => ?_)) <;> try (exfalso; omega)) | ((with_reducible refine brNdec (fun _ => ?_) (fun _ => ?_)) <;> try (exfalso; omega)) | ((with_reducible refine brNeq (fun _ => ?_) (fun _ => ?_)) <;> try (exfalso; omega)) | with_reducible refine Br.intro (fun _ => ?_) (fun _ => ?_) | (with_reducible apply pcallE.of; · exact cB) | (with_reducible refine And.intro ?_ ?_; · omega) | simp -dsimp -implicitDefEqProofs (disch := omega) only [VCA, Nat.reduceEqDiff, ↓reduceIte, reduceCtorEq, exists_eq_right, e2])
    all_goals first | exact ⟨Sub.refl _, rfl⟩ | exact Sub.refl _ | (exfalso; omega) | trace_state
  · rw [if_neg h1]
    by_cases h2 : c = 65533
    · subst h2
      refine dcalls_of_vc Tryd.func41 hn41 hc41 (by rw [Tryd.ntmps41]; simp) (by rw [Tryd.ntmps41]; decide) ?_
      simp -dsimp -implicitDefEqProofs (disch := omega) only [↓vcOps_sp 163, VCA, Nat.reduceEqDiff, ↓reduceIte, c41]
      have o1 : (((65533 : Nat) : Int)) = 65533 := rfl
      repeat' (first | ((with_reducible refine Br.dec (fun _ => ?_) (fun _ => ?_)) <;> try (exfalso; omega)) | ((with_reducible refine Br.eq (fun _ => ?_) (fun _ => ?_)) <;> try (exfalso; omega)) | ((with_reducible refine Br.ne (fun _ => ?_) (fun _ => ?_)) <;> try (exfalso; omega)) | ((with_reducible refine brNdec (fun _ => ?_) (fun _ => ?_)) <;> try (exfalso; omega)) | ((with_reducible refine brNeq (fun _ => ?_) (fun _ => ?_)) <;> try (exfalso; omega)) | with_reducible refine Br.intro (fun _ => ?_) (fun _ => ?_) | (with_reducible refine And.intro ?_ ?_; · omega) | simp -dsimp -implicitDefEqProofs (disch := omega) only [VCA, Nat.reduceEqDiff, ↓reduceIte, reduceCtorEq, o1])
      intro r hr
      refine LoopVC.intro (fun m e h' => ∃ p : Nat, p ≤ l.length ∧ m = l.length - p ∧ e 175 = .ptr r 0 0 ∧ h' = upd h r (some (itO l p))) l.length
        (by
          exact ⟨0, by omega, by omega, rfl, rfl⟩) ?_
      rintro m e h' ⟨p, hp, rfl, e175, rfl⟩
      have hit : upd h r (some (itO l p)) r = some (itO l p) := upd_same _ _ _
      repeat' (first | ((with_reducible refine Br.dec (fun _ => ?_) (fun _ => ?_)) <;> try (exfalso; omega)) | ((with_reducible refine Br.eq (fun _ => ?_) (fun _ => ?_)) <;> try (exfalso; omega)) | ((with_reducible refine Br.ne (fun _ => ?_) (fun _ => ?_)) <;> try (exfalso; omega)) | ((with_reducible refine brNdec (fun _ => ?_) (fun _ => ?_)) <;> try (exfalso; omega)) | ((with_reducible refine brNeq (fun _ => ?_) (fun _ => ?_)) <;> try (exfalso; omega)) | with_reducible refine Br.intro (fun _ => ?_) (fun _ => ?_) | (with_reducible refine And.intro ?_ ?_; · omega) | simp -dsimp -implicitDefEqProofs (disch := omega) only [VCA, Nat.reduceEqDiff, Nat.reduceAdd, Nat.reduceLT, ↓reduceIte, exists_eq_right, e175])
      refine ⟨_, _, rfl, fun hlt => ?_, fun hge => ?_⟩
      · have hq := runeAt_is l p hlt
        have hb := hbt p hlt
        have hq1 := hq.1 hb
        have hq0 : (runeAt l p).1 = (bt l p).toNat := by rw [hq1]
        have h0 : 0 ≤ bt l p := by unfold bt; omega
        have n1 : ((((bt l p).toNat : Nat) : Int) == 65533) = false := by rw [beq_eq_false_iff_ne]; omega
        repeat' (first | ((with_reducible refine Br.dec (fun _ => ?_) (fun _ => ?_)) <;> try (exfalso; omega)) | ((with_reducible refine Br.eq (fun _ => ?_) (fun _ => ?_)) <;> try (exfalso; omega)) | ((with_reducible refine Br.ne (fun _ => ?_) (fun _ => ?_)) <;> try (exfalso; omega)) | ((with_reducible refine brNdec (fun _ => ?_) (fun _ => ?_)) <;> try (exfalso; omega)) | ((with_reducible refine brNeq (fun _ => ?_) (fun _ => ?_)) <;> try (exfalso; omega)) | with_reducible refine Br.intro (fun _ => ?_) (fun _ => ?_) | (with_reducible refine And.intro ?_ ?_; · omega) | simp -dsimp -implicitDefEqProofs (disch := omega) only [VCA, Nat.reduceEqDiff, ↓reduceIte, e175, hq1, n1])
        all_goals first | exact ⟨_, by omega, p + 1, by omega, rfl, rfl⟩ | (exfalso; omega) | trace_state
      · repeat' (first | ((with_reducible refine Br.dec (fun _ => ?_) (fun _ => ?_)) <;> try (exfalso; omega)) | ((with_reducible refine Br.eq (fun _ => ?_) (fun _ => ?_)) <;> try (exfalso; omega)) | ((with_reducible refine Br.ne (fun _ => ?_) (fun _ => ?_)) <;> try (exfalso; omega)) | ((with_reducible refine brNdec (fun _ => ?_) (fun _ => ?_)) <;> try (exfalso; omega)) | ((with_reducible refine brNeq (fun _ => ?_) (fun _ => ?_)) <;> try (exfalso; omega)) | with_reducible refine Br.intro (fun _ => ?_) (fun _ => ?_) | (with_reducible refine And.intro ?_ ?_; · omega) | simp -dsimp -implicitDefEqProofs (disch := omega) only [↓vcOps_sp 72, ↓vcD_sp 72, ↓vcOps_sp 78, ↓vcD_sp 78, ↓vcOps_sp 84, ↓vcD_sp 84, ↓vcOps_sp 85, ↓vcD_sp 85, ↓vcOps_sp 92, ↓vcD_sp 92, ↓vcOps_sp 132, ↓vcD_sp 132, ↓vcOps_sp 163, ↓vcD_sp 163, VCA, pg_gl, ↓upd_none, Nat.reduceEqDiff, Nat.reduceBEq, Nat.reduceAdd, Nat.reduceSub, Nat.reduceMul, Nat.reduceLT, Nat.reduceLeDiff, ↓reduceIte, reduceCtorEq, rsOf, rootsOf, SOp.rd, SI.rd, SX.rd, rdL, rdO, rdP, okParts, eqCells, okEqCells, fillA, okFill, setAt, implies_true, forall_const, forall_eq, ne_eq, exists_eq_right_right, exists_eq_right, exists_eq_left, exists_eq_left', rootL, lit_eq, e175])
        exact (Sub.refl _).upd hr
    · have cV := validRune_ok (G := G) (c : Int)
      rw [valid_eq] at cV
      cases hv : Utf8.valid (c : Int) with
      | false =>
        rw [hv] at cV
        refine dcalls_of_vc Tryd.func41 hn41 hc41 (by rw [Tryd.ntmps41]; simp) (by rw [Tryd.ntmps41]; decide) ?_
        simp -dsimp -implicitDefEqProofs (disch := omega) only [↓vcOps_sp 163, VCA, Nat.reduceEqDiff, ↓reduceIte, c41]
        repeat' (first | ((with_reducible refine Br.dec (fun _ => ?_) (fun _ => ?_)) <;> try (exfalso; omega)) | ((with_reducible refine Br.eq (fun _ => ?_) (fun _ => ?_)) <;> try (exfalso; omega)) | ((with_reducible refine Br.ne (fun _ => ?_) (fun _ => ?_)) <;> try (exfalso; omega)) | ((with_reducible refine brNdec (fun _ => ?_) (fun _ => ?_)) <;> try (exfalso; omega)) | ((with_reducible refine brNeq (fun _ => ?_) (fun _ => ?_)) <;> try (exfalso; omega)) | with_reducible refine Br.intro (fun _ => ?_) (fun _ => ?_) | (with_reducible apply pcallE.of; · exact cV) | (with_reducible refine And.intro ?_ ?_; · omega) | simp -dsimp -implicitDefEqProofs (disch := omega) only [VCA, Nat.reduceEqDiff, ↓reduceIte, exists_eq_right])
        all_goals first | exact ⟨Sub.refl _, rfl⟩ | exact Sub.refl _ | (exfalso; omega) | trace_state
      | true =>
        rw [hv] at cV
        obtain ⟨n1, n4, n2⟩ := enc_is c (by omega) hv
        obtain ⟨E, hE⟩ : ∃ E, (Utf8.encode (c : Int)).data.toList = E := ⟨_, rfl⟩
        rw [hE] at n1 n4 n2
        obtain ⟨z, hz⟩ : ∃ z, E.getD (E.length - 1) 0 = z := ⟨_, rfl⟩
        have hz128 : 128 ≤ z.toNat := n2 z (by rw [← hz, List.getD_eq_getElem?_getD, List.getElem?_eq_getElem (by omega)]; exact List.getElem_mem _)
        have el : ((E.length : Int) - 1).toNat = E.length - 1 := by omega
        have t0 : 0 ≤ (E.length : Int) - 1 := by omega
        have ec : ((E.length : Int) - 1) = ((E.length - 1 : Nat) : Int) := by omega
        obtain ⟨d, hd⟩ : ∃ d, E.length - 1 = d := ⟨_, rfl⟩
        rw [hd] at hz ec
        have cB := indexByte_ok (G := G) (l.drop (d + 1)) z
        rw [idxB_none (fun hm => by have := ha z (List.mem_of_mem_drop hm); omega)] at cB
        refine dcalls_of_vc Tryd.func41 hn41 hc41 (by rw [Tryd.ntmps41]; simp) (by rw [Tryd.ntmps41]; decide) ?_
        simp -dsimp -implicitDefEqProofs (disch := omega) only [↓vcOps_sp 163, VCA, Nat.reduceEqDiff, ↓reduceIte, c41]
        have wd : IntKind.i64.wrap (d : Int) = d := by simp only [IntKind.wrap_i64]; omega
        repeat' (first | ((with_reducible refine Br.dec (fun _ => ?_) (fun _ => ?_)) <;> try (exfalso; omega)) | ((with_reducible refine Br.eq (fun _ => ?_) (fun _ => ?_)) <;> try (exfalso; omega)) | ((with_reducible refine Br.ne (fun _ => ?_) (fun _ => ?_)) <;> try (exfalso; omega)) | ((with_reducible refine brNdec (fun _ => ?_) (fun _ => ?_)) <;> try (exfalso; omega)) | ((with_reducible refine brNeq (fun _ => ?_) (fun _ => ?_)) <;> try (exfalso; omega)) | with_reducible refine Br.intro (fun _ => ?_) (fun _ => ?_) | (with_reducible apply pcallE.of; · exact cV) | (with_reducible refine And.intro ?_ ?_; · omega) | simp -dsimp -implicitDefEqProofs (disch := omega) only [VCA, Nat.reduceEqDiff, ↓reduceIte, hE, ec, wd])
        refine LoopVC.intro (fun m e h' => m = 1 ∧ e 0 = .str l ∧ e 7 = .str E ∧ e 8 = aInt d ∧ e 9 = aInt d ∧ h' = h) 1 (by refine ⟨rfl, ?_, ?_, ?_, ?_, rfl⟩ <;> first | rfl | trace_state) ?_
        rintro m e h' ⟨rfl, e0, e7, e8, e9, hh⟩
        by_cases hlt : d < l.length
        · obtain ⟨y, hy⟩ : ∃ y, l.getD d 0 = y := ⟨_, rfl⟩
          have y128 : y.toNat < 128 := ha y (by rw [← hy, List.getD_eq_getElem?_getD, List.getElem?_eq_getElem hlt]; exact List.getElem_mem _)
          have nyz : ((y.toNat : Int) != (z.toNat : Int)) = true := by rw [bne_iff_ne]; omega
          repeat' (first | ((with_reducible refine Br.dec (fun _ => ?_) (fun _ => ?_)) <;> try (exfalso; omega)) | ((with_reducible refine Br.eq (fun _ => ?_) (fun _ => ?_)) <;> try (exfalso; omega)) | ((with_reducible refine Br.ne (fun _ => ?_) (fun _ => ?_)) <;> try (exfalso; omega)) | ((with_reducible refine brNdec (fun _ => ?_) (fun _ => ?_)) <;> try (exfalso; omega)) | ((with_reducible refine brNeq (fun _ => ?_) (fun _ => ?_)) <;> try (exfalso; omega)) | with_reducible refine Br.intro (fun _ => ?_) (fun _ => ?_) | (with_reducible apply pcallE.of; · exact cB) | (with_reducible refine And.intro ?_ ?_; · omega) | simp -dsimp -implicitDefEqProofs (disch := omega) only [VCA, Nat.reduceEqDiff, ↓reduceIte, reduceCtorEq, rsOf, rootsOf, exists_eq_right, rootL, e0, e7, e8, e9, hy, hz, nyz])
          all_goals first | exact ⟨by rw [hh]; exact Sub.refl _, rfl⟩ | (rw [hh]; exact Sub.refl _) | (exfalso; omega) | trace_state
        · repeat' (first | ((with_reducible refine Br.dec (fun _ => ?_) (fun _ => ?_)) <;> try (exfalso; omega)) | ((with_reducible refine Br.eq (fun _ => ?_) (fun _ => ?_)) <;> try (exfalso; omega)) | ((with_reducible refine Br.ne (fun _ => ?_) (fun _ => ?_)) <;> try (exfalso; omega)) | ((with_reducible refine brNdec (fun _ => ?_) (fun _ => ?_)) <;> try (exfalso; omega)) | ((with_reducible refine brNeq (fun _ => ?_) (fun _ => ?_)) <;> try (exfalso; omega)) | with_reducible refine Br.intro (fun _ => ?_) (fun _ => ?_) | (with_reducible refine And.intro ?_ ?_; · omega) | simp -dsimp -implicitDefEqProofs (disch := omega) only [VCA, Nat.reduceEqDiff, ↓reduceIte, reduceCtorEq, exists_eq_right, e0, e9])
          all_goals first | exact ⟨by rw [hh]; exact Sub.refl _, rfl⟩ | (rw [hh]; exact Sub.refl _) | (exfalso; omega) | trace_state
/-! ## the reference's isBlank -/
/-! ## parts of code -/
def cB : SCode → SCode
  | .block _ c => c
  | .loop c => c
  | c => c
end Go.Proofs.K
end
section
/- Library functions on strings: contracts, from the shelf's. -/
set_option linter.unusedSimpArgs false
set_option linter.unusedVariables false
namespace Go.Proofs.K
open Go Go.Sim Go.Proofs
variable {G : Glob}

def eStr (s : List UInt8) : List AVal := [.str s]
instance : LenE eStr 1 := ⟨fun _ => rfl⟩
/-! ## what 'contains' says -/
/-! ## words of a text, with one blank between two -/
end Go.Proofs.K
end
section
/- Documents: the reference's DocErr; what two documents have in common. -/
set_option linter.unusedSimpArgs false
set_option linter.unusedVariables false
namespace Go.Proofs.K
open Go Go.Sim Go.Proofs
variable {G : Glob}

/-! ## sameness -/
def c5 : SFun := ⟨(.seq (.reg [⟨(some 2), (.box 24 2 (.t 0)), none⟩, ⟨(some 4), (.new 24 2 [.emp, (.bool false)]), none⟩]) (.seq (.reg [⟨(some 5), (.fldA 0 (.t 2)), none⟩, ⟨(some 6), (.ld 1 false (.t 5)), none⟩, ⟨(some 7), (.fldA 0 (.t 2)), none⟩, ⟨(some 8), (.ld 1 false (.t 7)), none⟩, ⟨(some 9), (.len (.t 8)), none⟩, ⟨(some 10), (.mv (.t 1)), none⟩, ⟨(some 11), (.min2 (.t 9) (.t 10)), none⟩, ⟨(some 12), (.slA 6 (.t 6) none (some (.t 11))), none⟩, ⟨(some 13), (.fldA 0 (.t 2)), none⟩, ⟨none, (.st 1 (.t 13) (.t 12)), none⟩]) (.seq (.reg [⟨(some 14), (.ld 2 true (.t 2)), none⟩, ⟨none, (.st 2 (.t 4) (.t 14)), none⟩]) .ret))), [(.cell 4 2 true)]⟩
/-! ## above and below -/
end Go.Proofs.K
end
section
/- Edits of documents: what becomes of a document; whether it is still right. Plain law. -/
set_option linter.unusedSimpArgs false
set_option linter.unusedVariables false
namespace Go.Proofs.K
open Go Go.Sim Go.Proofs
/-! ## a node set -/
def setN (d : HDoc) (n : Int) (x : HNode) : HDoc := ⟨d.nodes.set n.toNat x, d.quirks⟩
section
variable {d : HDoc}
/-! ## how deep, by parents alone -/
theorem upF_congr {d' : HDoc} (V : DV d) (h : ∀ m, inD d m → (nd d' m).parent = (nd d m).parent) : ∀ (f : Nat) (n : Int), inD d n → upF f d' n = upF f d n
  | 0, _, _ => rfl
  | f + 1, n, hn => by
    unfold upF
    rw [h n hn]
    by_cases hp : 0 ≤ (nd d n).parent
    · rw [if_pos hp, if_pos hp, upF_congr V h f _ (V.par_in hn hp).1]
    · rw [if_neg hp, if_neg hp]
/-! ## a node more -/
def addN (d : HDoc) (x : HNode) : HDoc := ⟨d.nodes ++ [x], d.quirks⟩
theorem addN_len (x : HNode) : (addN d x).nodes.length = d.nodes.length + 1 := by simp [addN]
theorem nd_addN {x : HNode} {m : Int} (hm : inD d m) : nd (addN d x) m = nd d m := by
  have h := hm.nat
  unfold nd addN nth
  rw [List.getD_eq_getElem?_getD, List.getD_eq_getElem?_getD, List.getElem?_append_left h.1]
theorem nd_addN_new (x : HNode) : nd (addN d x) (d.nodes.length : Int) = x := by
  unfold nd addN nth
  rw [List.getD_eq_getElem?_getD]; simp
theorem inD_addN {x : HNode} {m : Int} : inD (addN d x) m ↔ inD d m ∨ m = d.nodes.length := by unfold inD; rw [addN_len]; omega
theorem up_addN (V : DV d) {x : HNode} {m : Int} (hm : inD d m) : up (addN d x) m = up d m := by
  have h1 : upF (d.nodes.length + 1 + 1) (addN d x) m = upF (d.nodes.length + 1 + 1) d m := upF_congr V (fun k hk => by rw [nd_addN hk]) _ m hm
  have h2 : up (addN d x) m = upF (d.nodes.length + 1 + 1) (addN d x) m := by unfold up; rw [addN_len]
  rw [h2, h1]
  have h3 := V.fin m hm
  exact upF_mono (f := d.nodes.length + 1) (by unfold up at h3; omega) (by omega)
theorem DV.add (V : DV d) {x : HNode} (hp : x.parent = -1) (hc : x.kids = []) (h1 : x.kind ≠ 1) : DV (addN d x) ↔ nodeE x = 0 ∧ d.nodes.length < 200 := by
  have new := nd_addN_new (d := d) x
  have inew : inD (addN d x) (d.nodes.length : Int) := inD_addN.2 (.inr rfl)
  constructor
  · intro W
    have h2 := W.node _ inew
    have h3 := W.len
    rw [new] at h2
    rw [addN_len] at h3
    exact ⟨h2, by omega⟩
  · rintro ⟨hx, hl⟩
    have z := V.pos
    have upn : up (addN d x) (d.nodes.length : Int) = 0 := by
      unfold up upF
      rw [new, if_neg (by omega)]
    refine ⟨by rw [addN_len]; omega, by rw [addN_len]; omega, fun m hm => ?_, fun m hm => ?_, fun m hm k hk' => ?_, fun m hm => ?_, fun k hk' => ?_, fun m hm => ?_, ?_, fun m hm => ?_, fun m hm => ?_⟩
    · rcases inD_addN.1 hm with hm | rfl
      · rw [nd_addN hm]; exact V.kind m hm
      · rw [new]; constructor
        · intro h; exact absurd h h1
        · intro h; omega
    · rcases inD_addN.1 hm with hm | rfl
      · rw [nd_addN hm]; exact V.node m hm
      · rw [new]; exact hx
    · rcases inD_addN.1 hm with hm | rfl
      · rw [nd_addN hm] at hk'
        obtain ⟨g1, g2⟩ := V.kid m hm k hk'
        exact ⟨inD_addN.2 (.inl g1), by rw [nd_addN g1]; exact g2⟩
      · rw [new, hc] at hk'; cases hk'
    · rcases inD_addN.1 hm with hm | rfl
      · rw [nd_addN hm]; exact V.nodup m hm
      · rw [new, hc]; exact .nil
    · rw [nd_addN V.zero] at hk'
      rw [nd_addN (V.kid 0 V.zero k hk').1]; exact V.top k hk'
    · rcases inD_addN.1 hm with hm | rfl
      · rw [nd_addN hm]
        rcases V.par m hm with h | ⟨g1, g2⟩
        · exact .inl h
        · exact .inr ⟨inD_addN.2 (.inl g1), by rw [nd_addN g1]; exact g2⟩
      · rw [new]; exact .inl hp
    · rw [nd_addN V.zero]; exact V.root
    · rcases inD_addN.1 hm with hm | rfl
      · rw [up_addN V hm, addN_len]; have := V.fin m hm; omega
      · rw [upn]; omega
    · rcases inD_addN.1 hm with hm | rfl
      · rw [up_addN V hm]; exact V.deep m hm
      · rw [upn]; omega
/-! ## a node hung up -/
section
variable {a t : Int} {i : Nat}
end
/-! ## a node taken away -/
section
variable {n : Int} {i : Nat}
end
end
end Go.Proofs.K
end
section
/- Edits of documents: what they do, and what is wrong with them: plain law. -/
set_option linter.unusedSimpArgs false
set_option linter.unusedVariables false
namespace Go.Proofs.K
open Go Go.Sim Go.Proofs
structure HEdit where
  do' : Int
  at' : Int
  into : Int
  before : Int
  name : List UInt8
  value : List UInt8
  node : HNode
deriving DecidableEq, Inhabited
def eEdit (e : HEdit) : List AVal := [aInt e.do', aInt e.at', aInt e.into, aInt e.before, .str e.name, .str e.value, aInt e.node.kind, .str e.node.name, sl eAttr e.node.attrs, .str e.node.text, aInt e.node.parent, sl eInt e.node.kids]
instance : LenE eEdit 12 := ⟨fun _ => rfl⟩
structure EditSm (e : HEdit) : Prop where
  name : e.name.length ≤ 1073741824
  value : e.value.length ≤ 1073741824
  node : NodeSm e.node
/-! ## attributes -/
theorem attrAt_mem (l : List HAttr) (name : List UInt8) : 0 ≤ attrAt l name ↔ name ∈ l.map (·.name) := by
  have := idxM_any (fun a : HAttr => a.name == name) l
  unfold attrAt
  rw [← decide_eq_true_iff (p := 0 ≤ idxM (fun a : HAttr => a.name == name) l), this, List.any_eq_true, List.mem_map]
  constructor
  · rintro ⟨a, h1, h2⟩; exact ⟨a, h1, by simpa using h2⟩
  · rintro ⟨a, h1, h2⟩; exact ⟨a, h1, by simpa using h2⟩
theorem attrsE_iff (l : List HAttr) : attrsE l = 0 ↔ l.length ≤ 12 ∧ (∀ a ∈ l, nameOK false a.name = true ∧ a.value.length ≤ 400) ∧ (l.map (·.name)).Nodup := by
  have key : ∀ i, i < l.length → (attrE l i = 0 ↔ nameOK false (nth l i).name = true ∧ (nth l i).value.length ≤ 400 ∧ nth (l.map (·.name)) i ∉ (l.map (·.name)).take i) := fun i hi => by
    have hn : nth (l.map (·.name)) i = (nth l i).name := by
      unfold nth; rw [List.getD_eq_getElem?_getD, List.getD_eq_getElem?_getD, List.getElem?_map, List.getElem?_eq_getElem hi]; rfl
    have hm := attrAt_mem (l.take i) (nth l i).name
    rw [List.map_take] at hm
    rw [hn, ← hm]
    unfold attrE
    constructor
    · intro h
      split at h
      · omega
      · rename_i h1
        split at h
        · omega
        · rename_i h2
          split at h
          · omega
          · rename_i h3
            exact ⟨by simpa using h1, by omega, h3⟩
    · rintro ⟨h1, h2, h3⟩
      rw [if_neg (by simp [h1]), if_neg (by omega), if_neg h3]
  unfold attrsE
  constructor
  · intro h
    split at h
    · omega
    · rename_i hl
      have h := fe_zero h
      refine ⟨by omega, fun a ha => ?_, nodup_of_take fun k hk => ?_⟩
      · obtain ⟨k, hk, rfl⟩ := mem_nth ha
        have := (key k hk).1 (h k hk)
        exact ⟨this.1, this.2.1⟩
      · rw [List.length_map] at hk
        exact ((key k hk).1 (h k hk)).2.2
  · rintro ⟨h1, h2, h3⟩
    rw [if_neg (by omega)]
    refine fe_none fun k hk => (key k hk).2 ⟨(h2 _ (nth_mem' hk)).1, (h2 _ (nth_mem' hk)).2, take_of_nodup h3 (by rw [List.length_map]; exact hk)⟩
theorem nodeE_iff (x : HNode) : nodeE x = 0 ↔ (1 ≤ x.kind ∧ x.kind ≤ 5) ∧ bareM x = true ∧ (x.kind = 2 → nameOK true x.name = true) ∧ attrsE x.attrs = 0 ∧ x.text.length ≤ 400 ∧ x.name.length ≤ 400 := by
  unfold nodeE
  constructor
  · intro h
    split at h
    · omega
    · rename_i h1
      simp only [not_or] at h1
      split at h
      · omega
      · rename_i h2
        split at h
        · rename_i h3; exact absurd h h3
        · rename_i h3
          split at h
          · omega
          · rename_i h4
            refine ⟨by omega, by simpa using h1.2.2, fun h5 => ?_, by simpa using h3, by omega, by omega⟩
            cases hn : nameOK true x.name with
            | true => rfl
            | false => exact absurd ⟨h5, hn⟩ h2
  · rintro ⟨h1, h2, h3, h4, h5, h6⟩
    rw [if_neg (by rw [h2]; simp; omega), if_neg (by rintro ⟨h7, h8⟩; rw [h3 h7] at h8; cases h8), if_neg (by simpa using h4), if_neg (by omega)]
/-! ## how far what lies below a node goes -/
section
variable {d : HDoc}
end
/-! ## the edits -/
section
variable {d : HDoc}
end
end Go.Proofs.K
end
section
/- Documents of one's own: nodes in a root, lists of each node in roots of their own. -/
set_option linter.unusedSimpArgs false
set_option linter.unusedVariables false
namespace Go.Proofs.K
open Go Go.Sim Go.Proofs
variable {G : Glob}
def rootOf : AVal → Option Nat
  | .osl r _ _ _ => some r
  | _ => none
/-- a list of one's own; or data -/
def OwnS (h : Heap) (ty sz : Nat) (cells : List (List AVal)) (a : AVal) : Prop :=
  (cells = [] ∧ a = .emp) ∨ (a = .slc cells ∧ ∀ e ∈ cells, e.length = sz) ∨ ∃ r es, a = .osl r sz 0 cells.length ∧ h r = some ⟨ty, sz, es⟩ ∧ cells.length ≤ es.length ∧ es.take cells.length = cells
def Mut (a : AVal) : Prop := ∀ es, a ≠ .slc es
theorem OwnS.live {h : Heap} {ty sz : Nat} {cells : List (List AVal)} {a : AVal} (O : OwnS h ty sz cells a) (M : Mut a) : (cells = [] ∧ a = .emp) ∨ ∃ r es, a = .osl r sz 0 cells.length ∧ h r = some ⟨ty, sz, es⟩ ∧ cells.length ≤ es.length ∧ es.take cells.length = cells := by
  rcases O with O | O | O
  · exact .inl O
  · exact absurd O.1 (M _)
  · exact .inr O
theorem OwnS.keep {h h2 : Heap} {ty sz : Nat} {cells : List (List AVal)} {a : AVal} (O : OwnS h ty sz cells a) (hk : ∀ r o, rootOf a = some r → h r = some o → h2 r = some o) : OwnS h2 ty sz cells a := by
  rcases O with O | O | ⟨r, es, ha, hr, h1, h2⟩
  · exact .inl O
  · exact .inr (.inl O)
  · exact .inr (.inr ⟨r, es, ha, hk r _ (by rw [ha]; rfl) hr, h1, h2⟩)
theorem OwnS.len {h : Heap} {ty sz : Nat} {cells : List (List AVal)} {a : AVal} (O : OwnS h ty sz cells a) : aLen a = aInt cells.length ∧ okLen a = True := by
  rcases O with ⟨h1, h2⟩ | ⟨h2, _⟩ | ⟨r, es, ha, _⟩
  · subst h1; subst h2; exact ⟨rfl, rfl⟩
  · subst h2; exact ⟨rfl, rfl⟩
  · subst ha; exact ⟨rfl, rfl⟩
theorem OwnS.root {h : Heap} {ty sz : Nat} {cells : List (List AVal)} {a : AVal} (O : OwnS h ty sz cells a) {r : Nat} (hr : rootOf a = some r) : ∃ o, h r = some o := by
  rcases O with ⟨h1, h2⟩ | ⟨h2, _⟩ | ⟨r', es, ha, h1, _⟩
  · subst h2; cases hr
  · subst h2; cases hr
  · subst ha; cases hr; exact ⟨_, h1⟩
/-- .. lent to a reader -/
theorem OwnS.vw {α : Type} [Inhabited α] {enc : α → List AVal} {h : Heap} {ty sz : Nat} [LenE enc sz] {l : List α} {a : AVal} (O : OwnS h ty sz (l.map enc) a) : Vw h a (sl enc l) := by
  rcases O with ⟨h1, h2⟩ | ⟨h2, _⟩ | ⟨r, es, ha, hr, h1, h2⟩
  · have : l = [] := by simpa using h1
    subst this; subst h2; exact .emp
  · subst h2; exact .refl _
  · subst ha
    refine .osl r sz 0 _ ⟨ty, sz, es⟩ (l.map enc) hr (by simpa using h1) rfl (fun f hf => by obtain ⟨x, _, rfl⟩ := List.mem_map.1 hf; exact LenE.len x) fun k j e f x y he hf hx hy => ?_
    have hk : k < (l.map enc).length := (List.getElem?_eq_some_iff.1 hf).1
    simp only [Nat.zero_add] at he
    have he' : (es.take (l.map enc).length)[k]? = some e := by rw [List.getElem?_take, if_pos hk]; exact he
    rw [h2] at he'
    rw [he'] at hf
    cases hf
    rw [hx] at hy; cases hy; exact .refl _
def rowA (x : HNode) (a k : AVal) : List AVal := [aInt x.kind, .str x.name, a, .str x.text, aInt x.parent, k]
def rowsA (d : HDoc) (sl : Nat → AVal) : List (List AVal) := (List.range d.nodes.length).map fun i => rowA (nth d.nodes i) (sl (2 * i)) (sl (2 * i + 1))
theorem rowsA_len (d : HDoc) (sl : Nat → AVal) : (rowsA d sl).length = d.nodes.length := by simp [rowsA]
structure Dw (X : List Nat) (h0 h : Heap) (rN : Nat) (d : HDoc) (sl : Nat → AVal) : Prop where
  sub : Sim.Sub h0 h
  nodes : h rN = some ⟨.t 53, 6, rowsA d sl⟩
  new : h0 rN = none ∧ rN ∉ X
  own : ∀ i, i < d.nodes.length → OwnS h 77 2 ((nth d.nodes i).attrs.map eAttr) (sl (2 * i)) ∧ OwnS h 3 1 ((nth d.nodes i).kids.map eInt) (sl (2 * i + 1))
  fresh : ∀ k, k < 2 * d.nodes.length → ∀ r, rootOf (sl k) = some r → h0 r = none ∧ r ≠ rN ∧ r ∉ X
  sep : ∀ j k, j < 2 * d.nodes.length → k < 2 * d.nodes.length → j ≠ k → ∀ r, rootOf (sl j) = some r → rootOf (sl k) ≠ some r
  keep : ∀ r ∈ X, ∃ o, h r = some o
theorem Dw.slot {X : List Nat} {h0 h : Heap} {rN : Nat} {d : HDoc} {sl : Nat → AVal} (E : Dw X h0 h rN d sl) {k : Nat} (hk : k < 2 * d.nodes.length) {r : Nat} (hr : rootOf (sl k) = some r) : ∃ o, h r = some o := by
  have hi : k / 2 < d.nodes.length := by omega
  obtain ⟨h1, h2⟩ := E.own _ hi
  rcases (by omega : k = 2 * (k / 2) ∨ k = 2 * (k / 2) + 1) with h | h
  · rw [h] at hr; exact h1.root hr
  · rw [h] at hr; exact h2.root hr
/-- A node is changed: its row, its lists. -/
theorem Dw.put {X : List Nat} {h0 h h2 : Heap} {rN : Nat} {d : HDoc} {sl sl' : Nat → AVal} (E : Dw X h0 h rN d sl) {i : Nat} (hi : i < d.nodes.length) {x' : HNode}
    (hs : ∀ j, j ≠ 2 * i → j ≠ 2 * i + 1 → sl' j = sl j)
    (hN : h2 rN = some ⟨.t 53, 6, (rowsA d sl).set i (rowA x' (sl' (2 * i)) (sl' (2 * i + 1)))⟩)
    (hk : ∀ r o, h r = some o → r ≠ rN → rootOf (sl (2 * i)) ≠ some r → rootOf (sl (2 * i + 1)) ≠ some r → h2 r = some o)
    (hA : OwnS h2 77 2 (x'.attrs.map eAttr) (sl' (2 * i))) (hK : OwnS h2 3 1 (x'.kids.map eInt) (sl' (2 * i + 1)))
    (hf : ∀ r, rootOf (sl' (2 * i)) = some r ∨ rootOf (sl' (2 * i + 1)) = some r → rootOf (sl (2 * i)) = some r ∨ rootOf (sl (2 * i + 1)) = some r ∨ h r = none)
    (hd : ∀ r, rootOf (sl' (2 * i)) = some r → rootOf (sl' (2 * i + 1)) ≠ some r) : Dw X h0 h2 rN ⟨d.nodes.set i x', d.quirks⟩ sl' := by
  have hl : (d.nodes.set i x').length = d.nodes.length := by simp
  have fr : ∀ r, rootOf (sl' (2 * i)) = some r ∨ rootOf (sl' (2 * i + 1)) = some r → h0 r = none ∧ r ≠ rN ∧ r ∉ X := fun r hr => by
    rcases hf r hr with h | h | h
    · exact E.fresh _ (by omega) r h
    · exact E.fresh _ (by omega) r h
    · refine ⟨E.sub.none h, fun e => ?_, fun hx => ?_⟩
      · rw [e, E.nodes] at h; cases h
      · obtain ⟨o, ho⟩ := E.keep r hx; rw [h] at ho; cases ho
  have oth : ∀ j, j < 2 * d.nodes.length → j ≠ 2 * i → j ≠ 2 * i + 1 → ∀ r, rootOf (sl j) = some r → rootOf (sl' (2 * i)) ≠ some r ∧ rootOf (sl' (2 * i + 1)) ≠ some r := fun j hj h1 h2 r hr => by
    have key : ¬ (rootOf (sl (2 * i)) = some r ∨ rootOf (sl (2 * i + 1)) = some r ∨ h r = none) := by
      rintro (h | h | h)
      · exact E.sep j (2 * i) hj (by omega) h1 r hr h
      · exact E.sep j (2 * i + 1) hj (by omega) h2 r hr h
      · obtain ⟨o, ho⟩ := E.slot hj hr; rw [h] at ho; cases ho
    exact ⟨fun h => key (hf r (.inl h)), fun h => key (hf r (.inr h))⟩
  refine ⟨fun t o ht => ?_, ?_, E.new, fun j hj => ?_, fun k hk' r hr => ?_, fun j k hj hk' hne r hr => ?_, fun r hr => ?_⟩
  · have hne : t ≠ rN := fun e => by rw [e, E.new.1] at ht; cases ht
    refine hk t o (E.sub t o ht) hne (fun h => ?_) (fun h => ?_)
    · have := (E.fresh _ (by omega) t h).1; rw [this] at ht; cases ht
    · have := (E.fresh _ (by omega) t h).1; rw [this] at ht; cases ht
  · rw [hN]
    congr 2
    apply List.ext_getElem?
    intro j
    rw [List.getElem?_set]
    show _ = (rowsA ⟨d.nodes.set i x', d.quirks⟩ sl')[j]?
    unfold rowsA
    simp only [hl]
    by_cases hij : i = j
    · subst hij
      rw [if_pos rfl, if_pos (by simpa using hi), List.getElem?_map, List.getElem?_range hi, Option.map_some, nth_set _ _ _ _ hi, if_pos rfl]
    · rw [if_neg hij]
      by_cases hj : j < d.nodes.length
      · rw [List.getElem?_map, List.getElem?_map, List.getElem?_range hj, Option.map_some, Option.map_some, nth_set _ _ _ _ hi, if_neg (fun e => hij e.symm), hs (2 * j) (by omega) (by omega), hs (2 * j + 1) (by omega) (by omega)]
      · rw [List.getElem?_eq_none (by simp; omega), List.getElem?_eq_none (by simp; omega)]
  · simp only [hl] at hj
    show OwnS h2 _ _ ((nth (d.nodes.set i x') j).attrs.map eAttr) _ ∧ OwnS h2 _ _ ((nth (d.nodes.set i x') j).kids.map eInt) _
    rw [nth_set _ _ _ _ hi]
    by_cases hij : j = i
    · subst hij; rw [if_pos rfl]; exact ⟨hA, hK⟩
    · rw [if_neg hij, hs (2 * j) (by omega) (by omega), hs (2 * j + 1) (by omega) (by omega)]
      obtain ⟨g1, g2⟩ := E.own j hj
      exact ⟨g1.keep fun r o hr ho => hk r o ho (E.fresh _ (by omega) r hr).2.1 (fun h => E.sep (2 * j) (2 * i) (by omega) (by omega) (by omega) r hr h) (fun h => E.sep (2 * j) (2 * i + 1) (by omega) (by omega) (by omega) r hr h),
        g2.keep fun r o hr ho => hk r o ho (E.fresh _ (by omega) r hr).2.1 (fun h => E.sep (2 * j + 1) (2 * i) (by omega) (by omega) (by omega) r hr h) (fun h => E.sep (2 * j + 1) (2 * i + 1) (by omega) (by omega) (by omega) r hr h)⟩
  · simp only [hl] at hk'
    by_cases e1 : k = 2 * i
    · subst e1; exact fr r (.inl hr)
    · by_cases e2 : k = 2 * i + 1
      · subst e2; exact fr r (.inr hr)
      · rw [hs k e1 e2] at hr; exact E.fresh k hk' r hr
  · simp only [hl] at hj hk'
    by_cases j1 : j = 2 * i <;> by_cases j2 : j = 2 * i + 1 <;> by_cases k1 : k = 2 * i <;> by_cases k2 : k = 2 * i + 1
    all_goals first
      | (exfalso; omega)
      | (subst j1; subst k2; exact hd r hr)
      | (subst j2; subst k1; exact fun h => hd r h hr)
      | (subst j1; rw [hs k k1 k2]; exact fun h => (oth k hk' k1 k2 r h).1 hr)
      | (subst j2; rw [hs k k1 k2]; exact fun h => (oth k hk' k1 k2 r h).2 hr)
      | (subst k1; rw [hs j j1 j2] at hr; exact (oth j hj j1 j2 r hr).1)
      | (subst k2; rw [hs j j1 j2] at hr; exact (oth j hj j1 j2 r hr).2)
      | (rw [hs j j1 j2] at hr; rw [hs k k1 k2]; exact E.sep j k hj hk' hne r hr)
  · obtain ⟨o, ho⟩ := E.keep r hr
    refine ⟨o, hk r o ho (fun e => E.new.2 (e ▸ hr)) (fun h => ?_) (fun h => ?_)⟩
    · exact (E.fresh _ (by omega) r h).2.2 hr
    · exact (E.fresh _ (by omega) r h).2.2 hr
/-- a document lent to a reader -/
theorem Dw.vw {X : List Nat} {h0 h : Heap} {rN : Nat} {d : HDoc} {sl' : Nat → AVal} (E : Dw X h0 h rN d sl') : Vw h (.osl rN 6 0 d.nodes.length) (sl eNode d.nodes) := by
  refine Vw.osl0 E.nodes (by simp) (by rw [rowsA_len]; exact Nat.le_refl _) (fun f hf => by obtain ⟨x, _, rfl⟩ := List.mem_map.1 hf; rfl) ?_
  show F2 (F2 (Vw h)) ((rowsA d sl').take d.nodes.length) (d.nodes.map eNode)
  rw [List.take_of_length_le (by rw [rowsA_len]; exact Nat.le_refl _)]
  have key : ∀ (i : Nat), i < d.nodes.length → F2 (Vw h) (rowA (nth d.nodes i) (sl' (2 * i)) (sl' (2 * i + 1))) (eNode (nth d.nodes i)) := fun i hi => by
    obtain ⟨g1, g2⟩ := E.own i hi
    exact .cons (.refl _) (.cons (.refl _) (.cons g1.vw (.cons (.refl _) (.cons (.refl _) (.cons g2.vw .nil)))))
  have e : d.nodes.map eNode = (List.range d.nodes.length).map fun i => eNode (nth d.nodes i) := by
    apply List.ext_getElem?
    intro j
    by_cases hj : j < d.nodes.length
    · rw [List.getElem?_map, List.getElem?_map, List.getElem?_range hj, nth_some hj]; rfl
    · rw [List.getElem?_eq_none (by simp; omega), List.getElem?_eq_none (by simp; omega)]
  rw [e]
  unfold rowsA
  have gen : ∀ l : List Nat, (∀ i ∈ l, i < d.nodes.length) → F2 (F2 (Vw h)) (l.map fun i => rowA (nth d.nodes i) (sl' (2 * i)) (sl' (2 * i + 1))) (l.map fun i => eNode (nth d.nodes i)) := fun l => by
    induction l with
    | nil => intro _; exact .nil
    | cons i l ih => intro hl; exact .cons (key i (hl i List.mem_cons_self)) (ih fun j hj => hl j (List.mem_cons_of_mem _ hj))
  exact gen _ fun i hi => List.mem_range.1 hi
end Go.Proofs.K
end
section
/- Lists that are being built, beside other roots. -/
set_option linter.unusedSimpArgs false
set_option linter.unusedVariables false
namespace Go.Proofs.K
open Go Go.Sim Go.Proofs
variable {G : Glob}
theorem _root_.Go.Sim.Acc.vw {h h' : Heap} {ty : TypeId} {sz : Nat} {cells : List (List AVal)} {a : AVal} (A : Acc h ty sz cells a h') (hl : ∀ f ∈ cells, f.length = sz) : Vw (newH h h') a (.slc cells) := by
  rcases A with ⟨rfl, rfl⟩ | ⟨r, h0, h1, rfl⟩
  · exact .emp
  · exact Vw.osl0 (by rw [newH_none h0]; exact h1) rfl (Nat.le_refl _) hl (by rw [List.take_length]; exact F2.refl (F2.refl .refl) _)
end Go.Proofs.K
end
section
/- Words of a class: strings.FieldsFunc with blanks, index.Words, the reference's IndexWords. -/
set_option linter.unusedSimpArgs false
set_option linter.unusedVariables false
namespace Go.Proofs.K
open Go Go.Sim Go.Proofs
variable {G : Glob}
/-! ## fields, plain -/
/-- what has been closed, and where one is open, behind the bytes up to p -/
def fsp (s : List UInt8) : Nat → List (Nat × Nat) × Option Nat
  | 0 => ([], none)
  | p + 1 => if blankI (bt s p) = true then (match (fsp s p).2 with | some a => ((fsp s p).1 ++ [(a, p)], none) | none => fsp s p)
    else match (fsp s p).2 with | some _ => fsp s p | none => ((fsp s p).1, some p)
def spansM (s : List UInt8) : List (Nat × Nat) := match (fsp s s.length).2 with | some a => (fsp s s.length).1 ++ [(a, s.length)] | none => (fsp s s.length).1
def fieldsM (s : List UInt8) : List (List UInt8) := (spansM s).map fun x => seg s x.1 x.2
theorem fsp_bl {s : List UInt8} {p : Nat} (h : blankI (bt s p) = true) : fsp s (p + 1) = match (fsp s p).2 with | some a => ((fsp s p).1 ++ [(a, p)], none) | none => fsp s p := by
  rw [fsp, if_pos h]
theorem fsp_no {s : List UInt8} {p : Nat} (h : blankI (bt s p) = false) : fsp s (p + 1) = match (fsp s p).2 with | some _ => fsp s p | none => ((fsp s p).1, some p) := by
  rw [fsp, if_neg (by rw [h]; decide)]
theorem fsp_on {s : List UInt8} {a q : Nat} (ha : (fsp s q).2 = some a) : ∀ k, (∀ i, q ≤ i → i < q + k → blankI (bt s i) = false) → fsp s (q + k) = fsp s q
  | 0, _ => rfl
  | k + 1, h => by
    have ih := fsp_on ha k fun i h1 h2 => h i h1 (by omega)
    rw [← Nat.add_assoc, fsp_no (h _ (by omega) (by omega)), ih, ha]
/-- a whole sign on -/
theorem fsp_sign {s : List UInt8} {p w : Nat} (hw : 1 ≤ w) (hb : blankI (bt s p) = false) (hc : ∀ i, p < i → i < p + w → blankI (bt s i) = false) : fsp s (p + w) = fsp s (p + 1) := by
  have h1 : ∃ a, (fsp s (p + 1)).2 = some a := by
    rw [fsp_no hb]
    cases h : (fsp s p).2 with
    | some a => exact ⟨a, by simp only [h]⟩
    | none => exact ⟨p, rfl⟩
  obtain ⟨a, ha⟩ := h1
  have := fsp_on ha (w - 1) fun i h1 h2 => hc i (by omega) (by omega)
  rwa [show p + 1 + (w - 1) = p + w by omega] at this
structure FspOK (s : List UInt8) (p : Nat) : Prop where
  len : (fsp s p).1.length ≤ p
  each : ∀ x ∈ (fsp s p).1, x.1 < x.2 ∧ x.2 ≤ p
  cur : ∀ a, (fsp s p).2 = some a → a < p
theorem fsp_is (s : List UInt8) : ∀ p, FspOK s p
  | 0 => ⟨Nat.le_refl _, (fun x hx => by cases hx), (fun a ha => by cases ha)⟩
  | p + 1 => by
    obtain ⟨h1, h2, h3⟩ := fsp_is s p
    cases hb : blankI (bt s p) with
    | true =>
      have e := fsp_bl hb
      cases hq : (fsp s p).2 with
      | some a =>
        rw [hq] at e
        have ha := h3 a hq
        refine ⟨by rw [e]; simp; omega, fun x hx => ?_, fun b hb => by rw [e] at hb; cases hb⟩
        rw [e] at hx
        rcases List.mem_append.1 hx with hx | hx
        · have := h2 x hx; omega
        · simp at hx; subst hx; simp; omega
      | none =>
        rw [hq] at e
        simp only at e
        exact ⟨by rw [e]; omega, fun x hx => by rw [e] at hx; have := h2 x hx; omega, fun b hb => by rw [e, hq] at hb; cases hb⟩
    | false =>
      have e := fsp_no hb
      cases hq : (fsp s p).2 with
      | some a =>
        rw [hq] at e
        simp only at e
        exact ⟨by rw [e]; omega, fun x hx => by rw [e] at hx; have := h2 x hx; omega, fun b hb => by rw [e] at hb; have := h3 b hb; omega⟩
      | none =>
        rw [hq] at e
        exact ⟨by rw [e]; simp; omega, fun x hx => by rw [e] at hx; have := h2 x hx; omega, fun b hb => by rw [e] at hb; cases hb; omega⟩
theorem spansM_is (s : List UInt8) : (spansM s).length ≤ s.length + 1 ∧ ∀ x ∈ spansM s, x.1 < x.2 ∧ x.2 ≤ s.length := by
  obtain ⟨h1, h2, h3⟩ := fsp_is s s.length
  unfold spansM
  cases hq : (fsp s s.length).2 with
  | some a =>
    have := h3 a hq
    refine ⟨by simp; omega, fun x hx => ?_⟩
    rcases List.mem_append.1 hx with hx | hx
    · exact h2 x hx
    · simp at hx; subst hx; simp; omega
  | none => exact ⟨by simp only; omega, h2⟩
/-- a word once -/
def addW (L : List (List UInt8)) (w : List UInt8) : List (List UInt8) := if w = [] ∨ w ∈ L then L else L ++ [w]
def wordsM (s : List UInt8) : List (List UInt8) := (fieldsM s).foldl addW []
theorem fieldsM_ne (s : List UInt8) : ∀ w ∈ fieldsM s, w ≠ [] := fun w hw e => by
  obtain ⟨x, hx, rfl⟩ := List.mem_map.1 hw
  have h := (spansM_is s).2 x hx
  have := seg_len (s := s) (a := x.1) (b := x.2) h.2
  rw [e] at this; simp at this; omega
theorem fieldsM_len (s : List UInt8) : (fieldsM s).length ≤ s.length + 1 := by unfold fieldsM; rw [List.length_map]; exact (spansM_is s).1
/-! ## the program's -/
def blW : List UInt8 := [32, 9, 10, 12, 13]
theorem runeAt_small (s : List UInt8) (p : Nat) : (runeAt s p).1 < 2147483648 := by
  show (Utf8.decode ⟨s.toArray⟩ p).1 < 2147483648
  unfold Utf8.decode
  simp only [Utf8.runeError]
  (repeat' split) <;> (simp only) <;> omega
theorem blW_is (b : UInt8) : blW.contains b = blankI b.toNat := of_decide_eq_true (u8_all (p := fun b => decide (blW.contains b = blankI b.toNat)) (by decide +kernel) b)
theorem blankI_hi {b : Int} (h : 128 ≤ b) : blankI b = false := by
  unfold blankI
  simp only [Bool.or_eq_false_iff, beq_eq_false_iff_ne]
  omega
def c26 : SFun := ⟨(.seq (.reg [⟨(some 4), (.mv (.c (.bool false))), none⟩]) (.seq (.reg [⟨(some 5), (.mv (.t 0)), none⟩, ⟨(some 6), (.mv (.t 1)), none⟩, ⟨(some 7), (.pcall 41 [(.t 5), (.t 6)]), none⟩, ⟨(some 8), (.bin .geq (.t 7) (.c (.int .i64 (0)))), none⟩, ⟨(some 4), (.mv (.t 8)), none⟩]) .ret)), [(.tmp 4)]⟩
theorem hc26 : toSF Tryd.prog {pure := [41]} Tryd.f26 = some c26 := by kernel_rfl
theorem hn26 : (Tryd.f26.name == "runtime.NumGoroutine") = false := by kernel_rfl
def c25 : SFun := ⟨(.seq (.reg [⟨(some 2), (.mv (.c (.bool false))), none⟩]) (.seq (.reg [⟨(some 3), (.mv (.t 0)), none⟩, ⟨(some 4), (.pcall 26 [(.c (.str [32, 9, 10, 12, 13])), (.t 3)]), none⟩, ⟨(some 2), (.mv (.t 4)), none⟩]) .ret)), [(.tmp 2)]⟩
theorem hc25 : toSF Tryd.prog {pure := [26]} Tryd.f25 = some c25 := by kernel_rfl
theorem hn25 : (Tryd.f25.name == "runtime.NumGoroutine") = false := by kernel_rfl
theorem words1_ok (c : Nat) (hc : c < 2147483648) : PCalls (Pg G) 25 [.int .i32 c] (.bool (blankI c)) := fun h => by
  have cI := indexRune_ok (G := G) blW c hc (by decide) (by decide)
  have hd : decide (0 ≤ ixR blW c) = blankI c := by
    unfold ixR
    by_cases h1 : c < 128
    · rw [if_pos h1]
      have e1 : (UInt8.ofNat c).toNat = c := by simp; omega
      have e2 := blW_is (UInt8.ofNat c)
      rw [e1] at e2
      rw [← e2]
      cases hb : blW.contains (UInt8.ofNat c) with
      | true => exact decide_eq_true (idxB_some (by simpa using hb))
      | false => exact decide_eq_false (by rw [idxB_none (by simpa using hb)]; decide)
    · rw [if_neg h1, blankI_hi (by omega)]; rfl
  have hK : PCalls (Pg G) 26 [.str blW, .int .i32 c] (.bool (blankI c)) := fun h => by
    refine dcalls_of_vc Tryd.func26 hn26 hc26 (by rw [Tryd.ntmps26]; simp) (by rw [Tryd.ntmps26]; decide) ?_
    simp -dsimp -implicitDefEqProofs (disch := omega) only [VCA, Nat.reduceEqDiff, ↓reduceIte, reduceCtorEq, c26]
    repeat' (first | ((with_reducible refine Br.dec (fun _ => ?_) (fun _ => ?_)) <;> try (exfalso; omega)) | ((with_reducible refine Br.eq (fun _ => ?_) (fun _ => ?_)) <;> try (exfalso; omega)) | ((with_reducible refine Br.ne (fun _ => ?_) (fun _ => ?_)) <;> try (exfalso; omega)) | ((with_reducible refine brNdec (fun _ => ?_) (fun _ => ?_)) <;> try (exfalso; omega)) | ((with_reducible refine brNeq (fun _ => ?_) (fun _ => ?_)) <;> try (exfalso; omega)) | with_reducible refine Br.intro (fun _ => ?_) (fun _ => ?_) | (with_reducible apply pcallE.of; · exact cI) | (with_reducible refine And.intro ?_ ?_; · omega) | simp -dsimp -implicitDefEqProofs (disch := omega) only [VCA, ↓reduceIte, exists_eq_right, hd])
    exact Sub.refl _
  unfold blW at hK
  refine dcalls_of_vc Tryd.func25 hn25 hc25 (by rw [Tryd.ntmps25]; simp) (by rw [Tryd.ntmps25]; decide) ?_
  simp -dsimp -implicitDefEqProofs (disch := omega) only [VCA, ↓reduceIte, reduceCtorEq, c25]
  repeat' (first | ((with_reducible refine Br.dec (fun _ => ?_) (fun _ => ?_)) <;> try (exfalso; omega)) | ((with_reducible refine Br.eq (fun _ => ?_) (fun _ => ?_)) <;> try (exfalso; omega)) | ((with_reducible refine Br.ne (fun _ => ?_) (fun _ => ?_)) <;> try (exfalso; omega)) | ((with_reducible refine brNdec (fun _ => ?_) (fun _ => ?_)) <;> try (exfalso; omega)) | ((with_reducible refine brNeq (fun _ => ?_) (fun _ => ?_)) <;> try (exfalso; omega)) | with_reducible refine Br.intro (fun _ => ?_) (fun _ => ?_) | (with_reducible apply pcallE.of; · exact hK) | (with_reducible refine And.intro ?_ ?_; · omega) | simp -dsimp -implicitDefEqProofs (disch := omega) only [VCA, ↓reduceIte, exists_eq_right])
  exact Sub.refl _
theorem sign_bl {s : List UInt8} {p : Nat} (hp : p < s.length) : blankI ((runeAt s p).1 : Int) = blankI (bt s p) := by
  have h := runeAt_is s p hp
  have h0 : 0 ≤ bt s p := by unfold bt; omega
  by_cases h1 : bt s p < 128
  · rw [h.1 h1]
    show blankI (((bt s p).toNat : Nat) : Int) = _
    rw [show (((bt s p).toNat : Nat) : Int) = bt s p by omega]
  · rw [blankI_hi (b := bt s p) (by omega)]
    rcases h.2.1 (by omega) with h2 | h2
    · rw [h2]; decide
    · exact blankI_hi (by omega)
def eSpan (x : Nat × Nat) : List AVal := [aInt x.1, aInt x.2]
/-- where a field is open: its place, or less than nothing -/
def StI (o : Option Nat) (a : AVal) : Prop := match o with | some p => a = aInt p | none => ∃ z : Int, z < 0 ∧ -1000000000 ≤ z ∧ a = aInt z
/-- the spans so far, and the range over the text -/
structure FJ (h h' : Heap) (s : List UInt8) (p : Nat) (ri : Nat) (a5 a6 : AVal) (q : List (Nat × Nat) × Option Nat) : Prop where
  sub : Sim.Sub h h'
  it : h' ri = some (itO s p)
  itn : h ri = none
  sp : ∃ r es, a5 = .osl r 2 0 q.1.length ∧ h' r = some ⟨.t 84, 2, es⟩ ∧ q.1.length ≤ es.length ∧ es.take q.1.length = q.1.map eSpan ∧ h r = none ∧ r ≠ ri
  st : StI q.2 a6
theorem FJ.app {h HH : Heap} {s : List UInt8} {p ri r r' n : Nat} {a6 : AVal} {rows : List (List AVal)} {q : List (Nat × Nat) × Option Nat} (SH : Sim.Sub h HH) (hit : HH ri = some (itO s p)) (itn : h ri = none) (hri : r ≠ ri) (hrn : h r = none) (hr' : del HH r r' = none)
    (hq : rows = q.1.map eSpan) (hn : n = q.1.length) (st : StI q.2 a6) : FJ h (upd (del HH r) r' (some ⟨.t 84, 2, rows⟩)) s p ri (.osl r' 2 0 n) a6 q := by
  have hd : del HH r ri = some (itO s p) := by unfold del; rw [if_neg (fun e => hri e.symm)]; exact hit
  have h1 : r' ≠ ri := fun e => by rw [e, hd] at hr'; cases hr'
  have S2 := SH.del hrn
  refine ⟨S2.upd (S2.none hr'), by rw [upd_ne _ _ (fun e => h1 e.symm)]; exact hd, itn, ⟨r', rows, by rw [hn], upd_same _ _ _, ?_, ?_, S2.none hr', h1⟩, st⟩
  · rw [hq, List.length_map]; exact Nat.le_refl _
  · rw [hq, ← List.length_map (f := eSpan), List.take_length]
def c24_s5 : SCode := (.seq (.reg [⟨(some 44), (.mv (.t 5)), none⟩, ⟨(some 45), (.len (.t 44)), none⟩, ⟨(some 46), (.mks 9 1 16 [(.str [])] (.t 45) (.t 45)), none⟩, ⟨(some 9), (.mv (.t 46)), none⟩]) (.seq (.seq (.reg [⟨(some 47), (.mv (.t 5)), none⟩, ⟨(some 48), (.len (.t 47)), none⟩, ⟨(some 49), (.mv (.c (.int .i64 (0)))), none⟩]) (.block 2 (.loop (.seq (.reg [⟨(some 50), (.bin .lss (.t 49) (.t 48)), none⟩]) (.seq (.cond (.t 50) .skip (.exit 2)) (.seq (.block 3 (.seq (.reg [⟨(some 51), (.mv (.t 49)), none⟩, ⟨(some 52), (.idxA 2 (.t 47) (.t 49)), none⟩, ⟨(some 53), (.ld 2 true (.t 52)), none⟩, ⟨(some 11), (.new 84 2 [(.int .i64 (0)), (.int .i64 (0))]), none⟩, ⟨(some 10), (.mv (.t 51)), none⟩, ⟨none, (.st 2 (.t 11) (.t 53)), none⟩]) (.reg [⟨(some 54), (.mv (.t 9)), none⟩, ⟨(some 55), (.mv (.t 10)), none⟩, ⟨(some 56), (.mv (.t 0)), none⟩, ⟨(some 57), (.fldA 0 (.t 11)), none⟩, ⟨(some 58), (.ld 1 false (.t 57)), none⟩, ⟨(some 59), (.fldA 1 (.t 11)), none⟩, ⟨(some 60), (.ld 1 false (.t 59)), none⟩, ⟨(some 61), (.slS (.t 56) (some (.t 58)) (some (.t 60))), none⟩, ⟨(some 62), (.idxA 1 (.t 54) (.t 55)), none⟩, ⟨none, (.st 1 (.t 62) (.t 61)), none⟩]))) (.reg [⟨(some 63), (.bin .add (.t 49) (.c (.int .i64 (1)))), none⟩, ⟨(some 49), (.mv (.t 63)), none⟩]))))))) (.seq (.reg [⟨(some 64), (.mv (.t 9)), none⟩, ⟨(some 4), (.mv (.t 64)), none⟩]) .ret)))
def c24 : SFun := ⟨(.seq (.reg [⟨(some 4), (.mv (.c .emp)), none⟩]) (.seq (.reg [⟨(some 12), (.mks 84 2 16 [(.int .i64 (0)), (.int .i64 (0))] (.c (.int .i64 (0))) (.c (.int .i64 (32)))), none⟩, ⟨(some 5), (.mv (.t 12)), none⟩]) (.seq (.reg [⟨(some 6), (.mv (.c (.int .i64 (-1)))), none⟩]) (.seq (.seq (.reg [⟨(some 13), (.mv (.t 0)), none⟩, ⟨(some 14), (.rng (.t 13)), none⟩]) (.block 0 (.loop (.seq (.reg [⟨(some 15), (.nxt (.t 14)), none⟩, ⟨(some 16), (.ext (.t 15) 0), none⟩]) (.seq (.cond (.t 16) .skip (.exit 0)) (.block 1 (.seq (.reg [⟨(some 17), (.ext (.t 15) 1), none⟩, ⟨(some 18), (.ext (.t 15) 2), none⟩, ⟨(some 7), (.mv (.t 17)), none⟩, ⟨(some 8), (.mv (.t 18)), none⟩]) (.seq (.reg [⟨(some 19), (.mv (.t 1)), none⟩, ⟨(some 20), (.mv (.t 8)), none⟩, ⟨(some 21), (.call (.t 19) [(.t 20)]), none⟩]) (.cond (.t 21) (.seq (.reg [⟨(some 22), (.mv (.t 6)), none⟩, ⟨(some 23), (.bin .geq (.t 22) (.c (.int .i64 (0)))), none⟩]) (.cond (.t 23) (.seq (.reg [⟨(some 24), (.mv (.t 5)), none⟩, ⟨(some 25), (.mv (.t 6)), none⟩, ⟨(some 26), (.mv (.t 7)), none⟩, ⟨(some 27), (.bld [(.int .i64 (0)), (.int .i64 (0))] [(0, (1, (.t 25))), (1, (1, (.t 26)))]), none⟩, ⟨(some 28), (.bldF 84 2 [(.t 27)]), none⟩, ⟨(some 29), (.app 84 2 16 (.t 24) (.t 28)), none⟩, ⟨(some 5), (.mv (.t 29)), none⟩]) (.reg [⟨(some 30), (.mv (.t 6)), none⟩, ⟨(some 31), (.un .xor (.t 30)), none⟩, ⟨(some 6), (.mv (.t 31)), none⟩])) .skip)) (.seq (.reg [⟨(some 32), (.mv (.t 6)), none⟩, ⟨(some 33), (.bin .lss (.t 32) (.c (.int .i64 (0)))), none⟩]) (.cond (.t 33) (.reg [⟨(some 34), (.mv (.t 7)), none⟩, ⟨(some 6), (.mv (.t 34)), none⟩]) .skip))))))))))) (.seq (.seq (.reg [⟨(some 35), (.mv (.t 6)), none⟩, ⟨(some 36), (.bin .geq (.t 35) (.c (.int .i64 (0)))), none⟩]) (.cond (.t 36) (.reg [⟨(some 37), (.mv (.t 5)), none⟩, ⟨(some 38), (.mv (.t 6)), none⟩, ⟨(some 39), (.mv (.t 0)), none⟩, ⟨(some 40), (.lenS (.t 39)), none⟩, ⟨(some 41), (.bld [(.int .i64 (0)), (.int .i64 (0))] [(0, (1, (.t 38))), (1, (1, (.t 40)))]), none⟩, ⟨(some 42), (.bldF 84 2 [(.t 41)]), none⟩, ⟨(some 43), (.app 84 2 16 (.t 37) (.t 42)), none⟩, ⟨(some 5), (.mv (.t 43)), none⟩]) .skip)) c24_s5))))), [(.tmp 4)]⟩
theorem hc24 : toSF Tryd.prog {mp := [14]} Tryd.f24 = some c24 := by kernel_rfl
theorem hn24 : (Tryd.f24.name == "runtime.NumGoroutine") = false := by kernel_rfl
set_option maxHeartbeats 1000000 in
theorem fieldsF_rest (s : List UInt8) (hs : s.length ≤ 1000000) (L : List (Nat × Nat)) (hL : L.length ≤ 1000001) (hx : ∀ x ∈ L, x.1 < x.2 ∧ x.2 ≤ s.length) {h h1 : Heap} (S : Sim.Sub h h1) {r : Nat} {es : List (List AVal)} (hr : h1 r = some ⟨.t 84, 2, es⟩)
    (hle : L.length ≤ es.length) (ht : es.take L.length = L.map eSpan) (e : Env) (e0 : e 0 = .str s) (e5 : e 5 = .osl r 2 0 L.length) :
    vc (Pg G) c24_s5 (retK [.tmp 4] fun a h' => Sim.Sub h h' ∧ VwT (newH h h') a (sl eStr (L.map fun x => seg s x.1 x.2))) e h1 := by
  unfold c24_s5
  skip
  simp -dsimp -implicitDefEqProofs (disch := omega) only [VCA, Nat.reduceEqDiff, ↓reduceIte, e5]
  refine ⟨by omega, Int.le_refl _, by omega, by omega, fun r9 hr9 => ?_⟩
  obtain ⟨W, hW⟩ : ∃ W, L.map (fun x => seg s x.1 x.2) = W := ⟨_, rfl⟩
  have wl : W.length = L.length := by rw [← hW, List.length_map]
  have wn : ∀ k, k < L.length → nth W k = seg s (nth L k).1 (nth L k).2 := fun k hk => by
    have := nth_some (show k < W.length by omega)
    rw [← hW, List.getElem?_map, nth_some hk] at this
    rw [← hW]; exact (Option.some.inj this).symm
  have en : ∀ k, k < L.length → es.getD k [] = eSpan (nth L k) := fun k hk => by
    have h1 : (es.take L.length)[k]? = some (eSpan (nth L k)) := by rw [ht, List.getElem?_map, nth_some hk]; rfl
    rw [List.getElem?_take, if_pos hk] at h1
    rw [List.getD_eq_getElem?_getD, h1]; rfl
  have hne : r ≠ r9 := fun e => by rw [← e, hr] at hr9; cases hr9
  rw [hW]
  refine LoopVC.intro (fun m e h' => ∃ (k : Nat) (fs : List (List AVal)), k ≤ L.length ∧ m = L.length - k ∧ e 0 = .str s ∧ e 9 = .osl r9 1 0 L.length ∧ e 47 = .osl r 2 0 L.length ∧ e 48 = aInt L.length ∧ e 49 = aInt k ∧ h' r9 = some ⟨.t 9, 1, fs⟩ ∧ fs.length = L.length ∧ (∀ c ∈ fs, c.length = 1) ∧ fs.take k = (W.take k).map eStr ∧ h' r = some ⟨.t 84, 2, es⟩ ∧ Sim.Sub h h') L.length
    ⟨0, _, Nat.zero_le _, by omega, e0, rfl, rfl, rfl, rfl, upd_same _ _ _, by simp, (fun c hc => by rw [List.eq_of_mem_replicate hc]; rfl), rfl, by rw [upd_ne _ _ hne]; exact hr, S.upd (S.none hr9)⟩ ?_
  clear e0 e5 hr
  rintro m e h' ⟨k, fs, hk, rfl, e0, e9, e47, e48, e49, g9, fl, f1, ft, hr, S'⟩
  simp -dsimp -implicitDefEqProofs (disch := omega) only [VCA, ↓reduceIte, e48, e49]
  refine Br.dec (fun hlt => ?_) (fun hge => ?_)
  · have hk' : k < L.length := by omega
    have hx' := hx _ (nth_mem' hk')
    have enk := en k hk'
    have wnk := wn k hk'
    obtain ⟨y, hy⟩ : ∃ y, nth L k = y := ⟨_, rfl⟩
    rw [hy] at hx' enk wnk
    repeat' (first | ((with_reducible refine Br.dec (fun _ => ?_) (fun _ => ?_)) <;> try (exfalso; omega)) | ((with_reducible refine Br.eq (fun _ => ?_) (fun _ => ?_)) <;> try (exfalso; omega)) | ((with_reducible refine Br.ne (fun _ => ?_) (fun _ => ?_)) <;> try (exfalso; omega)) | ((with_reducible refine brNdec (fun _ => ?_) (fun _ => ?_)) <;> try (exfalso; omega)) | ((with_reducible refine brNeq (fun _ => ?_) (fun _ => ?_)) <;> try (exfalso; omega)) | with_reducible refine Br.intro (fun _ => ?_) (fun _ => ?_) | (with_reducible refine And.intro ?_ ?_; · omega) | simp -dsimp -implicitDefEqProofs (disch := omega) only [VCA, Nat.reduceEqDiff, Nat.reduceAdd, Nat.reduceLT, Nat.reduceLeDiff, ↓reduceIte, reduceCtorEq, setAt, exists_eq_left', e0, e9, e47, e48, e49, hr, enk, eSpan])
    intro r1 hr1
    have hrow : List.drop 1 (fs.getD k []) = [] := by
      rw [List.getD_eq_getElem?_getD, List.getElem?_eq_getElem (by omega), Option.getD_some]
      exact List.drop_eq_nil_of_le (by rw [f1 _ (List.getElem_mem _)]; exact Nat.le_refl _)
    have n91 : ¬ r9 = r1 := fun e => by rw [← e, g9] at hr1; cases hr1
    refine ⟨⟨by omega, by omega, by omega⟩, ⟨by omega, by omega⟩, _, by rw [if_neg n91]; exact g9, by simp only [fl]; omega, ?_, ?_⟩
    · simp only
      rw [List.getD_eq_getElem?_getD, List.getElem?_eq_getElem (by omega), Option.getD_some, f1 _ (List.getElem_mem _)]
      exact Nat.le_refl _
    · refine ⟨_, by omega, k + 1, _, by omega, rfl, by omega, rfl, ?_, ?_, ?_, ?_, ?_⟩
      · simpa using fl
      · intro c hc
        rcases List.mem_or_eq_of_mem_set hc with hc | rfl
        · exact f1 c hc
        · simp only [hrow]; rfl
      · simp only [hrow]
        have hkf : k < fs.length := by omega
        rw [List.take_add_one, List.take_set_of_le (Nat.le_refl _), ft, List.getElem?_set_self hkf, take_snoc (by omega), wnk, List.map_append]
        rfl
      · rw [if_neg hne, if_neg (fun e => by rw [← e, hr] at hr1; cases hr1)]
      · exact (S'.upd (S'.none hr1)).upd (S.none hr9)
  · obtain rfl : k = L.length := by omega
    simp -dsimp -implicitDefEqProofs (disch := omega) only [VCA, Nat.reduceEqDiff, ↓reduceIte, e9]
    rw [← wl, List.take_length] at ft
    exact ⟨_, Sub.refl _, S', .one _ _ (Vw.osl0 (by rw [newH_none (S.none hr9)]; exact g9) (by rw [List.length_map, wl]) (by rw [fl]; exact Nat.le_refl _) (fun f hf => by obtain ⟨w, _, rfl⟩ := List.mem_map.1 hf; rfl) (by rw [← wl, ft]; exact F2.refl (F2.refl .refl) _))⟩
set_option maxHeartbeats 1000000 in
theorem fieldsF_ok (s : List UInt8) (hs : s.length ≤ 1000000) (f : Nat) (hf : ∀ c : Nat, c < 2147483648 → PCalls (Pg G) f [.int .i32 c] (.bool (blankI c))) : PCalls (Pg G) 24 [.str s, .fn f [] []] (sl eStr (fieldsM s)) := PCalls.outV fun h => by
  refine dcalls_of_vc Tryd.func24 hn24 hc24 (by rw [Tryd.ntmps24]; simp) (by rw [Tryd.ntmps24]; decide) ?_
  simp -dsimp -implicitDefEqProofs (disch := omega) only [VCA, ↓upd_none, ↓reduceIte, reduceCtorEq, ne_eq, c24]
  refine ⟨by decide, by decide, by decide, by decide, fun r5 hr5 r14 hr14 => ?_⟩
  have J0 : FJ h (upd (upd h r5 (some ⟨.t 84, 2, List.replicate 32 [aInt 0, aInt 0]⟩)) r14 (some (itO s 0))) s 0 r14 (.osl r5 2 0 0) (aInt (-1)) (fsp s 0) :=
    ⟨((Sub.refl h).upd hr5).upd hr14.2, upd_same _ _ _, hr14.2, ⟨r5, _, rfl, by rw [upd_ne _ _ (fun e => hr14.1 e.symm)]; exact upd_same _ _ _, Nat.zero_le _, rfl, hr5, fun e => hr14.1 e.symm⟩, -1, by decide, by decide, rfl⟩
  refine LoopVC.intro (fun m e h' => ∃ p : Nat, p ≤ s.length ∧ m = s.length - p ∧ e 0 = .str s ∧ e 1 = .fn f [] [] ∧ e 14 = .ptr r14 0 0 ∧ FJ h h' s p r14 (e 5) (e 6) (fsp s p)) s.length ⟨0, Nat.zero_le _, by omega, rfl, rfl, rfl, J0⟩ ?_
  clear J0
  rintro m e h' ⟨p, hp, rfl, e0, e1, e14, J⟩
  have hit := J.it
  simp -dsimp -implicitDefEqProofs (disch := omega) only [VCA, Nat.reduceEqDiff, Nat.reduceAdd, Nat.reduceLT, ↓reduceIte, e1, e14, hit]
  refine ⟨_, _, rfl, fun hlt => ?_, fun hge => ?_⟩
  · have hb := sign_bl hlt
    have hq := runeAt_is s p hlt
    have hcn := runeAt_cont s p
    have hF := hf (runeAt s p).1 (runeAt_small s p)
    rw [hb] at hF
    obtain ⟨q, hqq⟩ : ∃ q, runeAt s p = q := ⟨_, rfl⟩
    rw [hqq] at hq hcn hF
    have J2 : ∀ o6 : AVal, StI (fsp s (p + q.2)).2 o6 → (fsp s (p + q.2)).1 = (fsp s p).1 → FJ h (upd h' r14 (some (itO s (p + q.2)))) s (p + q.2) r14 (e 5) o6 (fsp s (p + q.2)) := fun o6 h6 h1 => by
      obtain ⟨r, es, g1, g2, g3, g4, g5, g6⟩ := J.sp
      refine ⟨J.sub.upd J.itn, upd_same _ _ _, J.itn, ⟨r, es, ?_, by rw [upd_ne _ _ g6]; exact g2, ?_, ?_, g5, g6⟩, h6⟩
      · rw [h1]; exact g1
      · rw [h1]; exact g3
      · rw [h1]; exact g4
    obtain ⟨r, es, g1, g2, g3, g4, g5, g6⟩ := J.sp
    have K := fsp_is s p
    have K1 := K.len
    cases hbl : blankI (bt s p) with
    | true =>
      rw [hbl] at hF
      have hw1 : q = ((bt s p).toNat, 1) := hq.1 (by
        refine Int.not_le.1 fun hc => ?_
        rw [blankI_hi hc] at hbl; cases hbl)
      have hq2 : q.2 = 1 := by rw [hw1]
      have hn := fsp_bl hbl
      cases hst : (fsp s p).2 with
      | some a =>
        rw [hst] at hn
        have e6 : e 6 = aInt a := by have := J.st; rw [hst] at this; exact this
        have ha := K.cur a hst
        simp -dsimp -implicitDefEqProofs (disch := omega) only [hqq]
        refine DCalls.of (hF _) ?_
        rintro v h2 ⟨rfl, rfl⟩
        repeat' (first | ((with_reducible refine Br.dec (fun _ => ?_) (fun _ => ?_)) <;> try (exfalso; omega)) | ((with_reducible refine Br.eq (fun _ => ?_) (fun _ => ?_)) <;> try (exfalso; omega)) | ((with_reducible refine Br.ne (fun _ => ?_) (fun _ => ?_)) <;> try (exfalso; omega)) | ((with_reducible refine brNdec (fun _ => ?_) (fun _ => ?_)) <;> try (exfalso; omega)) | ((with_reducible refine brNeq (fun _ => ?_) (fun _ => ?_)) <;> try (exfalso; omega)) | with_reducible refine Br.intro (fun _ => ?_) (fun _ => ?_) | (with_reducible refine And.intro ?_ ?_; · omega) | simp -dsimp -implicitDefEqProofs (disch := omega) only [VCA, Nat.reduceEqDiff, Nat.reduceAdd, Nat.reduceLeDiff, ↓reduceIte, reduceCtorEq, okParts, fillA, okFill, forall_eq, exists_eq_left, e6, g1])
        refine ⟨_, by rw [if_neg g6]; exact g2, rfl, by simpa using g3, by omega, by omega, fun r' hr' => ?_⟩
        repeat' (first | ((with_reducible refine Br.dec (fun _ => ?_) (fun _ => ?_)) <;> try (exfalso; omega)) | ((with_reducible refine Br.eq (fun _ => ?_) (fun _ => ?_)) <;> try (exfalso; omega)) | ((with_reducible refine Br.ne (fun _ => ?_) (fun _ => ?_)) <;> try (exfalso; omega)) | ((with_reducible refine brNdec (fun _ => ?_) (fun _ => ?_)) <;> try (exfalso; omega)) | ((with_reducible refine brNeq (fun _ => ?_) (fun _ => ?_)) <;> try (exfalso; omega)) | with_reducible refine Br.intro (fun _ => ?_) (fun _ => ?_) | (with_reducible refine And.intro ?_ ?_; · omega) | simp -dsimp -implicitDefEqProofs (disch := omega) only [])
        have hrow : List.take (fsp s p).1.length es ++ [[aInt a, aInt p]] = (fsp s (p + q.2)).1.map eSpan := by rw [g4, hq2, hn, List.map_append]; rfl
        exact ⟨_, by omega, p + q.2, by omega, rfl, e0, e1, e14, FJ.app (J.sub.upd J.itn) (upd_same _ _ _) J.itn g6 g5 hr' hrow (by rw [hq2, hn, List.length_append]; rfl) (by rw [hq2, hn]; exact ⟨-1 - a, by omega, by omega, rfl⟩)⟩
      | none =>
        rw [hst] at hn
        simp only at hn
        obtain ⟨z, z0, z1, e6⟩ : ∃ z : Int, z < 0 ∧ -1000000000 ≤ z ∧ e 6 = aInt z := by have := J.st; rw [hst] at this; exact this
        simp -dsimp -implicitDefEqProofs (disch := omega) only [hqq]
        refine DCalls.of (hF _) ?_
        rintro v h2 ⟨rfl, rfl⟩
        repeat' (first | ((with_reducible refine Br.dec (fun _ => ?_) (fun _ => ?_)) <;> try (exfalso; omega)) | ((with_reducible refine Br.eq (fun _ => ?_) (fun _ => ?_)) <;> try (exfalso; omega)) | ((with_reducible refine Br.ne (fun _ => ?_) (fun _ => ?_)) <;> try (exfalso; omega)) | ((with_reducible refine brNdec (fun _ => ?_) (fun _ => ?_)) <;> try (exfalso; omega)) | ((with_reducible refine brNeq (fun _ => ?_) (fun _ => ?_)) <;> try (exfalso; omega)) | with_reducible refine Br.intro (fun _ => ?_) (fun _ => ?_) | (with_reducible refine And.intro ?_ ?_; · omega) | simp -dsimp -implicitDefEqProofs (disch := omega) only [VCA, Nat.reduceEqDiff, ↓reduceIte, reduceCtorEq, e6, e0, e1, e14, hqq])
        exact ⟨_, by omega, p + q.2, by omega, rfl, J2 _ (by rw [hq2, hn, hst]; exact ⟨z, z0, z1, rfl⟩) (by rw [hq2, hn])⟩
    | false =>
      rw [hbl] at hF
      have hn := fsp_no hbl
      have hsg := fsp_sign (s := s) (p := p) (w := q.2) hq.2.2.1 hbl fun i h1 h2 => blankI_hi (hcn i h1 h2)
      cases hst : (fsp s p).2 with
      | some a =>
        rw [hst] at hn
        simp only at hn
        have e6 : e 6 = aInt a := by have := J.st; rw [hst] at this; exact this
        simp -dsimp -implicitDefEqProofs (disch := omega) only [hqq]
        refine DCalls.of (hF _) ?_
        rintro v h2 ⟨rfl, rfl⟩
        repeat' (first | ((with_reducible refine Br.dec (fun _ => ?_) (fun _ => ?_)) <;> try (exfalso; omega)) | ((with_reducible refine Br.eq (fun _ => ?_) (fun _ => ?_)) <;> try (exfalso; omega)) | ((with_reducible refine Br.ne (fun _ => ?_) (fun _ => ?_)) <;> try (exfalso; omega)) | ((with_reducible refine brNdec (fun _ => ?_) (fun _ => ?_)) <;> try (exfalso; omega)) | ((with_reducible refine brNeq (fun _ => ?_) (fun _ => ?_)) <;> try (exfalso; omega)) | with_reducible refine Br.intro (fun _ => ?_) (fun _ => ?_) | (with_reducible refine And.intro ?_ ?_; · omega) | simp -dsimp -implicitDefEqProofs (disch := omega) only [VCA, Nat.reduceEqDiff, ↓reduceIte, reduceCtorEq, e6, e0, e1, e14, hqq])
        exact ⟨_, by omega, p + q.2, by omega, rfl, J2 _ (by rw [hsg, hn, hst]; exact rfl) (by rw [hsg, hn])⟩
      | none =>
        rw [hst] at hn
        obtain ⟨z, z0, z1, e6⟩ : ∃ z : Int, z < 0 ∧ -1000000000 ≤ z ∧ e 6 = aInt z := by have := J.st; rw [hst] at this; exact this
        simp -dsimp -implicitDefEqProofs (disch := omega) only [hqq]
        refine DCalls.of (hF _) ?_
        rintro v h2 ⟨rfl, rfl⟩
        repeat' (first | ((with_reducible refine Br.dec (fun _ => ?_) (fun _ => ?_)) <;> try (exfalso; omega)) | ((with_reducible refine Br.eq (fun _ => ?_) (fun _ => ?_)) <;> try (exfalso; omega)) | ((with_reducible refine Br.ne (fun _ => ?_) (fun _ => ?_)) <;> try (exfalso; omega)) | ((with_reducible refine brNdec (fun _ => ?_) (fun _ => ?_)) <;> try (exfalso; omega)) | ((with_reducible refine brNeq (fun _ => ?_) (fun _ => ?_)) <;> try (exfalso; omega)) | with_reducible refine Br.intro (fun _ => ?_) (fun _ => ?_) | (with_reducible refine And.intro ?_ ?_; · omega) | simp -dsimp -implicitDefEqProofs (disch := omega) only [VCA, Nat.reduceEqDiff, ↓reduceIte, reduceCtorEq, e6, e0, e1, e14, hqq])
        exact ⟨_, by omega, p + q.2, by omega, rfl, J2 _ (by rw [hsg, hn]; exact rfl) (by rw [hsg, hn])⟩
  · obtain rfl : p = s.length := by omega
    obtain ⟨r, es, g1, g2, g3, g4, g5, g6⟩ := J.sp
    have K := fsp_is s s.length
    have K1 := K.len
    have hsp := spansM_is s
    have hst0 := J.st
    have hsl : (spansM s).length ≤ 1000001 := by have := hsp.1; omega
    cases hst : (fsp s s.length).2 with
    | some a =>
      rw [hst] at hst0
      have e6 : e 6 = aInt a := hst0
      have hsm : spansM s = (fsp s s.length).1 ++ [(a, s.length)] := by unfold spansM; rw [hst]
      have ha := K.cur a hst
      repeat' (first | ((with_reducible refine Br.dec (fun _ => ?_) (fun _ => ?_)) <;> try (exfalso; omega)) | ((with_reducible refine Br.eq (fun _ => ?_) (fun _ => ?_)) <;> try (exfalso; omega)) | ((with_reducible refine Br.ne (fun _ => ?_) (fun _ => ?_)) <;> try (exfalso; omega)) | ((with_reducible refine brNdec (fun _ => ?_) (fun _ => ?_)) <;> try (exfalso; omega)) | ((with_reducible refine brNeq (fun _ => ?_) (fun _ => ?_)) <;> try (exfalso; omega)) | with_reducible refine Br.intro (fun _ => ?_) (fun _ => ?_) | (with_reducible refine And.intro ?_ ?_; · omega) | simp -dsimp -implicitDefEqProofs (disch := omega) only [VCA, Nat.reduceEqDiff, Nat.reduceAdd, Nat.reduceLeDiff, ↓reduceIte, reduceCtorEq, okParts, fillA, okFill, forall_eq, exists_eq_left, e0, e6, g1])
      refine ⟨_, g2, rfl, g3, by omega, by omega, fun r' hr' => ?_⟩
      have S2 := J.sub.del g5
      have hm2 : fieldsM s = ((fsp s s.length).1 ++ [(a, s.length)]).map fun x => seg s x.1 x.2 := by unfold fieldsM; rw [hsm]
      rw [hm2]
      have hln : (fsp s s.length).1.length + 1 = ((fsp s s.length).1 ++ [(a, s.length)]).length := by rw [List.length_append]; rfl
      refine fieldsF_rest s hs _ (by rw [← hsm]; exact hsl) (by rw [← hsm]; exact hsp.2) (S2.upd (S2.none hr')) (r := r') (upd_same _ _ _) ?_ ?_ _ e0 ?_
      · simp only [g4, List.length_append, List.length_map]; exact Nat.le_refl _
      · simp only [g4]
        rw [List.take_of_length_le (by simp)]
        rw [List.map_append]; rfl
      · rw [← hln]; rfl
    | none =>
      rw [hst] at hst0
      obtain ⟨z, z0, z1, e6⟩ : ∃ z : Int, z < 0 ∧ -1000000000 ≤ z ∧ e 6 = aInt z := hst0
      have hsm : spansM s = (fsp s s.length).1 := by unfold spansM; rw [hst]
      repeat' (first | ((with_reducible refine Br.dec (fun _ => ?_) (fun _ => ?_)) <;> try (exfalso; omega)) | ((with_reducible refine Br.eq (fun _ => ?_) (fun _ => ?_)) <;> try (exfalso; omega)) | ((with_reducible refine Br.ne (fun _ => ?_) (fun _ => ?_)) <;> try (exfalso; omega)) | ((with_reducible refine brNdec (fun _ => ?_) (fun _ => ?_)) <;> try (exfalso; omega)) | ((with_reducible refine brNeq (fun _ => ?_) (fun _ => ?_)) <;> try (exfalso; omega)) | with_reducible refine Br.intro (fun _ => ?_) (fun _ => ?_) | (with_reducible refine And.intro ?_ ?_; · omega) | simp -dsimp -implicitDefEqProofs (disch := omega) only [VCA, e6])
      have hm2 : fieldsM s = ((fsp s s.length).1).map fun x => seg s x.1 x.2 := by unfold fieldsM; rw [hsm]
      rw [hm2]
      exact fieldsF_rest s hs _ (by rw [← hsm]; exact hsl) (by rw [← hsm]; exact hsp.2) J.sub g2 g3 g4 _ e0 g1
end Go.Proofs.K
end
section
/- index.Words: the words of a class, each once. -/
set_option linter.unusedSimpArgs false
set_option linter.unusedVariables false
namespace Go.Proofs.K
open Go Go.Sim Go.Proofs
variable {G : Glob}
def c42 : SFun := ⟨(.seq (.reg [⟨(some 4), (.mv (.c (.int .i64 (0)))), none⟩]) (.seq (.seq (.reg [⟨(some 6), (.mv (.t 0)), none⟩, ⟨(some 7), (.len (.t 6)), none⟩, ⟨(some 8), (.mv (.c (.int .i64 (0)))), none⟩]) (.block 0 (.loop (.seq (.reg [⟨(some 9), (.bin .lss (.t 8) (.t 7)), none⟩]) (.seq (.cond (.t 9) .skip (.exit 0)) (.seq (.block 1 (.seq (.reg [⟨(some 10), (.mv (.t 8)), none⟩, ⟨(some 5), (.mv (.t 10)), none⟩]) (.seq (.reg [⟨(some 11), (.mv (.t 1)), none⟩, ⟨(some 12), (.mv (.t 0)), none⟩, ⟨(some 13), (.mv (.t 5)), none⟩, ⟨(some 14), (.idxA 1 (.t 12) (.t 13)), none⟩, ⟨(some 15), (.ld 1 false (.t 14)), none⟩, ⟨(some 16), (.bin .eql (.t 11) (.t 15)), none⟩]) (.cond (.t 16) (.seq (.reg [⟨(some 17), (.mv (.t 5)), none⟩, ⟨(some 4), (.mv (.t 17)), none⟩]) .ret) .skip)))) (.reg [⟨(some 18), (.bin .add (.t 8) (.c (.int .i64 (1)))), none⟩, ⟨(some 8), (.mv (.t 18)), none⟩]))))))) (.seq (.reg [⟨(some 4), (.mv (.c (.int .i64 (-1)))), none⟩]) .ret))), [(.tmp 4)]⟩
theorem hc42 : toSF Tryd.prog {} Tryd.f42 = some c42 := by kernel_rfl
theorem hn42 : (Tryd.f42.name == "runtime.NumGoroutine") = false := by kernel_rfl
theorem indexS_own {h0 h : Heap} {L : List (List UInt8)} {a : AVal} (A : Acc h0 9 1 (L.map eStr) a h) (w : List UInt8) (hL : L.length ≤ 1073741824) : DCalls (Pg G) 42 [a, .str w] h fun r h' => r = aInt (idxM (fun x => w == x) L) ∧ h' = h := by
  rcases A with ⟨hn, rfl⟩ | ⟨r, h0n, hr, rfl⟩
  · have hL0 : L = [] := by simpa using hn
    subst hL0
    refine dcalls_of_vc Tryd.func42 hn42 hc42 (by rw [Tryd.ntmps42]; simp) (by rw [Tryd.ntmps42]; decide) ?_
    simp -dsimp -implicitDefEqProofs (disch := omega) only [VCA, ↓reduceIte, reduceCtorEq, c42]
    refine LoopVC.intro (fun m e h' => m = 0 ∧ e 7 = aInt 0 ∧ e 8 = aInt 0 ∧ h' = h) 0 ⟨rfl, rfl, rfl, rfl⟩ ?_
    rintro m e h' ⟨rfl, e7, e8, rfl⟩
    repeat' (first | ((with_reducible refine Br.dec (fun _ => ?_) (fun _ => ?_)) <;> try (exfalso; omega)) | ((with_reducible refine Br.eq (fun _ => ?_) (fun _ => ?_)) <;> try (exfalso; omega)) | ((with_reducible refine Br.ne (fun _ => ?_) (fun _ => ?_)) <;> try (exfalso; omega)) | ((with_reducible refine brNdec (fun _ => ?_) (fun _ => ?_)) <;> try (exfalso; omega)) | ((with_reducible refine brNeq (fun _ => ?_) (fun _ => ?_)) <;> try (exfalso; omega)) | with_reducible refine Br.intro (fun _ => ?_) (fun _ => ?_) | (with_reducible refine And.intro ?_ ?_; · omega) | simp -dsimp -implicitDefEqProofs (disch := omega) only [VCA, ↓reduceIte, exists_eq_right_right, e7, e8])
    exact ⟨Sub.refl _, rfl⟩
  · refine dcalls_of_vc Tryd.func42 hn42 hc42 (by rw [Tryd.ntmps42]; simp) (by rw [Tryd.ntmps42]; decide) ?_
    simp -dsimp -implicitDefEqProofs (disch := omega) only [VCA, ↓reduceIte, reduceCtorEq, c42]
    refine LoopVC.intro (fun m e h' => ∃ k : Nat, k ≤ L.length ∧ m = L.length - k ∧ e 0 = .osl r 1 0 L.length ∧ e 1 = .str w ∧ e 7 = aInt L.length ∧ e 8 = aInt k ∧ h' = h ∧ ∀ j, j < k → (w == nth L j) = false) L.length ⟨0, by omega, by omega, (by show AVal.osl r 1 0 _ = _; first | rfl | rw [List.length_map]), rfl, rfl, rfl, rfl, fun j hj => absurd hj (Nat.not_lt_zero j)⟩ ?_
    rintro m e h' ⟨k, hk, rfl, e0, e1, e7, e8, rfl, hj⟩
    have hk2 : ∀ k, k < L.length → (L.map eStr).getD k [] = [.str (nth L k)] := fun k hk => by
      rw [List.getD_eq_getElem?_getD, List.getElem?_map, nth_some hk]; rfl
    simp -dsimp -implicitDefEqProofs (disch := omega) only [VCA, ↓reduceIte, e7, e8]
    refine Br.dec (fun hlt => ?_) (fun hge => ?_)
    · have hk' : k < L.length := by omega
      have hkk := hk2 k hk'
      repeat' (first | ((with_reducible refine Br.dec (fun _ => ?_) (fun _ => ?_)) <;> try (exfalso; omega)) | ((with_reducible refine Br.eq (fun _ => ?_) (fun _ => ?_)) <;> try (exfalso; omega)) | ((with_reducible refine Br.ne (fun _ => ?_) (fun _ => ?_)) <;> try (exfalso; omega)) | ((with_reducible refine brNdec (fun _ => ?_) (fun _ => ?_)) <;> try (exfalso; omega)) | ((with_reducible refine brNeq (fun _ => ?_) (fun _ => ?_)) <;> try (exfalso; omega)) | with_reducible refine Br.intro (fun _ => ?_) (fun _ => ?_) | (with_reducible refine And.intro ?_ ?_; · omega) | simp -dsimp -implicitDefEqProofs (disch := omega) only [VCA, Nat.reduceEqDiff, ↓reduceIte, reduceCtorEq, exists_eq_right_right, exists_eq_left', e0, e1, e7, e8, hr, hkk])
      · rename_i hh
        rw [idxM_some (p := fun x => w == x) hk' hj (by simpa using hh)]
        exact ⟨Sub.refl _, rfl⟩
      · rename_i hh
        refine ⟨_, by omega, k + 1, by omega, rfl, by omega, fun j hj' => ?_⟩
        by_cases h1 : j = k
        · subst h1; simpa using hh
        · exact hj j (by omega)
    · obtain rfl : k = L.length := by omega
      simp -dsimp -implicitDefEqProofs (disch := omega) only [VCA, ↓reduceIte, exists_eq_right_right]
      rw [idxM_none hj]
      exact ⟨Sub.refl _, rfl⟩
def c27 : SFun := ⟨(.seq (.reg [⟨(some 4), (.mv (.c (.bool false))), none⟩]) (.seq (.reg [⟨(some 5), (.mv (.t 0)), none⟩, ⟨(some 6), (.mv (.t 1)), none⟩, ⟨(some 7), (.call (.c (.fn 42 [] [])) [(.t 5), (.t 6)]), none⟩, ⟨(some 8), (.bin .geq (.t 7) (.c (.int .i64 (0)))), none⟩, ⟨(some 4), (.mv (.t 8)), none⟩]) .ret)), [(.tmp 4)]⟩
theorem hc27 : toSF Tryd.prog {} Tryd.f27 = some c27 := by kernel_rfl
theorem hn27 : (Tryd.f27.name == "runtime.NumGoroutine") = false := by kernel_rfl
theorem containsS_own {h0 h : Heap} {L : List (List UInt8)} {a : AVal} (A : Acc h0 9 1 (L.map eStr) a h) (w : List UInt8) (hL : L.length ≤ 1073741824) : DCalls (Pg G) 27 [a, .str w] h fun r h' => r = .bool (decide (w ∈ L)) ∧ h' = h := by
  have e1 : decide (0 ≤ idxM (fun x => w == x) L) = decide (w ∈ L) := by rw [idxM_any, Bool.eq_iff_iff]; simp
  refine dcalls_of_vc Tryd.func27 hn27 hc27 (by rw [Tryd.ntmps27]; simp) (by rw [Tryd.ntmps27]; decide) ?_
  simp -dsimp -implicitDefEqProofs (disch := omega) only [VCA, Nat.reduceEqDiff, ↓reduceIte, reduceCtorEq, c27]
  refine DCalls.of (indexS_own A w hL) ?_
  rintro v h' ⟨rfl, rfl⟩
  repeat' (first | ((with_reducible refine Br.dec (fun _ => ?_) (fun _ => ?_)) <;> try (exfalso; omega)) | ((with_reducible refine Br.eq (fun _ => ?_) (fun _ => ?_)) <;> try (exfalso; omega)) | ((with_reducible refine Br.ne (fun _ => ?_) (fun _ => ?_)) <;> try (exfalso; omega)) | ((with_reducible refine brNdec (fun _ => ?_) (fun _ => ?_)) <;> try (exfalso; omega)) | ((with_reducible refine brNeq (fun _ => ?_) (fun _ => ?_)) <;> try (exfalso; omega)) | with_reducible refine Br.intro (fun _ => ?_) (fun _ => ?_) | (with_reducible refine And.intro ?_ ?_; · omega) | simp -dsimp -implicitDefEqProofs (disch := omega) only [VCA, ↓reduceIte, exists_eq_right, e1])
  all_goals exact Sub.refl _
theorem foldW_len (F : List (List UInt8)) : ∀ L : List (List UInt8), (F.foldl addW L).length ≤ L.length + F.length := by
  induction F with
  | nil => intro L; exact Nat.le_refl _
  | cons x r ih =>
    intro L
    have h1 := ih (addW L x)
    have h2 : (addW L x).length ≤ L.length + 1 := by unfold addW; split <;> simp
    rw [List.foldl_cons, List.length_cons]; omega
theorem wordsM_len (s : List UInt8) : (wordsM s).length ≤ s.length + 1 := by
  have h1 := foldW_len (fieldsM s) []
  have h2 := fieldsM_len s
  unfold wordsM; simp only [List.length_nil] at h1; omega
def c10 : SFun := ⟨(.seq (.reg [⟨(some 2), (.mv (.c .emp)), none⟩]) (.seq (.reg [⟨(some 3), (.mv (.c .emp)), none⟩]) (.seq (.seq (.reg [⟨(some 6), (.mv (.t 0)), none⟩, ⟨(some 7), (.pcall 24 [(.t 6), (.c (.fn 25 [] []))]), none⟩, ⟨(some 8), (.len (.t 7)), none⟩, ⟨(some 9), (.mv (.c (.int .i64 (0)))), none⟩]) (.block 0 (.loop (.seq (.reg [⟨(some 10), (.bin .lss (.t 9) (.t 8)), none⟩]) (.seq (.cond (.t 10) .skip (.exit 0)) (.seq (.block 1 (.seq (.reg [⟨(some 11), (.idxA 1 (.t 7) (.t 9)), none⟩, ⟨(some 12), (.ld 1 false (.t 11)), none⟩, ⟨(some 5), (.mv (.t 12)), none⟩]) (.seq (.reg [⟨(some 13), (.mv (.t 3)), none⟩, ⟨(some 14), (.mv (.t 5)), none⟩, ⟨(some 15), (.call (.c (.fn 27 [] [])) [(.t 13), (.t 14)]), none⟩, ⟨(some 16), (.un .not (.t 15)), none⟩]) (.cond (.t 16) (.reg [⟨(some 17), (.mv (.t 3)), none⟩, ⟨(some 18), (.mv (.t 5)), none⟩, ⟨(some 19), (.bldF 9 1 [(.t 18)]), none⟩, ⟨(some 20), (.app 9 1 16 (.t 17) (.t 19)), none⟩, ⟨(some 3), (.mv (.t 20)), none⟩]) .skip)))) (.reg [⟨(some 21), (.bin .add (.t 9) (.c (.int .i64 (1)))), none⟩, ⟨(some 9), (.mv (.t 21)), none⟩]))))))) (.seq (.reg [⟨(some 22), (.mv (.t 3)), none⟩, ⟨(some 2), (.mv (.t 22)), none⟩]) .ret)))), [(.tmp 2)]⟩
theorem hc10 : toSF Tryd.prog {pure := [24]} Tryd.f10 = some c10 := by kernel_rfl
theorem hn10 : (Tryd.f10.name == "runtime.NumGoroutine") = false := by kernel_rfl
theorem words_ok (s : List UInt8) (hs : s.length ≤ 1000000) : PCalls (Pg G) 10 [.str s] (sl eStr (wordsM s)) := PCalls.acc (ty := 9) (sz := 1) fun h => by
  have cF := fieldsF_ok (G := G) s hs 25 words1_ok
  have fl := fieldsM_len s
  have fne := fieldsM_ne s
  unfold wordsM
  obtain ⟨F, hF⟩ : ∃ F, fieldsM s = F := ⟨_, rfl⟩
  rw [hF] at cF fl fne ⊢
  have key : ∀ k, k < F.length → (F.take (k + 1)).foldl addW [] = addW ((F.take k).foldl addW []) (nth F k) := fun k hk => by
    rw [take_snoc hk, List.foldl_append]; rfl
  refine dcalls_of_vc Tryd.func10 hn10 hc10 (by rw [Tryd.ntmps10]; simp) (by rw [Tryd.ntmps10]; decide) ?_
  simp -dsimp -implicitDefEqProofs (disch := omega) only [VCA, ↓reduceIte, reduceCtorEq, c10]
  repeat' (first | ((with_reducible refine Br.dec (fun _ => ?_) (fun _ => ?_)) <;> try (exfalso; omega)) | ((with_reducible refine Br.eq (fun _ => ?_) (fun _ => ?_)) <;> try (exfalso; omega)) | ((with_reducible refine Br.ne (fun _ => ?_) (fun _ => ?_)) <;> try (exfalso; omega)) | ((with_reducible refine brNdec (fun _ => ?_) (fun _ => ?_)) <;> try (exfalso; omega)) | ((with_reducible refine brNeq (fun _ => ?_) (fun _ => ?_)) <;> try (exfalso; omega)) | with_reducible refine Br.intro (fun _ => ?_) (fun _ => ?_) | (with_reducible apply pcallE.of; · exact cF) | (with_reducible refine And.intro ?_ ?_; · omega) | simp -dsimp -implicitDefEqProofs (disch := omega) only [VCA, ↓reduceIte])
  refine LoopVC.intro (fun m e h' => ∃ k : Nat, k ≤ F.length ∧ m = F.length - k ∧ e 7 = sl eStr F ∧ e 8 = aInt F.length ∧ e 9 = aInt k ∧ Acc h 9 1 (((F.take k).foldl addW []).map eStr) (e 3) h' ∧ Sim.Sub h h') F.length ⟨0, by omega, by omega, rfl, rfl, rfl, .nil, Sub.refl _⟩ ?_
  rintro m e h' ⟨k, hk, rfl, e7, e8, e9, A, S⟩
  simp -dsimp -implicitDefEqProofs (disch := omega) only [VCA, ↓reduceIte, e8, e9]
  refine Br.dec (fun hlt => ?_) (fun hge => ?_)
  · have hk' : k < F.length := by omega
    have hkey := key k hk'
    have hw := fne _ (nth_mem' hk')
    have hLl := foldW_len (F.take k) []
    obtain ⟨L, hL⟩ : ∃ L, (F.take k).foldl addW [] = L := ⟨_, rfl⟩
    rw [hL] at A hkey hLl
    simp only [List.length_nil, List.length_take] at hLl
    have hC := containsS_own (G := G) A (nth F k) (by omega)
    simp -dsimp -implicitDefEqProofs (disch := omega) only [VCA, Nat.reduceEqDiff, ↓reduceIte, eStr, e7, e9, eStr]
    refine ⟨by omega, DCalls.of hC ?_⟩
    rintro v h2 ⟨rfl, rfl⟩
    by_cases hin : nth F k ∈ L
    · have d1 : decide (nth F k ∈ L) = true := decide_eq_true hin
      have hadd : addW L (nth F k) = L := if_pos (.inr hin)
      simp -dsimp -implicitDefEqProofs (disch := omega) only [VCA, Nat.reduceEqDiff, ↓reduceIte, e7, e8, e9, d1]
      exact ⟨_, by omega, k + 1, by omega, rfl, by omega, by rw [hkey, hadd]; exact A, S⟩
    · have d1 : decide (nth F k ∈ L) = false := decide_eq_false hin
      have hadd : addW L (nth F k) = L ++ [nth F k] := if_neg (by rintro (h | h); exact hw h; exact hin h)
      simp -dsimp -implicitDefEqProofs (disch := omega) only [VCA, Nat.reduceEqDiff, ↓reduceIte, okParts, forall_eq, exists_eq_left, d1]
      refine A.app S (by simp only [List.length_map, List.length_cons, List.length_nil]; omega) (by simp only [List.length_map, List.length_cons, List.length_nil]; omega) fun a2 h3 A2 S3 => ?_
      simp -dsimp -implicitDefEqProofs (disch := omega) only [VCA, Nat.reduceEqDiff, ↓reduceIte, e7, e8, e9]
      exact ⟨_, by omega, k + 1, by omega, rfl, by omega, by rw [hkey, hadd, List.map_append]; exact A2, S3⟩
  · obtain rfl : k = F.length := by omega
    rw [List.take_length] at A
    simp -dsimp -implicitDefEqProofs (disch := omega) only [VCA, Nat.reduceEqDiff, ↓reduceIte]
    exact ⟨_, Sub.refl _, A, S⟩
end Go.Proofs.K
end
section
/- Numbers compared: cmp.Compare. -/
set_option linter.unusedSimpArgs false
set_option linter.unusedVariables false
namespace Go.Proofs.K
open Go Go.Sim Go.Proofs
variable {G : Glob}
def cmpI (a b : Int) : Int := if a < b then -1 else if b < a then 1 else 0
def c68 : SFun := ⟨(.seq (.reg [⟨(some 2), (.mv (.c (.bool false))), none⟩]) (.seq (.reg [⟨(some 3), (.mv (.t 0)), none⟩, ⟨(some 4), (.mv (.t 0)), none⟩, ⟨(some 5), (.bin .neq (.t 3) (.t 4)), none⟩, ⟨(some 2), (.mv (.t 5)), none⟩]) .ret)), [(.tmp 2)]⟩
theorem hc68 : toSF Tryd.prog {} Tryd.f68 = some c68 := by kernel_rfl
theorem hn68 : (Tryd.f68.name == "runtime.NumGoroutine") = false := by kernel_rfl
theorem isNaN_ok (a : Int) : PCalls (Pg G) 68 [aInt a] (.bool false) := fun h => by
  refine dcalls_of_vc Tryd.func68 hn68 hc68 (by rw [Tryd.ntmps68]; simp) (by rw [Tryd.ntmps68]; decide) ?_
  simp -dsimp -implicitDefEqProofs (disch := omega) only [VCA, Nat.reduceEqDiff, ↓reduceIte, reduceCtorEq, exists_eq_right_right, c68]
  repeat' (first | ((with_reducible refine Br.dec (fun _ => ?_) (fun _ => ?_)) <;> try (exfalso; omega)) | ((with_reducible refine Br.eq (fun _ => ?_) (fun _ => ?_)) <;> try (exfalso; omega)) | ((with_reducible refine Br.ne (fun _ => ?_) (fun _ => ?_)) <;> try (exfalso; omega)) | ((with_reducible refine brNdec (fun _ => ?_) (fun _ => ?_)) <;> try (exfalso; omega)) | ((with_reducible refine brNeq (fun _ => ?_) (fun _ => ?_)) <;> try (exfalso; omega)) | with_reducible refine Br.intro (fun _ => ?_) (fun _ => ?_) | (with_reducible refine And.intro ?_ ?_; · omega) | simp -dsimp -implicitDefEqProofs (disch := omega) only [VCA, pg_gl, ↓upd_none, Nat.reduceEqDiff, Nat.reduceBEq, Nat.reduceAdd, Nat.reduceSub, Nat.reduceMul, Nat.reduceLT, Nat.reduceLeDiff, ↓reduceIte, reduceCtorEq, rsOf, rootsOf, SOp.rd, SI.rd, SX.rd, rdL, rdO, rdP, okParts, eqCells, okEqCells, fillA, okFill, setAt, implies_true, forall_const, forall_eq, ne_eq, exists_eq_right_right, exists_eq_right, exists_eq_left, exists_eq_left', rootL, eInt, lit_eq])
  all_goals first | exact Sub.refl _ | exact ⟨Sub.refl _, by simp⟩
def c52 : SFun := ⟨(.seq (.reg [⟨(some 4), (.mv (.c (.int .i64 (0)))), none⟩]) (.seq (.reg [⟨(some 7), (.mv (.t 0)), none⟩, ⟨(some 8), (.pcall 68 [(.t 7)]), none⟩, ⟨(some 5), (.mv (.t 8)), none⟩]) (.seq (.reg [⟨(some 9), (.mv (.t 1)), none⟩, ⟨(some 10), (.pcall 68 [(.t 9)]), none⟩, ⟨(some 6), (.mv (.t 10)), none⟩]) (.seq (.seq (.reg [⟨(some 11), (.mv (.t 5)), none⟩]) (.cond (.t 11) (.seq (.seq (.reg [⟨(some 12), (.mv (.t 6)), none⟩]) (.cond (.t 12) (.seq (.reg [⟨(some 4), (.mv (.c (.int .i64 (0)))), none⟩]) .ret) .skip)) (.seq (.reg [⟨(some 4), (.mv (.c (.int .i64 (-1)))), none⟩]) .ret)) .skip)) (.seq (.seq (.reg [⟨(some 13), (.mv (.t 6)), none⟩]) (.cond (.t 13) (.seq (.reg [⟨(some 4), (.mv (.c (.int .i64 (1)))), none⟩]) .ret) .skip)) (.seq (.seq (.reg [⟨(some 14), (.mv (.t 0)), none⟩, ⟨(some 15), (.mv (.t 1)), none⟩, ⟨(some 16), (.bin .lss (.t 14) (.t 15)), none⟩]) (.cond (.t 16) (.seq (.reg [⟨(some 4), (.mv (.c (.int .i64 (-1)))), none⟩]) .ret) .skip)) (.seq (.seq (.reg [⟨(some 17), (.mv (.t 0)), none⟩, ⟨(some 18), (.mv (.t 1)), none⟩, ⟨(some 19), (.bin .gtr (.t 17) (.t 18)), none⟩]) (.cond (.t 19) (.seq (.reg [⟨(some 4), (.mv (.c (.int .i64 (1)))), none⟩]) .ret) .skip)) (.seq (.reg [⟨(some 4), (.mv (.c (.int .i64 (0)))), none⟩]) .ret)))))))), [(.tmp 4)]⟩
theorem hc52 : toSF Tryd.prog {pure := [68]} Tryd.f52 = some c52 := by kernel_rfl
theorem hn52 : (Tryd.f52.name == "runtime.NumGoroutine") = false := by kernel_rfl
theorem cmp_ok (a b : Int) : PCalls (Pg G) 52 [aInt a, aInt b] (aInt (cmpI a b)) := fun h => by
  refine dcalls_of_vc Tryd.func52 hn52 hc52 (by rw [Tryd.ntmps52]; simp) (by rw [Tryd.ntmps52]; decide) ?_
  simp -dsimp -implicitDefEqProofs (disch := omega) only [VCA, ↓reduceIte, reduceCtorEq, c52]
  repeat' (first | ((with_reducible refine Br.dec (fun _ => ?_) (fun _ => ?_)) <;> try (exfalso; omega)) | ((with_reducible refine Br.eq (fun _ => ?_) (fun _ => ?_)) <;> try (exfalso; omega)) | ((with_reducible refine Br.ne (fun _ => ?_) (fun _ => ?_)) <;> try (exfalso; omega)) | ((with_reducible refine brNdec (fun _ => ?_) (fun _ => ?_)) <;> try (exfalso; omega)) | ((with_reducible refine brNeq (fun _ => ?_) (fun _ => ?_)) <;> try (exfalso; omega)) | with_reducible refine Br.intro (fun _ => ?_) (fun _ => ?_) | (with_reducible apply pcallE.of; · exact isNaN_ok (G := G) a) | (with_reducible apply pcallE.of; · exact isNaN_ok (G := G) b) | (with_reducible refine And.intro ?_ ?_; · omega) | simp -dsimp -implicitDefEqProofs (disch := omega) only [VCA, Nat.reduceEqDiff, ↓reduceIte, reduceCtorEq, exists_eq_right_right])
  · rename_i q; exact ⟨Sub.refl _, by unfold cmpI; rw [if_pos q]⟩
  · rename_i q1 q; exact ⟨Sub.refl _, by unfold cmpI; rw [if_neg q1, if_pos q]⟩
  · rename_i q1 q; exact ⟨Sub.refl _, by unfold cmpI; rw [if_neg q1, if_neg q]⟩
end Go.Proofs.K
end
section
/- Texts compared; binary search in a list (plain contracts of the index's library calls). -/
set_option linter.unusedSimpArgs false
set_option linter.unusedVariables false
namespace Go.Proofs.K
open Go Go.Sim Go.Proofs
variable {G : Glob}
/-! ## the order of texts -/
abbrev ltS (a b : List UInt8) : Bool := Op.bytesLess a b
theorem ltS_irr : ∀ a : List UInt8, ltS a a = false
  | [] => rfl
  | x :: a => by
    have := ltS_irr a
    unfold ltS at this ⊢
    unfold Op.bytesLess
    simp [this]
theorem ltS_tri : ∀ a b : List UInt8, ltS a b = true ∨ a = b ∨ ltS b a = true
  | [], [] => .inr (.inl rfl)
  | [], _ :: _ => .inl rfl
  | _ :: _, [] => .inr (.inr rfl)
  | x :: a, y :: b => by
    unfold ltS
    unfold Op.bytesLess
    simp only [Bool.or_eq_true, Bool.and_eq_true, decide_eq_true_eq, beq_iff_eq, List.cons.injEq]
    rcases Nat.lt_trichotomy x.toNat y.toNat with h | h | h
    · exact .inl (.inl (UInt8.lt_iff_toNat_lt.2 h))
    · have e : x = y := UInt8.toNat_inj.1 h
      rcases ltS_tri a b with h | h | h
      · exact .inl (.inr ⟨e, h⟩)
      · exact .inr (.inl ⟨e, h⟩)
      · exact .inr (.inr (.inr ⟨e.symm, h⟩))
    · exact .inr (.inr (.inl (UInt8.lt_iff_toNat_lt.2 h)))
theorem ltS_trans : ∀ a b c : List UInt8, ltS a b = true → ltS b c = true → ltS a c = true
  | [], [], c, h, _ => by cases h
  | [], _ :: _, [], _, h => by cases h
  | [], _ :: _, _ :: _, _, _ => rfl
  | _ :: _, [], _, h, _ => by cases h
  | _ :: _, _ :: _, [], _, h => by cases h
  | x :: a, y :: b, z :: c, h1, h2 => by
    have ih := ltS_trans a b c
    unfold ltS at h1 h2 ih ⊢
    unfold Op.bytesLess at h1 h2 ⊢
    simp only [Bool.or_eq_true, Bool.and_eq_true, decide_eq_true_eq, beq_iff_eq, UInt8.lt_iff_toNat_lt] at h1 h2 ⊢
    rcases h1 with h1 | ⟨rfl, h1⟩
    · rcases h2 with h2 | ⟨rfl, h2⟩
      · left; omega
      · exact .inl h1
    · rcases h2 with h2 | ⟨rfl, h2⟩
      · exact .inl h2
      · exact .inr ⟨rfl, ih h1 h2⟩
theorem ltS_asym {a b : List UInt8} (h : ltS a b = true) : ltS b a = false := by
  cases h2 : ltS b a with
  | false => rfl
  | true => have := ltS_trans a b a h h2; rw [ltS_irr] at this; cases this
/-- texts compared: less, the same, more -/
def cmpS (a b : List UInt8) : Int := if ltS a b = true then -1 else if a = b then 0 else 1
theorem cmpS_neg {a b : List UInt8} : cmpS a b < 0 ↔ ltS a b = true := by
  unfold cmpS; split
  · rename_i h; exact ⟨fun _ => h, fun _ => by decide⟩
  · rename_i h; split <;> exact ⟨fun q => absurd q (by decide), fun q => absurd q h⟩
theorem cmpS_zero {a b : List UInt8} : cmpS a b = 0 ↔ a = b := by
  unfold cmpS; split
  · rename_i h; exact ⟨fun q => absurd q (by decide), fun q => by rw [q, ltS_irr] at h; cases h⟩
  · split
    · rename_i h; exact ⟨fun _ => h, fun _ => rfl⟩
    · rename_i h; exact ⟨fun q => absurd q (by decide), fun q => absurd q h⟩
theorem cmpZ_neg {a b : Int} : cmpI a b < 0 ↔ a < b := by unfold cmpI; (repeat' split) <;> omega
def c76 : SFun := ⟨(.seq (.reg [⟨(some 2), (.mv (.c (.bool false))), none⟩]) (.seq (.reg [⟨(some 3), (.mv (.t 0)), none⟩, ⟨(some 4), (.mv (.t 0)), none⟩, ⟨(some 5), (.bin .neq (.t 3) (.t 4)), none⟩, ⟨(some 2), (.mv (.t 5)), none⟩]) .ret)), [(.tmp 2)]⟩
theorem hc76 : toSF Tryd.prog {} Tryd.f76 = some c76 := by kernel_rfl
theorem hn76 : (Tryd.f76.name == "runtime.NumGoroutine") = false := by kernel_rfl
theorem nanS_ok (a : List UInt8) : PCalls (Pg G) 76 [.str a] (.bool false) := fun h => by
  refine dcalls_of_vc Tryd.func76 hn76 hc76 (by rw [Tryd.ntmps76]; simp) (by rw [Tryd.ntmps76]; decide) ?_
  simp -dsimp -implicitDefEqProofs (disch := omega) only [VCA, Nat.reduceEqDiff, ↓reduceIte, reduceCtorEq, exists_eq_right_right, c76]
  exact ⟨Sub.refl _, by simp⟩
def c65 : SFun := ⟨(.seq (.reg [⟨(some 4), (.mv (.c (.int .i64 (0)))), none⟩]) (.seq (.reg [⟨(some 7), (.mv (.t 0)), none⟩, ⟨(some 8), (.pcall 76 [(.t 7)]), none⟩, ⟨(some 5), (.mv (.t 8)), none⟩]) (.seq (.reg [⟨(some 9), (.mv (.t 1)), none⟩, ⟨(some 10), (.pcall 76 [(.t 9)]), none⟩, ⟨(some 6), (.mv (.t 10)), none⟩]) (.seq (.seq (.reg [⟨(some 11), (.mv (.t 5)), none⟩]) (.cond (.t 11) (.seq (.seq (.reg [⟨(some 12), (.mv (.t 6)), none⟩]) (.cond (.t 12) (.seq (.reg [⟨(some 4), (.mv (.c (.int .i64 (0)))), none⟩]) .ret) .skip)) (.seq (.reg [⟨(some 4), (.mv (.c (.int .i64 (-1)))), none⟩]) .ret)) .skip)) (.seq (.seq (.reg [⟨(some 13), (.mv (.t 6)), none⟩]) (.cond (.t 13) (.seq (.reg [⟨(some 4), (.mv (.c (.int .i64 (1)))), none⟩]) .ret) .skip)) (.seq (.seq (.reg [⟨(some 14), (.mv (.t 0)), none⟩, ⟨(some 15), (.mv (.t 1)), none⟩, ⟨(some 16), (.bin .lss (.t 14) (.t 15)), none⟩]) (.cond (.t 16) (.seq (.reg [⟨(some 4), (.mv (.c (.int .i64 (-1)))), none⟩]) .ret) .skip)) (.seq (.seq (.reg [⟨(some 17), (.mv (.t 0)), none⟩, ⟨(some 18), (.mv (.t 1)), none⟩, ⟨(some 19), (.bin .gtr (.t 17) (.t 18)), none⟩]) (.cond (.t 19) (.seq (.reg [⟨(some 4), (.mv (.c (.int .i64 (1)))), none⟩]) .ret) .skip)) (.seq (.reg [⟨(some 4), (.mv (.c (.int .i64 (0)))), none⟩]) .ret)))))))), [(.tmp 4)]⟩
theorem hc65 : toSF Tryd.prog {pure := [76]} Tryd.f65 = some c65 := by kernel_rfl
theorem hn65 : (Tryd.f65.name == "runtime.NumGoroutine") = false := by kernel_rfl
theorem cmpS_ok (a b : List UInt8) : PCalls (Pg G) 65 [.str a, .str b] (aInt (cmpS a b)) := fun h => by
  have n1 := nanS_ok (G := G) a
  have n2 := nanS_ok (G := G) b
  rcases ltS_tri a b with h1 | h1 | h1
  · have d : Op.bytesLess a b = true := h1
    have e : cmpS a b = -1 := if_pos h1
    rw [e]
    refine dcalls_of_vc Tryd.func65 hn65 hc65 (by rw [Tryd.ntmps65]; simp) (by rw [Tryd.ntmps65]; decide) ?_
    simp -dsimp -implicitDefEqProofs (disch := omega) only [VCA, ↓reduceIte, reduceCtorEq, c65]
    repeat' (first | ((with_reducible refine Br.dec (fun _ => ?_) (fun _ => ?_)) <;> try (exfalso; omega)) | ((with_reducible refine Br.eq (fun _ => ?_) (fun _ => ?_)) <;> try (exfalso; omega)) | ((with_reducible refine Br.ne (fun _ => ?_) (fun _ => ?_)) <;> try (exfalso; omega)) | ((with_reducible refine brNdec (fun _ => ?_) (fun _ => ?_)) <;> try (exfalso; omega)) | ((with_reducible refine brNeq (fun _ => ?_) (fun _ => ?_)) <;> try (exfalso; omega)) | with_reducible refine Br.intro (fun _ => ?_) (fun _ => ?_) | (with_reducible apply pcallE.of; · exact n1) | (with_reducible apply pcallE.of; · exact n2) | (with_reducible refine And.intro ?_ ?_; · omega) | simp -dsimp -implicitDefEqProofs (disch := omega) only [VCA, Nat.reduceEqDiff, ↓reduceIte, reduceCtorEq, exists_eq_right, d])
    all_goals first | exact Sub.refl _ | trace_state
  · subst h1
    have d : Op.bytesLess a a = false := ltS_irr a
    have e : cmpS a a = 0 := cmpS_zero.2 rfl
    have e2 : (a == a) = true := by simp
    rw [e]
    refine dcalls_of_vc Tryd.func65 hn65 hc65 (by rw [Tryd.ntmps65]; simp) (by rw [Tryd.ntmps65]; decide) ?_
    simp -dsimp -implicitDefEqProofs (disch := omega) only [VCA, ↓reduceIte, reduceCtorEq, c65]
    repeat' (first | ((with_reducible refine Br.dec (fun _ => ?_) (fun _ => ?_)) <;> try (exfalso; omega)) | ((with_reducible refine Br.eq (fun _ => ?_) (fun _ => ?_)) <;> try (exfalso; omega)) | ((with_reducible refine Br.ne (fun _ => ?_) (fun _ => ?_)) <;> try (exfalso; omega)) | ((with_reducible refine brNdec (fun _ => ?_) (fun _ => ?_)) <;> try (exfalso; omega)) | ((with_reducible refine brNeq (fun _ => ?_) (fun _ => ?_)) <;> try (exfalso; omega)) | with_reducible refine Br.intro (fun _ => ?_) (fun _ => ?_) | (with_reducible apply pcallE.of; · exact n1) | (with_reducible apply pcallE.of; · exact n2) | (with_reducible refine And.intro ?_ ?_; · omega) | simp -dsimp -implicitDefEqProofs (disch := omega) only [VCA, Nat.reduceEqDiff, ↓reduceIte, reduceCtorEq, exists_eq_right, d, e2])
    all_goals first | exact Sub.refl _ | trace_state
  · have d : Op.bytesLess a b = false := ltS_asym h1
    have hne : a ≠ b := fun q => by rw [q, ltS_irr] at h1; cases h1
    have e : cmpS a b = 1 := by unfold cmpS; rw [if_neg (by rw [show ltS a b = false from d]; decide), if_neg hne]
    have e2 : (a == b) = false := by simpa using hne
    rw [e]
    refine dcalls_of_vc Tryd.func65 hn65 hc65 (by rw [Tryd.ntmps65]; simp) (by rw [Tryd.ntmps65]; decide) ?_
    simp -dsimp -implicitDefEqProofs (disch := omega) only [VCA, ↓reduceIte, reduceCtorEq, c65]
    repeat' (first | ((with_reducible refine Br.dec (fun _ => ?_) (fun _ => ?_)) <;> try (exfalso; omega)) | ((with_reducible refine Br.eq (fun _ => ?_) (fun _ => ?_)) <;> try (exfalso; omega)) | ((with_reducible refine Br.ne (fun _ => ?_) (fun _ => ?_)) <;> try (exfalso; omega)) | ((with_reducible refine brNdec (fun _ => ?_) (fun _ => ?_)) <;> try (exfalso; omega)) | ((with_reducible refine brNeq (fun _ => ?_) (fun _ => ?_)) <;> try (exfalso; omega)) | with_reducible refine Br.intro (fun _ => ?_) (fun _ => ?_) | (with_reducible apply pcallE.of; · exact n1) | (with_reducible apply pcallE.of; · exact n2) | (with_reducible refine And.intro ?_ ?_; · omega) | simp -dsimp -implicitDefEqProofs (disch := omega) only [VCA, Nat.reduceEqDiff, ↓reduceIte, reduceCtorEq, exists_eq_right, d, e2])
    all_goals first | exact Sub.refl _ | trace_state
theorem cmpI_ok (a b : Int) : PCalls (Pg G) 52 [aInt a, aInt b] (aInt (cmpI a b)) := cmp_ok a b
end Go.Proofs.K
end
