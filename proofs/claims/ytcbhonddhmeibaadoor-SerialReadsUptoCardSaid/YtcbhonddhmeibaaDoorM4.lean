/- Texts of this claim, one behind the other. -/
import Derived.Test.YtcbhonddhmeibaaDoorProg
import Derived.Test.YtcbhonddhmeibaaDoorM3
import Derived.KernelRfl
import Derived.Test.YtcbhonddhmeibaaDoorRows
import Derived.Test.YtcbhonddhmeibaaDoorM2
import Derived.WalkKit
import Derived.ProofKit
import Derived.OpenShut
import Derived.JoinedCond
import Derived.Lib.LaidU8T
import Derived.PinnedBridge
import Derived.Shelf.Vars
import Derived.Below
import Derived.Test.YtcbhonddhmeibaaDoorCards
import Derived.Test.YtcbhonddhmeibaaDoorTie
import Derived.Deep.DeepHandedRow
import Derived.MakeChecks
import Derived.Shelf.Strings.Builder1
import Derived.Lib.RuneBytes
import Derived.Laws.BitsLemmas
import Derived.Shelf.Strings.Builder2
import Derived.Shelf.Strings.Trim
import Derived.Shelf.Small.Utf8
import Derived.Shelf.Small.Strs
import Derived.Shelf.Strings.BuilderF
import Derived.Shelf.Utf8.RuneCount
import Derived.Shelf.Strings.Search1
import Derived.Shelf.Strings.Search2
import Derived.Shelf.Strings.Search3
import Derived.Shelf.Strings.Cut
import Derived.Shelf.Strings.Count
import Derived.Shelf.LaysM
import Derived.Shelf.Strings.Shaped
import Derived.Shelf.Strings.Prefix
import Derived.Shelf.Strings.Split
import Derived.Shelf.Strings.Replace
import Derived.Shelf.Strings.Fold
import Derived.Shelf.Strings.SplitShaped
import Derived.Shelf.Unicode.Decode
import Derived.Shelf.Strings.Runes
import Derived.Shelf.Strings.RuneCount
import Derived.Shelf.Strings.IndexAny
import Derived.Shelf.Strings.AsciiSet
import Derived.Shelf.Strings.IndexAnyAll
import Derived.Shelf.Bits.Mul64
import Derived.Shelf.Strings.Repeat
import Derived.Shelf.Unicode.DecodeSlow
import Derived.Shelf.Unicode.DecodeAny
import Derived.Shelf.Unicode.DecodeLast
import Derived.Shelf.Unicode.CaseLookup
import Derived.Shelf.Unicode.CaseConvert
import Derived.Lib.IndexMore
import Derived.Shelf.Strings.SlTrimAscii
import Derived.Lib.IndexAny
section
namespace Go.Proofs.K
open Go Go.Sim Go.Proofs
noncomputable abbrev Pg (G : Glob) : PG := ⟨Tryd.prog, G⟩
theorem pg_gl (G : Glob) : (Pg G).gl = G := rfl
end Go.Proofs.K
end
section
set_option linter.unusedSimpArgs false
set_option linter.unusedVariables false
namespace Go.Proofs.YtcbhonddhmeibaaDoor
open Go Go.Sim Go.Proofs Go.ChangeShapes Go.WideShapes Go.ChangeAt Go.RowKit
theorem own : ownKnob Tryd.prog.godebug = none := by kernel_rfl
theorem bulkAll_mem {H : Type} {d : DataW H} {l : List (DataW H)} (h : d ∈ l) : Rows.uptoBulk d ≤ Rows.uptoBulkAll l := by
  induction l with
  | nil => cases h
  | cons x r ih =>
    simp only [Rows.uptoBulkAll]
    rcases List.mem_cons.1 h with e | e
    · subst e; omega
    · have := ih e; omega
theorem bulk_pos {H : Type} (d : DataW H) : 1 ≤ Rows.uptoBulk d := by
  cases d with
  | lit l => cases l <;> simp [Rows.uptoBulk]
  | _ => simp [Rows.uptoBulk]
theorem bulkAll_len {H : Type} (l : List (DataW H)) : l.length ≤ Rows.uptoBulkAll l := by
  induction l with
  | nil => simp [Rows.uptoBulkAll]
  | cons x r ih => have := bulk_pos x; simp only [Rows.uptoBulkAll, List.length_cons]; omega
theorem bulk (H : Type) : Bulk (Rows.uptoBulk (H := H)) where
  str l := by simp [Rows.uptoBulk]
  len es sp := by have := bulkAll_len es; simp only [Rows.uptoBulk]; omega
  elem es sp d h := by have := bulkAll_mem h; simp only [Rows.uptoBulk]; omega
  part ps d h := by have := bulkAll_mem h; simp only [Rows.uptoBulk]; omega
noncomputable def G0 : Glob := fun _ => .dead
theorem GRel.g0 (W : World) : GRel (K.Pg G0).gl (Sim.g0 W) W := fun _ => ⟨.dead, .dead _⟩
variable {H : Type} {enc : TypeId × Value → H} {w : World}
theorem rStr : Rdr enc Tryd.prog w Rows.uptoBulk 9 (fun l : List UInt8 => [.str l]) (fun k l => l.length ≤ k) := Rdr.str (bulk H) Tryd.underlying9
end Go.Proofs.YtcbhonddhmeibaaDoor
end
section
set_option linter.unusedSimpArgs false
set_option linter.unusedVariables false
namespace Go.Proofs.K
open Go Go.Sim Go.Proofs
theorem brNdec {A B : Prop} {p : Prop} [Decidable p] (h1 : ¬ p → A) (h2 : p → B) : Br (!decide p) A B .mk := ⟨fun h => h1 (by simpa using h), fun h => h2 (by simpa using h)⟩
theorem brNeq {A B : Prop} {α : Type} [BEq α] [LawfulBEq α] {a b : α} (h1 : a ≠ b → A) (h2 : a = b → B) : Br (!(a == b)) A B .mk := ⟨fun h => h1 (by simpa using h), fun h => h2 (by simpa using h)⟩
class BrC (t : Bool) (p q : outParam Prop) : Prop where
  pos : t = true → p
  neg : t = false → q
instance (priority := 100) brCi (t : Bool) : BrC t (t = true) (t = false) := ⟨id, id⟩
instance brCd (p : Prop) [Decidable p] : BrC (decide p) p (¬ p) := ⟨fun h => by simpa using h, fun h => by simpa using h⟩
instance brCe {α : Type} [BEq α] [LawfulBEq α] (a b : α) : BrC (a == b) (a = b) (a ≠ b) := ⟨fun h => by simpa using h, fun h => by simpa using h⟩
instance brCn {α : Type} [BEq α] [LawfulBEq α] (a b : α) : BrC (a != b) (a ≠ b) (a = b) := ⟨fun h => by simpa using h, fun h => by simpa using h⟩
instance brCf (p : Prop) [Decidable p] : BrC (!decide p) (¬ p) p := ⟨fun h => by simpa using h, fun h => by simpa using h⟩
instance brCg {α : Type} [BEq α] [LawfulBEq α] (a b : α) : BrC (!(a == b)) (a ≠ b) (a = b) := ⟨fun h => by simpa using h, fun h => by simpa using h⟩
theorem brC {A B : Prop} {t : Bool} {p q : Prop} [c : BrC t p q] (h1 : p → A) (h2 : q → B) : Br t A B .mk := ⟨fun h => h1 (c.pos h), fun h => h2 (c.neg h)⟩
theorem lit_eq {ty sz : Nat} {ps : List SX} {e : Env} {h : Heap} {K : AVal → Heap → Prop} {w : Wit K} : Hd (litE ty sz ps e h) K w = (okParts sz e ps ∧ ∀ r, h r = none → K (.osl r sz 0 ps.length) (upd h r (some ⟨ty, sz, ps.map fun x => cellsOf (ev e x)⟩))) := rfl
theorem nth_mem' {α : Type} [Inhabited α] {l : List α} {k : Nat} (h : k < l.length) : nth l k ∈ l := List.mem_of_getElem? (nth_some h)
theorem mem_nth {α : Type} [Inhabited α] {l : List α} {x : α} (h : x ∈ l) : ∃ k, k < l.length ∧ nth l k = x := by
  obtain ⟨k, hk⟩ := List.mem_iff_getElem?.1 h
  have hl := (List.getElem?_eq_some_iff.1 hk).1
  have := nth_some hl
  rw [hk] at this
  exact ⟨k, hl, (Option.some.inj this).symm⟩
theorem ext_nth {α : Type} [Inhabited α] {l m : List α} (hl : l.length = m.length) (h : ∀ j, j < l.length → nth l j = nth m j) : l = m := by
  apply List.ext_getElem? 
  intro i
  by_cases hi : i < l.length
  · rw [nth_some hi, nth_some (by omega), h i hi]
  · rw [List.getElem?_eq_none (by omega), List.getElem?_eq_none (by omega)]
theorem take_snoc {α : Type} [Inhabited α] {l : List α} {j : Nat} (h : j < l.length) : l.take (j + 1) = l.take j ++ [nth l j] := by
  rw [List.take_add_one, nth_some h]; rfl
def idxM {α : Type} (p : α → Bool) (l : List α) : Int := match l.findIdx? p with | some i => i | none => -1
theorem idxM_some {α : Type} [Inhabited α] {p : α → Bool} {l : List α} {k : Nat} (hk : k < l.length) (h1 : ∀ j, j < k → p (nth l j) = false) (h2 : p (nth l k) = true) : idxM p l = k := by
  have hn : ∀ j (hj : j < l.length), l[j] = nth l j := fun j hj => by have := nth_some hj; rw [List.getElem?_eq_getElem hj] at this; exact Option.some.inj this
  have : l.findIdx? p = some k := by
    rw [List.findIdx?_eq_some_iff_getElem]
    refine ⟨hk, by rw [hn k hk]; exact h2, fun j hj => ?_⟩
    rw [hn j (by omega), h1 j hj]; simp
  rw [idxM, this]
theorem idxM_none {α : Type} [Inhabited α] {p : α → Bool} {l : List α} (h1 : ∀ j, j < l.length → p (nth l j) = false) : idxM p l = -1 := by
  have hn : ∀ j (hj : j < l.length), l[j] = nth l j := fun j hj => by have := nth_some hj; rw [List.getElem?_eq_getElem hj] at this; exact Option.some.inj this
  have : l.findIdx? p = none := by
    rw [List.findIdx?_eq_none_iff]
    intro x hx
    obtain ⟨j, hj, rfl⟩ := List.getElem_of_mem hx
    rw [hn j hj]; exact h1 j hj
  rw [idxM, this]
theorem idxM_any {α : Type} (p : α → Bool) (l : List α) : decide (0 ≤ idxM p l) = l.any p := by
  unfold idxM
  cases h : l.findIdx? p with
  | none =>
    rw [List.findIdx?_eq_none_iff] at h
    have : l.any p = false := by rw [List.any_eq_false]; intro x hx; simp [h x hx]
    rw [this]; simp
  | some i =>
    have h2 : (l.findIdx? p).isSome = true := by rw [h]; rfl
    rw [List.findIdx?_isSome] at h2
    rw [h2]
    simp
def lastP {α : Type} (p : α → Bool) : List α → Nat
  | [] => 0
  | x :: r => match lastP p r with
    | 0 => if p x then 1 else 0
    | n + 1 => n + 2
def IsLastP {α : Type} [Inhabited α] (p : α → Bool) (l : List α) (k : Nat) : Prop := k ≤ l.length ∧ (k = 0 ∨ p (nth l (k - 1)) = true) ∧ ∀ j, k ≤ j → j < l.length → p (nth l j) = false
theorem lastP_is {α : Type} [Inhabited α] (p : α → Bool) (l : List α) : IsLastP p l (lastP p l) := by
  induction l with
  | nil => exact ⟨by simp [lastP], .inl rfl, fun j _ h => by simp at h⟩
  | cons x r ih =>
    obtain ⟨h1, h2, h3⟩ := ih
    cases hm : lastP p r with
    | zero =>
      rw [hm] at h3
      by_cases hx : p x = true
      · simp only [lastP, hm, hx, if_true]
        refine ⟨by simp, .inr (by simpa [nth] using hx), fun j hj hl => ?_⟩
        obtain ⟨j, rfl⟩ : ∃ i, j = i + 1 := ⟨j - 1, by omega⟩
        exact h3 j (by omega) (by simpa using hl)
      · simp only [lastP, hm, hx]
        refine ⟨by simp, .inl (by simp), fun j hj hl => ?_⟩
        cases j with
        | zero => simpa [nth] using hx
        | succ j => exact h3 j (by omega) (by simpa using hl)
    | succ n =>
      rw [hm] at h1 h2 h3
      simp only [lastP, hm]
      refine ⟨by simp; omega, .inr ?_, fun j hj hl => ?_⟩
      · rcases h2 with h2 | h2
        · omega
        · simpa [nth] using h2
      · obtain ⟨j, rfl⟩ : ∃ i, j = i + 1 := ⟨j - 1, by omega⟩
        exact h3 j (by omega) (by simpa using hl)
theorem IsLastP.eq {α : Type} [Inhabited α] {p : α → Bool} {l : List α} {k : Nat} (h : IsLastP p l k) : lastP p l = k := by
  obtain ⟨a1, a2, a3⟩ := lastP_is p l
  obtain ⟨b1, b2, b3⟩ := h
  rcases Nat.lt_trichotomy (lastP p l) k with h | h | h
  · rcases b2 with b2 | b2
    · omega
    · rw [a3 _ (by omega) (by omega)] at b2; cases b2
  · exact h
  · rcases a2 with a2 | a2
    · omega
    · rw [b3 _ (by omega) (by omega)] at a2; cases a2
theorem u8_all {p : UInt8 → Bool} (h : ((List.range 256).all fun n => p (UInt8.ofNat n)) = true) (b : UInt8) : p b = true := by
  have := List.all_eq_true.1 h b.toNat (List.mem_range.2 b.toNat_lt)
  simpa using this
theorem nth_set {α : Type} [Inhabited α] (l : List α) (i j : Nat) (x : α) (hi : i < l.length) : nth (l.set i x) j = if j = i then x else nth l j := by
  unfold nth
  rw [List.getD_eq_getElem?_getD, List.getD_eq_getElem?_getD, List.getElem?_set]
  by_cases h : i = j
  · subst h; simp [hi]
  · rw [if_neg h, if_neg (fun e => h e.symm)]
end Go.Proofs.K
end
section
set_option linter.unusedSimpArgs false
set_option linter.unusedVariables false
namespace Go.Proofs.K
open Go Go.Sim Go.Proofs
variable {G : Glob}
def intsA (k : IntKind) (l : List Int) : List AVal := l.map fun x => .int k x
def firstL : List Int := (List.range 256).map fun c => (Lib.firstT c : Int)
def acceptL : List Int := (List.range 32).map fun i => if i % 2 = 0 then (Lib.accLo (i / 2) : Int) else Lib.accHi (i / 2)
theorem firstL_at (c : Nat) (h : c < 256) : firstL[c]? = some (Lib.firstT c : Int) := by simp [firstL, h]
theorem acceptL_lo (i : Nat) (h : i < 16) : acceptL[2 * i]? = some (Lib.accLo i : Int) := by
  have : 2 * i < 32 := by omega
  simp [acceptL, this]
theorem acceptL_hi (i : Nat) (h : i < 16) : acceptL[2 * i + 1]? = some (Lib.accHi i : Int) := by
  have h1 : 2 * i + 1 < 32 := by omega
  have h2 : (2 * i + 1) / 2 = i := by omega
  have h3 : (2 * i + 1) % 2 = 1 := by omega
  simp [acceptL, h1, h2, h3]
theorem vrel_ints {w : World} {b : Nat} {k : IntKind} {l : List Int} (hl : l ≠ []) (h : ∀ (j : Nat) (x : Int), l[j]? = some x → w.cell? ⟨b, j, none⟩ = some (.int k x)) : VRel (g0 w) w (.pointer (some ⟨b, 0, none⟩)) (.pin (intsA k l)) := by
  have e : ∀ j, Addr.add ⟨b, 0, none⟩ j = ⟨b, j, none⟩ := fun j => by unfold Addr.add; split <;> simp_all
  refine VRel.pin_mk rfl ?_ fun j a hj => ?_
  · show b < w.heap.size
    obtain ⟨x, r, rfl⟩ := List.exists_cons_of_ne_nil hl
    have h := h 0 x rfl
    unfold World.cell? at h
    split at h
    · rename_i c _ _ hc
      exact (Array.getElem?_eq_some_iff.1 hc).1
    · cases h
  · rw [intsA, List.getElem?_map, Option.map_eq_some_iff] at hj
    obtain ⟨x, hx, rfl⟩ := hj
    exact ⟨.int k x, by rw [e]; exact h j x hx, rfl, .int k x⟩
theorem dat_ints (k : IntKind) (l : List Int) : Dat (.pin (intsA k l)) := .pin _ fun c hc => by
  obtain ⟨x, _, rfl⟩ := List.mem_map.1 hc
  exact .int k x
theorem ofBelow {P : PG} {f : Nat} {ls : List AVal} {r : AVal} (hc : Callable P.p f)
    (h : ∀ (g : Ghost) (w : World) (vs : Array Value), GRel P.gl g w → VRelL g w vs ls → Calls P.p f vs w fun e w' => ∃ v, e = .returned v ∧ RowKit.Below w.heap.size w w' ∧ ∀ g' w', VRel g' w' v r) : PCalls P f ls r :=
  fun h0 => ⟨hc, fun g w vs H GR V => (h g w vs GR V).mono fun e w' ⟨v, he, hw, hv⟩ => by
    obtain ⟨S, H'⟩ := H.ext (w' := w') (fun b hb => hw.block b hb) hw.os hw.tape hw.output hw.size
    exact ⟨v, r, h0, g, he, ⟨rfl, rfl⟩, H', hv g w', S⟩⟩
end Go.Proofs.K
end
section
set_option linter.unusedSimpArgs false
set_option linter.unusedVariables false
namespace Go.Proofs.YtcbhonddhmeibaaDoor
open Go Go.Sim Go.Proofs Go.Proofs.K Go.ChangeShapes Go.WideShapes Go.ChangeAt Go.RowKit Go.Shelf Go.Lib
noncomputable def GT (m : Int) : Glob := fun b => if b = 0 then .pin [aInt m] else if b = 1 then .pin (intsA .u8 firstL) else if b = 2 then .pin (intsA .u8 acceptL) else .dead
theorem GT_max (m : Int) : ∃ m', GT m 0 = .pin [aInt m'] := ⟨m, if_pos rfl⟩
def tren : Ren := ⟨fun n => n, fun | 5 => 5 | 119 => 142 | 138 => 144 | 139 => 145 | n => n, fun | 3 => 1 | 4 => 2 | n => n⟩
theorem utypes : U8Types Tryd.prog tren := { t5 := Tryd.underlying5, t119 := Tryd.underlying142, t138 := Tryd.underlying144, t139 := Tryd.underlying145 }
theorem uextra : U8Extra Tryd.prog tren := { n3 := by kernel_rfl, n4 := by kernel_rfl, y3 := by kernel_rfl, y4 := by kernel_rfl, c5 := by kernel_rfl, c119 := by kernel_rfl, c138 := by kernel_rfl }
def laidL : List (String × DataW Unit) := [("unicode/utf8.acceptRanges", Rows.laid_unicode_utf8_acceptRanges), ("unicode/utf8.first", Rows.laid_unicode_utf8_first)]
theorem acc_eq : (Rows.laid_unicode_utf8_acceptRanges : DataW Unit) = acceptData := by kernel_rfl
theorem tabs_met {W : World} (hL : laidMetH Tryd.prog laidL W) : Utf8Tabs 1 2 W := by
  rw [MakeChecks.laidMetH_plain _ _ _ (by kernel_rfl)] at hL
  have h4 := laidMet.reads hL (n := "unicode/utf8.acceptRanges") (d := Rows.laid_unicode_utf8_acceptRanges) (by simp [laidL])
  have h3 := laidMet.reads hL (n := "unicode/utf8.first") (d := Rows.laid_unicode_utf8_first) (by simp [laidL])
  rw [acc_eq] at h4
  have e3 : Rows.laid_unicode_utf8_first = firstData := Pinned.utf8First_eq
  rw [e3] at h3
  exact utf8Tabs_of_readsT utypes uextra h3 h4
theorem firstL_get {j : Nat} {x : Int} (h : firstL[j]? = some x) : j < 256 ∧ x = (firstT j : Int) := by
  have hl : firstL.length = 256 := by simp [firstL]
  have hj := (List.getElem?_eq_some_iff.1 h).1
  rw [firstL_at j (by omega)] at h
  exact ⟨by omega, (Option.some.inj h).symm⟩
theorem acceptL_get {j : Nat} {x : Int} (h : acceptL[j]? = some x) : j < 32 ∧ ((∃ i, j = 2 * i ∧ x = (accLo i : Int)) ∨ ∃ i, j = 2 * i + 1 ∧ x = (accHi i : Int)) := by
  have hl : acceptL.length = 32 := by simp [acceptL]
  have hj := (List.getElem?_eq_some_iff.1 h).1
  refine ⟨by omega, ?_⟩
  obtain ⟨i, rfl | rfl⟩ : ∃ i, j = 2 * i ∨ j = 2 * i + 1 := ⟨j / 2, by omega⟩
  · rw [acceptL_lo i (by omega)] at h
    exact .inl ⟨i, rfl, (Option.some.inj h).symm⟩
  · rw [acceptL_hi i (by omega)] at h
    exact .inr ⟨i, rfl, (Option.some.inj h).symm⟩
theorem GT_rel {W : World} (hsh : W.ShapedOpen Tryd.prog) (hL : laidMetH Tryd.prog laidL W) : ∃ m, GRel (Pg (GT m)).gl (Sim.g0 W) W := by
  obtain ⟨m, hm⟩ := Go.Proofs.cell_of_shapedOpen_int (g := 0) (t := 3) (zero := #[.int .i64 0]) (k := .i64) hsh (by decide +kernel) (by kernel_rfl) rfl (by kernel_rfl) (by kernel_rfl) Tryd.underlying3
  obtain ⟨T3, T4⟩ := tabs_met hL
  refine ⟨m, fun b => ?_⟩
  show Dat (GT m b) ∧ VRel _ _ _ (GT m b)
  unfold GT
  split
  · rename_i h; subst h; exact ⟨.pin _ (fun c hc => by simp at hc; subst hc; exact .int _ _), VRel.pinInt hm⟩
  · split
    · rename_i h; subst h
      refine ⟨dat_ints _ _, vrel_ints (by decide +kernel) fun j x hj => ?_⟩
      obtain ⟨h1, rfl⟩ := firstL_get hj
      exact T3 j h1
    · split
      · rename_i h; subst h
        refine ⟨dat_ints _ _, vrel_ints (by decide +kernel) fun j x hj => ?_⟩
        obtain ⟨h1, ⟨i, rfl, rfl⟩ | ⟨i, rfl, rfl⟩⟩ := acceptL_get hj
        · exact (T4 i (by omega)).1
        · exact (T4 i (by omega)).2
      · exact ⟨.dead, .dead _⟩
noncomputable def lay8 (l : List Int) : Obj → Obj
  | .cells _ t frozen => .cells (l.map fun x => Value.int .u8 x).toArray t frozen
  | o => o
noncomputable def laidWorld (os : Os) : World :=
  { World.holding Tryd.prog os ⟨#[], #[], []⟩ with heap := ((World.holding Tryd.prog os ⟨#[], #[], []⟩).heap.modify 1 (lay8 firstL)).modify 2 (lay8 acceptL) }
end Go.Proofs.YtcbhonddhmeibaaDoor
end
section
set_option linter.unusedSimpArgs false
set_option linter.unusedVariables false
namespace Go.Proofs.K
open Go Go.Sim Go.Proofs
variable {G : Glob}
structure HAttr where
  name : List UInt8
  value : List UInt8
deriving DecidableEq, Inhabited
def eAttr (a : HAttr) : List AVal := [.str a.name, .str a.value]
instance : LenE eAttr 2 := ⟨fun _ => rfl⟩
theorem eAttr_beq (x y : HAttr) : (x == y) = (x.name == y.name && x.value == y.value) := by
  cases x; cases y; rw [Bool.eq_iff_iff]; simp
def c50 : SFun := ⟨.seq (.reg [⟨some 4, .mv (.c (.bool false)), none⟩]) (.seq (.seq (.reg [⟨some 6, .mv (.t 0), none⟩, ⟨some 7, .len (.t 6), none⟩, ⟨some 8, .mv (.t 1), none⟩, ⟨some 9, .len (.t 8), none⟩, ⟨some 10, .bin .neq (.t 7) (.t 9), none⟩]) (.cond (.t 10) (.seq (.reg [⟨some 4, .mv (.c (.bool false)), none⟩]) .ret) .skip)) (.seq (.seq (.reg [⟨some 5, .mv (.c (.int .i64 0)), none⟩]) (.block 0 (.loop (.seq (.seq (.reg [⟨some 11, .mv (.t 5), none⟩, ⟨some 12, .mv (.t 0), none⟩, ⟨some 13, .len (.t 12), none⟩, ⟨some 14, .bin .lss (.t 11) (.t 13), none⟩]) (.cond (.t 14) .skip (.exit 0))) (.seq (.block 1 (.seq (.dreg [(⟨some 17, .mv (.t 0), none⟩, none), (⟨some 18, .mv (.t 5), none⟩, none), (⟨some 19, .idxA 2 (.t 17) (.t 18), none⟩, none), (⟨some 20, .ld 2 true (.t 19), none⟩, none), (⟨some 21, .mv (.t 1), none⟩, none), (⟨some 22, .mv (.t 5), none⟩, none), (⟨some 23, .idxA 2 (.t 21) (.t 22), none⟩, none), (⟨some 24, .ld 2 true (.t 23), none⟩, none), (⟨some 25, .eqs true [1, 1] (.t 20) (.t 24), none⟩, none)]) (.cond (.t 25) (.seq (.reg [⟨some 4, .mv (.c (.bool false)), none⟩]) .ret) .skip))) (.reg [⟨some 15, .mv (.t 5), none⟩, ⟨some 16, .bin .add (.t 15) (.c (.int .i64 1)), none⟩, ⟨some 5, .mv (.t 16), none⟩])))))) (.seq (.reg [⟨some 4, .mv (.c (.bool true)), none⟩]) .ret))), [.tmp 4]⟩
theorem hc50 : toSF Tryd.prog {} Tryd.f50 = some c50 := by kernel_rfl
theorem hn50 : (Tryd.f50.name == "runtime.NumGoroutine") = false := by kernel_rfl
theorem sameA_ok (a b : List HAttr) (ha : a.length ≤ 1073741824) (hb : b.length ≤ 1073741824) : PCalls (Pg G) 50 [sl eAttr a, sl eAttr b] (.bool (a == b)) := by
  intro h
  refine dcalls_of_vc Tryd.func50 hn50 hc50 (by rw [Tryd.ntmps50]; simp) (by rw [Tryd.ntmps50]; decide) ?_
  simp -dsimp -implicitDefEqProofs (disch := omega) only [VCA, pg_gl, ↓upd_none, Nat.reduceEqDiff, Nat.reduceBEq, Nat.reduceAdd, Nat.reduceSub, Nat.reduceMul, Nat.reduceLT, Nat.reduceLeDiff, ↓reduceIte, reduceCtorEq, rsOf, rootsOf, SOp.rd, SI.rd, SX.rd, rdL, rdO, rdP, okParts, eqCells, okEqCells, fillA, okFill, setAt, implies_true, forall_const, forall_eq, ne_eq, exists_eq_right_right, exists_eq_right, exists_eq_left, exists_eq_left', rootL, eAttr, eInt, c50]
  refine Br.ne (fun h1 => ?_) (fun h1 => ?_)
  · simp -dsimp -implicitDefEqProofs (disch := omega) only [VCA, pg_gl, ↓upd_none, Nat.reduceEqDiff, Nat.reduceBEq, Nat.reduceAdd, Nat.reduceSub, Nat.reduceMul, Nat.reduceLT, Nat.reduceLeDiff, ↓reduceIte, reduceCtorEq, rsOf, rootsOf, SOp.rd, SI.rd, SX.rd, rdL, rdO, rdP, okParts, eqCells, okEqCells, fillA, okFill, setAt, implies_true, forall_const, forall_eq, ne_eq, exists_eq_right_right, exists_eq_right, exists_eq_left, exists_eq_left', rootL, eAttr, eInt]
    have : ¬ a = b := fun e => h1 (by rw [e])
    first | exact Sub.refl _ | exact ⟨Sub.refl _, by simp [this]⟩
  · simp -dsimp -implicitDefEqProofs (disch := omega) only [VCA, pg_gl, ↓upd_none, Nat.reduceEqDiff, Nat.reduceBEq, Nat.reduceAdd, Nat.reduceSub, Nat.reduceMul, Nat.reduceLT, Nat.reduceLeDiff, ↓reduceIte, reduceCtorEq, rsOf, rootsOf, SOp.rd, SI.rd, SX.rd, rdL, rdO, rdP, okParts, eqCells, okEqCells, fillA, okFill, setAt, implies_true, forall_const, forall_eq, ne_eq, exists_eq_right_right, exists_eq_right, exists_eq_left, exists_eq_left', rootL, eAttr, eInt]
    have h1' : a.length = b.length := by omega
    refine LoopVC.intro (fun m e h' => ∃ k : Nat, k ≤ a.length ∧ m = a.length - k ∧ e 0 = sl eAttr a ∧ e 1 = sl eAttr b ∧ e 5 = aInt k ∧ h' = h ∧ ∀ j, j < k → nth a j = nth b j) a.length ⟨0, by omega, by omega, rfl, rfl, rfl, rfl, fun j hj => absurd hj (Nat.not_lt_zero j)⟩ ?_
    rintro m e h' ⟨k, hk, rfl, he0, he1, he5, rfl, hj⟩
    simp -dsimp -implicitDefEqProofs (disch := omega) only [VCA, pg_gl, ↓upd_none, Nat.reduceEqDiff, Nat.reduceBEq, Nat.reduceAdd, Nat.reduceSub, Nat.reduceMul, Nat.reduceLT, Nat.reduceLeDiff, ↓reduceIte, reduceCtorEq, rsOf, rootsOf, SOp.rd, SI.rd, SX.rd, rdL, rdO, rdP, okParts, eqCells, okEqCells, fillA, okFill, setAt, implies_true, forall_const, forall_eq, ne_eq, exists_eq_right_right, exists_eq_right, exists_eq_left, exists_eq_left', rootL, eAttr, eInt, he0, he1, he5]
    refine Br.dec (fun hlt => ?_) (fun hge => ?_)
    · simp -dsimp -implicitDefEqProofs (disch := omega) only [VCA, pg_gl, ↓upd_none, Nat.reduceEqDiff, Nat.reduceBEq, Nat.reduceAdd, Nat.reduceSub, Nat.reduceMul, Nat.reduceLT, Nat.reduceLeDiff, ↓reduceIte, reduceCtorEq, rsOf, rootsOf, SOp.rd, SI.rd, SX.rd, rdL, rdO, rdP, okParts, eqCells, okEqCells, fillA, okFill, setAt, implies_true, forall_const, forall_eq, ne_eq, exists_eq_right_right, exists_eq_right, exists_eq_left, exists_eq_left', rootL, eAttr, eInt, he0, he1, he5]
      refine ⟨by omega, by omega, ?_⟩
      refine Br.intro (fun h2 => ?_) (fun h2 => ?_)
      · simp -dsimp -implicitDefEqProofs (disch := omega) only [VCA, pg_gl, ↓upd_none, Nat.reduceEqDiff, Nat.reduceBEq, Nat.reduceAdd, Nat.reduceSub, Nat.reduceMul, Nat.reduceLT, Nat.reduceLeDiff, ↓reduceIte, reduceCtorEq, rsOf, rootsOf, SOp.rd, SI.rd, SX.rd, rdL, rdO, rdP, okParts, eqCells, okEqCells, fillA, okFill, setAt, implies_true, forall_const, forall_eq, ne_eq, exists_eq_right_right, exists_eq_right, exists_eq_left, exists_eq_left', rootL, eAttr, eInt]
        have : ¬ a = b := fun e => by subst e; simp at h2
        first | exact Sub.refl _ | exact ⟨Sub.refl _, by simp [this]⟩
      · simp -dsimp -implicitDefEqProofs (disch := omega) only [VCA, pg_gl, ↓upd_none, Nat.reduceEqDiff, Nat.reduceBEq, Nat.reduceAdd, Nat.reduceSub, Nat.reduceMul, Nat.reduceLT, Nat.reduceLeDiff, ↓reduceIte, reduceCtorEq, rsOf, rootsOf, SOp.rd, SI.rd, SX.rd, rdL, rdO, rdP, okParts, eqCells, okEqCells, fillA, okFill, setAt, implies_true, forall_const, forall_eq, ne_eq, exists_eq_right_right, exists_eq_right, exists_eq_left, exists_eq_left', rootL, eAttr, eInt, he0, he1, he5]
        refine ⟨_, ?_, k + 1, by omega, rfl, by omega, fun j hj' => ?_⟩
        · omega
        · by_cases h3 : j = k
          · subst h3
            have : (nth a j == nth b j) = true := by rw [eAttr_beq]; simpa using h2
            simpa using this
          · exact hj j (by omega)
    · simp -dsimp -implicitDefEqProofs (disch := omega) only [VCA, pg_gl, ↓upd_none, Nat.reduceEqDiff, Nat.reduceBEq, Nat.reduceAdd, Nat.reduceSub, Nat.reduceMul, Nat.reduceLT, Nat.reduceLeDiff, ↓reduceIte, reduceCtorEq, rsOf, rootsOf, SOp.rd, SI.rd, SX.rd, rdL, rdO, rdP, okParts, eqCells, okEqCells, fillA, okFill, setAt, implies_true, forall_const, forall_eq, ne_eq, exists_eq_right_right, exists_eq_right, exists_eq_left, exists_eq_left', rootL, eAttr, eInt]
      have : a = b := ext_nth h1' (fun j hj' => hj j (by omega))
      first | exact Sub.refl _ | exact ⟨Sub.refl _, by simp [this]⟩
def c51 : SFun := ⟨.seq (.reg [⟨some 4, .mv (.c (.bool false)), none⟩]) (.seq (.seq (.reg [⟨some 6, .mv (.t 0), none⟩, ⟨some 7, .len (.t 6), none⟩, ⟨some 8, .mv (.t 1), none⟩, ⟨some 9, .len (.t 8), none⟩, ⟨some 10, .bin .neq (.t 7) (.t 9), none⟩]) (.cond (.t 10) (.seq (.reg [⟨some 4, .mv (.c (.bool false)), none⟩]) .ret) .skip)) (.seq (.seq (.reg [⟨some 5, .mv (.c (.int .i64 0)), none⟩]) (.block 0 (.loop (.seq (.seq (.reg [⟨some 11, .mv (.t 5), none⟩, ⟨some 12, .mv (.t 0), none⟩, ⟨some 13, .len (.t 12), none⟩, ⟨some 14, .bin .lss (.t 11) (.t 13), none⟩]) (.cond (.t 14) .skip (.exit 0))) (.seq (.block 1 (.seq (.dreg [(⟨some 17, .mv (.t 0), none⟩, none), (⟨some 18, .mv (.t 5), none⟩, none), (⟨some 19, .idxA 1 (.t 17) (.t 18), none⟩, none), (⟨some 20, .ld 1 false (.t 19), none⟩, none), (⟨some 21, .mv (.t 1), none⟩, none), (⟨some 22, .mv (.t 5), none⟩, none), (⟨some 23, .idxA 1 (.t 21) (.t 22), none⟩, none), (⟨some 24, .ld 1 false (.t 23), none⟩, none), (⟨some 25, .bin .neq (.t 20) (.t 24), none⟩, none)]) (.cond (.t 25) (.seq (.reg [⟨some 4, .mv (.c (.bool false)), none⟩]) .ret) .skip))) (.reg [⟨some 15, .mv (.t 5), none⟩, ⟨some 16, .bin .add (.t 15) (.c (.int .i64 1)), none⟩, ⟨some 5, .mv (.t 16), none⟩])))))) (.seq (.reg [⟨some 4, .mv (.c (.bool true)), none⟩]) .ret))), [.tmp 4]⟩
theorem hc51 : toSF Tryd.prog {} Tryd.f51 = some c51 := by kernel_rfl
theorem hn51 : (Tryd.f51.name == "runtime.NumGoroutine") = false := by kernel_rfl
theorem sameN_ok (a b : List Int) (ha : a.length ≤ 1073741824) (hb : b.length ≤ 1073741824) : PCalls (Pg G) 51 [sl eInt a, sl eInt b] (.bool (a == b)) := by
  intro h
  refine dcalls_of_vc Tryd.func51 hn51 hc51 (by rw [Tryd.ntmps51]; simp) (by rw [Tryd.ntmps51]; decide) ?_
  simp -dsimp -implicitDefEqProofs (disch := omega) only [VCA, pg_gl, ↓upd_none, Nat.reduceEqDiff, Nat.reduceBEq, Nat.reduceAdd, Nat.reduceSub, Nat.reduceMul, Nat.reduceLT, Nat.reduceLeDiff, ↓reduceIte, reduceCtorEq, rsOf, rootsOf, SOp.rd, SI.rd, SX.rd, rdL, rdO, rdP, okParts, eqCells, okEqCells, fillA, okFill, setAt, implies_true, forall_const, forall_eq, ne_eq, exists_eq_right_right, exists_eq_right, exists_eq_left, exists_eq_left', rootL, eAttr, eInt, c51]
  refine Br.ne (fun h1 => ?_) (fun h1 => ?_)
  · simp -dsimp -implicitDefEqProofs (disch := omega) only [VCA, pg_gl, ↓upd_none, Nat.reduceEqDiff, Nat.reduceBEq, Nat.reduceAdd, Nat.reduceSub, Nat.reduceMul, Nat.reduceLT, Nat.reduceLeDiff, ↓reduceIte, reduceCtorEq, rsOf, rootsOf, SOp.rd, SI.rd, SX.rd, rdL, rdO, rdP, okParts, eqCells, okEqCells, fillA, okFill, setAt, implies_true, forall_const, forall_eq, ne_eq, exists_eq_right_right, exists_eq_right, exists_eq_left, exists_eq_left', rootL, eAttr, eInt]
    have : ¬ a = b := fun e => h1 (by rw [e])
    first | exact Sub.refl _ | exact ⟨Sub.refl _, by simp [this]⟩
  · simp -dsimp -implicitDefEqProofs (disch := omega) only [VCA, pg_gl, ↓upd_none, Nat.reduceEqDiff, Nat.reduceBEq, Nat.reduceAdd, Nat.reduceSub, Nat.reduceMul, Nat.reduceLT, Nat.reduceLeDiff, ↓reduceIte, reduceCtorEq, rsOf, rootsOf, SOp.rd, SI.rd, SX.rd, rdL, rdO, rdP, okParts, eqCells, okEqCells, fillA, okFill, setAt, implies_true, forall_const, forall_eq, ne_eq, exists_eq_right_right, exists_eq_right, exists_eq_left, exists_eq_left', rootL, eAttr, eInt]
    have h1' : a.length = b.length := by omega
    refine LoopVC.intro (fun m e h' => ∃ k : Nat, k ≤ a.length ∧ m = a.length - k ∧ e 0 = sl eInt a ∧ e 1 = sl eInt b ∧ e 5 = aInt k ∧ h' = h ∧ ∀ j, j < k → nth a j = nth b j) a.length ⟨0, by omega, by omega, rfl, rfl, rfl, rfl, fun j hj => absurd hj (Nat.not_lt_zero j)⟩ ?_
    rintro m e h' ⟨k, hk, rfl, he0, he1, he5, rfl, hj⟩
    simp -dsimp -implicitDefEqProofs (disch := omega) only [VCA, pg_gl, ↓upd_none, Nat.reduceEqDiff, Nat.reduceBEq, Nat.reduceAdd, Nat.reduceSub, Nat.reduceMul, Nat.reduceLT, Nat.reduceLeDiff, ↓reduceIte, reduceCtorEq, rsOf, rootsOf, SOp.rd, SI.rd, SX.rd, rdL, rdO, rdP, okParts, eqCells, okEqCells, fillA, okFill, setAt, implies_true, forall_const, forall_eq, ne_eq, exists_eq_right_right, exists_eq_right, exists_eq_left, exists_eq_left', rootL, eAttr, eInt, he0, he1, he5]
    refine Br.dec (fun hlt => ?_) (fun hge => ?_)
    · simp -dsimp -implicitDefEqProofs (disch := omega) only [VCA, pg_gl, ↓upd_none, Nat.reduceEqDiff, Nat.reduceBEq, Nat.reduceAdd, Nat.reduceSub, Nat.reduceMul, Nat.reduceLT, Nat.reduceLeDiff, ↓reduceIte, reduceCtorEq, rsOf, rootsOf, SOp.rd, SI.rd, SX.rd, rdL, rdO, rdP, okParts, eqCells, okEqCells, fillA, okFill, setAt, implies_true, forall_const, forall_eq, ne_eq, exists_eq_right_right, exists_eq_right, exists_eq_left, exists_eq_left', rootL, eAttr, eInt, he0, he1, he5]
      refine ⟨by omega, by omega, Br.ne (fun h2 => ?_) (fun h2 => ?_)⟩
      · simp -dsimp -implicitDefEqProofs (disch := omega) only [VCA, pg_gl, ↓upd_none, Nat.reduceEqDiff, Nat.reduceBEq, Nat.reduceAdd, Nat.reduceSub, Nat.reduceMul, Nat.reduceLT, Nat.reduceLeDiff, ↓reduceIte, reduceCtorEq, rsOf, rootsOf, SOp.rd, SI.rd, SX.rd, rdL, rdO, rdP, okParts, eqCells, okEqCells, fillA, okFill, setAt, implies_true, forall_const, forall_eq, ne_eq, exists_eq_right_right, exists_eq_right, exists_eq_left, exists_eq_left', rootL, eAttr, eInt]
        have : ¬ a = b := fun e => h2 (by rw [e])
        first | exact Sub.refl _ | exact ⟨Sub.refl _, by simp [this]⟩
      · simp -dsimp -implicitDefEqProofs (disch := omega) only [VCA, pg_gl, ↓upd_none, Nat.reduceEqDiff, Nat.reduceBEq, Nat.reduceAdd, Nat.reduceSub, Nat.reduceMul, Nat.reduceLT, Nat.reduceLeDiff, ↓reduceIte, reduceCtorEq, rsOf, rootsOf, SOp.rd, SI.rd, SX.rd, rdL, rdO, rdP, okParts, eqCells, okEqCells, fillA, okFill, setAt, implies_true, forall_const, forall_eq, ne_eq, exists_eq_right_right, exists_eq_right, exists_eq_left, exists_eq_left', rootL, eAttr, eInt, he0, he1, he5]
        refine ⟨_, ?_, k + 1, by omega, rfl, by omega, fun j hj' => ?_⟩
        · omega
        · by_cases h3 : j = k
          · subst h3; exact h2
          · exact hj j (by omega)
    · simp -dsimp -implicitDefEqProofs (disch := omega) only [VCA, pg_gl, ↓upd_none, Nat.reduceEqDiff, Nat.reduceBEq, Nat.reduceAdd, Nat.reduceSub, Nat.reduceMul, Nat.reduceLT, Nat.reduceLeDiff, ↓reduceIte, reduceCtorEq, rsOf, rootsOf, SOp.rd, SI.rd, SX.rd, rdL, rdO, rdP, okParts, eqCells, okEqCells, fillA, okFill, setAt, implies_true, forall_const, forall_eq, ne_eq, exists_eq_right_right, exists_eq_right, exists_eq_left, exists_eq_left', rootL, eAttr, eInt]
      have : a = b := ext_nth h1' (fun j hj' => hj j (by omega))
      first | exact Sub.refl _ | exact ⟨Sub.refl _, by simp [this]⟩
end Go.Proofs.K
end
section
set_option linter.unusedSimpArgs false
set_option linter.unusedVariables false
namespace Go.Proofs.K
open Go Go.Sim Go.Proofs
variable {G : Glob}
def c46 : SFun := ⟨.seq (.reg [⟨some 6, .mv (.c (.bool false)), none⟩]) (.seq (.reg [⟨some 7, .mv (.t 0), none⟩, ⟨some 8, .mv (.t 1), none⟩, ⟨some 9, .bin .geq (.t 7) (.t 8), none⟩, ⟨some 10, .mv (.t 9), none⟩, ⟨some 11, .mv (.t 0), some (10, true)⟩, ⟨some 12, .mv (.t 2), some (10, true)⟩, ⟨some 13, .bin .leq (.t 11) (.t 12), some (10, true)⟩, ⟨some 14, .pick (.t 10) (.t 13) (.c (.bool false)), none⟩, ⟨some 6, .mv (.t 14), none⟩]) .ret), [.tmp 6]⟩
theorem hc46 : toSF Tryd.prog {} Tryd.f46 = some c46 := by kernel_rfl
theorem hn46 : (Tryd.f46.name == "runtime.NumGoroutine") = false := by kernel_rfl
theorem between_ok (n a b : Int) : PCalls (Pg G) 46 [aInt n, aInt a, aInt b] (.bool (decide (a ≤ n) && decide (n ≤ b))) := fun h => by
  refine dcalls_of_vc Tryd.func46 hn46 hc46 (by rw [Tryd.ntmps46]; simp) (by rw [Tryd.ntmps46]; decide) ?_
  by_cases h1 : a ≤ n <;> by_cases h2 : n ≤ b <;> (
    simp -dsimp -implicitDefEqProofs (disch := omega) only [↓vcOps_sp 10, ↓vcD_sp 10, VCA, pg_gl, ↓upd_none, Nat.reduceEqDiff, Nat.reduceBEq, Nat.reduceAdd, Nat.reduceSub, Nat.reduceMul, Nat.reduceLT, Nat.reduceLeDiff, ↓reduceIte, reduceCtorEq, rsOf, rootsOf, SOp.rd, SI.rd, SX.rd, rdL, rdO, rdP, okParts, eqCells, okEqCells, fillA, okFill, setAt, implies_true, forall_const, forall_eq, ne_eq, exists_eq_right_right, exists_eq_right, exists_eq_left, exists_eq_left', rootL, c46, h1, h2, decide_true, decide_false, Bool.true_and, Bool.false_and]
    exact Sub.refl _)
end Go.Proofs.K
end
section
set_option linter.unusedSimpArgs false
set_option linter.unusedVariables false
namespace Go.Proofs.K
open Go Go.Sim Go.Proofs Go.Shelf
variable {G : Glob}
def bren : Ren := ⟨fun | 240 => 65 | 276 => 90 | n => n, fun | 37 => 44 | 0 => 0 | 4 => 4 | 9 => 9 | 20 => 20 | 70 => 77 | 72 => 79 | 164 => 126 | n => n, fun n => n⟩
theorem lays240 : Lays.n240 Tryd.prog bren := {
  mixed := by kernel_rfl
  f240 := Tryd.func65.trans (congrArg some (by kernel_rfl))
  f276 := Tryd.func90.trans (congrArg some (by kernel_rfl))
  t0 := Tryd.underlying0
  a0 := Tryd.isAgg0
  z0 := Tryd.sizeOf0
  v0 := Tryd.zeroValue0
  t4 := Tryd.underlying4
  a4 := Tryd.isAgg4
  z4 := Tryd.sizeOf4
  v4 := Tryd.zeroValue4
  t9 := Tryd.underlying9
  a9 := Tryd.isAgg9
  z9 := Tryd.sizeOf9
  v9 := Tryd.zeroValue9
  t20 := Tryd.underlying20
  a20 := Tryd.isAgg20
  z20 := Tryd.sizeOf20
  v20 := Tryd.zeroValue20
  t70 := Tryd.underlying77
  a70 := Tryd.isAgg77
  z70 := Tryd.sizeOf77
  v70 := Tryd.zeroValue77
  t72 := Tryd.underlying79
  a72 := Tryd.isAgg79
  z72 := Tryd.sizeOf79
  v72 := Tryd.zeroValue79
  t164 := Tryd.underlying126
  a164 := Tryd.isAgg126
  z164 := Tryd.sizeOf126
  v164 := Tryd.zeroValue126 }
theorem x72 : Builder.X72 Tryd.prog bren := {
  sizeBuilder := by kernel_rfl
  liesBuilder := by kernel_rfl }
abbrev Tb : Nat := 79
abbrev Tu : Nat := 5
def BP (rb : Nat) (p : AVal) : Prop := p = .prim (.pointer none) ∨ p = .vp rb 0
theorem prim_inv {g : Ghost} {w : World} {u v : Value} (h : VRel g w u (.prim v)) : u = v := by cases h; rfl
theorem copyCheck_ok (rb : Nat) (h : Heap) (p buf : AVal) (hp : BP rb p) (hr : h rb = some ⟨Tb, 2, [[p, buf]]⟩) {K : AVal → Heap → Prop} (hk : K (.tup []) (upd h rb (some ⟨Tb, 2, [[.vp rb 0, buf]]⟩))) :
    DCalls (Pg G) 65 [.vp rb 0] h K := by
  refine ⟨⟨_, Tryd.func65, by kernel_rfl, by kernel_rfl⟩, fun g w vs H GR V => ?_⟩
  obtain ⟨v, rfl, hv⟩ := V.one_inv
  obtain ⟨hlt, ⟨hb, hc⟩, rfl⟩ := hv.vp_inv
  have O := H.obj rb _ hr
  rcases O.block with h0 | ⟨hl, hf, cur, hcur, hsz, hcell⟩
  · omega
  have hcs : cur.size = 2 := by have h1 : g.bo rb + g.cap rb * 2 = cur.size := hsz; omega
  obtain ⟨u, hu, ho, hvu⟩ := hcell 0 0 _ p rfl rfl
  obtain ⟨u2, hu2, ho2, hvu2⟩ := hcell 0 1 _ buf rfl rfl
  simp only [hb] at hu hu2
  have hw0 : w.cell? ⟨g.eta rb, 0, none⟩ = some u := by
    rw [cell_of_row w _ _ cur _ _ hcur]; exact hu
  rcases hp with rfl | rfl
  · rw [prim_inv hvu] at hw0
    refine (Any.Builder_copyCheck_fresh lays240 x72 (g.eta rb) w hw0 ?_ ?_).mono ?_
    · simp only [World.shape?, hcur]; show some (Tb, cur.size) = some (Tb, 2); rw [hcs]
    · simp [World.frozen?, hcur]
    · rintro e w' ⟨rfl, rfl⟩
      rw [setCell_eq_setRow w _ _ cur _ _ _ hcur]
      obtain ⟨S, H'⟩ := root_write H hr hcur (by omega) (cur.setIfInBounds 0 (.pointer (some ⟨g.eta rb, 0, none⟩))) (by simp) (es' := [[.vp rb 0, buf]]) (by simp) (by simp; omega) (fun i j e x he hx => by
        cases i with
        | succ i => simp at he
        | zero =>
          simp at he; subst he
          cases j with
          | zero => simp at hx; subst hx; exact ⟨_, by simp [hb, hcs], rfl, .vp rb 0 hlt hb hc⟩
          | succ j =>
            cases j with
            | zero => simp at hx; subst hx; exact ⟨u2, by simpa [hb] using hu2, ho2, hvu2⟩
            | succ j => simp at hx)
      exact ⟨_, _, _, g, rfl, hk, H', .tup #[] [] rfl (fun j u a hu => by simp at hu), S⟩
  · obtain ⟨_, _, hu'⟩ := hvu.vp_inv
    rw [hu'] at hw0
    refine (Any.Builder_copyCheck_used lays240 x72 (g.eta rb) w hw0).mono ?_
    rintro e w' ⟨rfl, rfl⟩
    have : upd h rb (some ⟨Tb, 2, [[.vp rb 0, buf]]⟩) = h := upd_id hr
    rw [this] at hk
    exact ⟨_, _, h, g, rfl, hk, H, .tup #[] [] rfl (fun j u a hu => by simp at hu), GS.refl g _⟩
def Bl (h0 : Heap) (rb : Nat) (s : List UInt8) (h : Heap) : Prop := h0 rb = none ∧ ∃ p buf, BP rb p ∧ (buf ≠ .emp → s ≠ []) ∧ Acc (upd h0 rb (some ⟨Tb, 2, [[p, buf]]⟩)) Tu 1 (strEs s) buf h ∧ Sub (upd h0 rb (some ⟨Tb, 2, [[p, buf]]⟩)) h
theorem acc_at {h0 h : Heap} {rb ty sz : Nat} {x y : AObj} {cells : List (List AVal)} {a : AVal} (A : Acc (upd h0 rb (some x)) ty sz cells a h) : Acc (upd h0 rb (some y)) ty sz cells a (upd h rb (some y)) := by
  rcases A with h | ⟨r, h1, h2, h3⟩
  · exact .inl h
  · have hne : r ≠ rb := by rintro rfl; simp at h1
    refine .inr ⟨r, ?_, ?_, h3⟩
    · unfold Sim.upd at h1 ⊢; simpa [hne] using h1
    · unfold Sim.upd; simpa [hne] using h2
theorem sub_at {h0 h : Heap} {rb : Nat} {x y : AObj} (S : Sub (upd h0 rb (some x)) h) : Sub (upd h0 rb (some y)) (upd h rb (some y)) := by
  intro t o ht
  by_cases hne : t = rb
  · subst hne; simpa [Sim.upd] using ht
  · have := S t o (by simpa [Sim.upd, hne] using ht)
    simpa [Sim.upd, hne] using this
theorem sub_is {h0 h : Heap} {rb : Nat} {x : AObj} (S : Sub (upd h0 rb (some x)) h) : h rb = some x := S rb x (by simp [Sim.upd])
theorem sub_off {h0 h : Heap} {rb : Nat} {x : AObj} (h1 : h0 rb = none) (S : Sub (upd h0 rb (some x)) h) : Sub h0 h := by
  intro t o ht
  have hne : t ≠ rb := by rintro rfl; rw [h1] at ht; cases ht
  exact S t o (by simpa [Sim.upd, hne] using ht)
theorem Bl.new (h : Heap) (rb : Nat) (h0 : h rb = none) : Bl h rb [] (upd h rb (some ⟨Tb, 2, [[.prim (.pointer none), .emp]]⟩)) :=
  ⟨h0, _, _, .inl rfl, fun h => absurd rfl h, Acc.nil, Sub.refl _⟩
theorem Bl.sub {h0 h : Heap} {rb : Nat} {s : List UInt8} (B : Bl h0 rb s h) : Sub h0 h := by
  obtain ⟨h1, p, buf, _, _, _, S⟩ := B
  exact sub_off h1 S
def c41 : SFun := ⟨.seq (.reg [⟨some 4, .mv (.c (.int .i64 0)), none⟩, ⟨some 5, .mv (.c (.prim .nilIface)), none⟩]) (.seq (.reg [⟨some 6, .mv (.t 0), none⟩, ⟨some 7, .call (.c (.fn 65 [] [])) [.t 6], none⟩]) (.seq (.reg [⟨some 8, .mv (.t 0), none⟩, ⟨some 9, .mv (.t 0), none⟩, ⟨some 10, .fldA 0 (.t 9), none⟩, ⟨some 11, .fldA 1 (.t 10), none⟩, ⟨some 12, .ld 1 false (.t 11), none⟩, ⟨some 13, .mv (.t 1), none⟩, ⟨some 14, .appS 5 1 (.t 12) (.t 13), none⟩, ⟨some 15, .fldA 0 (.t 8), none⟩, ⟨some 16, .fldA 1 (.t 15), none⟩, ⟨none, .st 1 (.t 16) (.t 14), none⟩]) (.seq (.reg [⟨some 17, .mv (.t 1), none⟩, ⟨some 18, .lenS (.t 17), none⟩, ⟨some 4, .mv (.t 18), none⟩, ⟨some 5, .mv (.c (.prim .nilIface)), none⟩]) .ret))), [.tmp 4, .tmp 5]⟩
theorem hc41 : toSF Tryd.prog {} Tryd.f41 = some c41 := by kernel_rfl
theorem hn41 : (Tryd.f41.name == "runtime.NumGoroutine") = false := by kernel_rfl
theorem writeString_ok {h0 h : Heap} {rb : Nat} {s : List UInt8} (t : List UInt8) (B : Bl h0 rb s h) (hne : s ++ t ≠ []) (hs : s.length + t.length ≤ 140737488355328) :
    DCalls (Pg G) 41 [.vp rb 0, .str t] h fun a h' => a = .tup [aInt t.length, .prim .nilIface] ∧ Bl h0 rb (s ++ t) h' := by
  obtain ⟨hn, p, buf, hp, hnb, A, S⟩ := B
  refine dcalls_of_vc Tryd.func41 hn41 hc41 (by rw [Tryd.ntmps41]; simp) (by rw [Tryd.ntmps41]; decide) ?_
  simp -dsimp -implicitDefEqProofs (disch := omega) only [VCA, pg_gl, ↓upd_none, Nat.reduceEqDiff, Nat.reduceBEq, Nat.reduceAdd, Nat.reduceSub, Nat.reduceMul, Nat.reduceLT, Nat.reduceLeDiff, ↓reduceIte, reduceCtorEq, rsOf, rootsOf, SOp.rd, SI.rd, SX.rd, rdL, rdO, rdP, okParts, eqCells, okEqCells, fillA, okFill, setAt, implies_true, forall_const, forall_eq, ne_eq, exists_eq_right_right, exists_eq_right, exists_eq_left, exists_eq_left', rootL, c41]
  refine copyCheck_ok rb h p buf hp (sub_is S) ?_
  simp -dsimp -implicitDefEqProofs (disch := omega) only [VCA, pg_gl, ↓upd_none, Nat.reduceEqDiff, Nat.reduceBEq, Nat.reduceAdd, Nat.reduceSub, Nat.reduceMul, Nat.reduceLT, Nat.reduceLeDiff, ↓reduceIte, reduceCtorEq, rsOf, rootsOf, SOp.rd, SI.rd, SX.rd, rdL, rdO, rdP, okParts, eqCells, okEqCells, fillA, okFill, setAt, implies_true, forall_const, forall_eq, ne_eq, exists_eq_right_right, exists_eq_right, exists_eq_left, exists_eq_left', rootL]
  refine (acc_at A).app (sub_at S) (by simp [strEs]; omega) (by simp [strEs]; omega) fun a' h3 A' S' => ?_
  obtain ⟨hv, hc⟩ : isV a' = true ∧ cellsOf a' = [a'] := by
    rcases A' with ⟨_, rfl⟩ | ⟨r, _, _, rfl⟩ <;> exact ⟨rfl, rfl⟩
  simp -dsimp -implicitDefEqProofs (disch := omega) only [VCA, pg_gl, ↓upd_none, Nat.reduceEqDiff, Nat.reduceBEq, Nat.reduceAdd, Nat.reduceSub, Nat.reduceMul, Nat.reduceLT, Nat.reduceLeDiff, ↓reduceIte, reduceCtorEq, rsOf, rootsOf, SOp.rd, SI.rd, SX.rd, rdL, rdO, rdP, okParts, eqCells, okEqCells, fillA, okFill, setAt, implies_true, forall_const, forall_eq, ne_eq, exists_eq_right_right, exists_eq_right, exists_eq_left, exists_eq_left', rootL, sub_is S', hv, hc]
  exact ⟨_, Sub.refl _, hn, _, _, .inr rfl, fun _ => hne, by simpa [strEs] using acc_at A', sub_at S'⟩
def c43 : SFun := ⟨.seq (.reg [⟨some 2, .mv (.c (.str [])), none⟩]) (.seq (.dreg [(⟨some 3, .mv (.t 0), none⟩, none), (⟨some 4, .fldA 0 (.t 3), none⟩, none), (⟨some 5, .fldA 1 (.t 4), none⟩, none), (⟨some 6, .ld 1 false (.t 5), none⟩, none), (⟨some 8, .mv (.t 0), none⟩, none), (⟨some 9, .fldA 0 (.t 8), none⟩, none), (⟨some 10, .fldA 1 (.t 9), none⟩, none), (⟨some 11, .ld 1 false (.t 10), none⟩, none), (⟨some 12, .len (.t 11), none⟩, none), (⟨some 7, .usd (.t 6), none⟩, (some [6])), (⟨some 13, .ustr 5 (.t 7) (.t 12), none⟩, (some [6, 11])), (⟨some 2, .mv (.t 13), none⟩, none)]) .ret), [.tmp 2]⟩
theorem hc43 : toSF Tryd.prog {} Tryd.f43 = some c43 := by kernel_rfl
theorem hn43 : (Tryd.f43.name == "runtime.NumGoroutine") = false := by kernel_rfl
theorem string_ok {h0 h : Heap} {rb : Nat} {s : List UInt8} (B : Bl h0 rb s h) (hs : s.length < 140737488355328) :
    DCalls (Pg G) 43 [.vp rb 0] h fun a h' => a = .str s ∧ Sub h0 h' := by
  obtain ⟨hn, p, buf, hp, hne, A, S⟩ := B
  refine dcalls_of_vc Tryd.func43 hn43 hc43 (by rw [Tryd.ntmps43]; simp) (by rw [Tryd.ntmps43]; decide) ?_
  rcases A with ⟨he, rfl⟩ | ⟨r, h1, h2, rfl⟩
  · have hs0 : s = [] := by simpa [strEs] using he
    subst hs0
    simp -dsimp -implicitDefEqProofs (disch := omega) only [VCA, pg_gl, ↓upd_none, Nat.reduceEqDiff, Nat.reduceBEq, Nat.reduceAdd, Nat.reduceSub, Nat.reduceMul, Nat.reduceLT, Nat.reduceLeDiff, ↓reduceIte, reduceCtorEq, rsOf, rootsOf, SOp.rd, SI.rd, SX.rd, rdL, rdO, rdP, okParts, eqCells, okEqCells, fillA, okFill, setAt, implies_true, forall_const, forall_eq, ne_eq, exists_eq_right_right, exists_eq_right, exists_eq_left, exists_eq_left', rootL, c43, sub_is S]
    exact ⟨_, Sub.refl _, sub_off hn S⟩
  · have hs1 : s ≠ [] := hne (by intro h; cases h)
    have hs2 : 0 < s.length := List.length_pos_iff.2 hs1
    have h1' : h0 r = none ∧ r ≠ rb := by
      have hne : r ≠ rb := by rintro rfl; simp at h1
      exact ⟨by simpa [Sim.upd, hne] using h1, hne⟩
    simp -dsimp -implicitDefEqProofs (disch := omega) only [VCA, pg_gl, ↓upd_none, Nat.reduceEqDiff, Nat.reduceBEq, Nat.reduceAdd, Nat.reduceSub, Nat.reduceMul, Nat.reduceLT, Nat.reduceLeDiff, ↓reduceIte, reduceCtorEq, rsOf, rootsOf, SOp.rd, SI.rd, SX.rd, rdL, rdO, rdP, okParts, eqCells, okEqCells, fillA, okFill, setAt, implies_true, forall_const, forall_eq, ne_eq, exists_eq_right_right, exists_eq_right, exists_eq_left, exists_eq_left', rootL, c43, sub_is S]
    have hl : (strEs s).length = s.length := by simp [strEs]
    refine ⟨by omega, s, _, h2, rfl, rfl, by simp [strEs], List.take_of_length_le (by simp [strEs]), by simp [strEs], hs1, by omega, ?_⟩
    simp -dsimp -implicitDefEqProofs (disch := omega) only [VCA, pg_gl, ↓upd_none, Nat.reduceEqDiff, Nat.reduceBEq, Nat.reduceAdd, Nat.reduceSub, Nat.reduceMul, Nat.reduceLT, Nat.reduceLeDiff, ↓reduceIte, reduceCtorEq, rsOf, rootsOf, SOp.rd, SI.rd, SX.rd, rdL, rdO, rdP, okParts, eqCells, okEqCells, fillA, okFill, setAt, implies_true, forall_const, forall_eq, ne_eq, exists_eq_right_right, exists_eq_right, exists_eq_left, exists_eq_left', rootL, sub_is S]
    first
      | exact ⟨_, Sub.refl _, Sub.del (sub_off hn S) h1'.1⟩
      | (refine ⟨?_, _, Sub.refl _, Sub.del (sub_off hn S) h1'.1⟩; rw [← sub_is S]; simp [Sim.del, Ne.symm h1'.2])
theorem f224 {x : Int} (h0 : 0 ≤ x) (h1 : x < 16) : bitF .or .u8 224 (IntKind.u8.wrap x) = 224 + x := by
  rw [IntKind.wrap_u8, Int.emod_eq_of_lt h0 (by omega)]; exact u8_or224 _ h0 h1
theorem f240 {x : Int} (h0 : 0 ≤ x) (h1 : x < 8) : bitF .or .u8 240 (IntKind.u8.wrap x) = 240 + x := by
  rw [IntKind.wrap_u8, Int.emod_eq_of_lt h0 (by omega)]; exact u8_or240 _ h0 h1
end Go.Proofs.K
end
section
set_option linter.unusedSimpArgs false
set_option linter.unusedVariables false
namespace Go.Proofs.K
open Go Go.Sim Go.Proofs
variable {G : Glob}
def eRune (r : Int) : List AVal := [.int .i32 r]
instance : LenE eRune 1 := ⟨fun _ => rfl⟩
end Go.Proofs.K
end
section
set_option linter.unusedSimpArgs false
set_option linter.unusedVariables false
namespace Go.Proofs.K
open Go Go.Sim Go.Proofs
variable {G : Glob}
def bt (s : List UInt8) (i : Nat) : Int := ((s.getD i 0).toNat : Int)
end Go.Proofs.K
end
section
set_option linter.unusedSimpArgs false
set_option linter.unusedVariables false
namespace Go.Proofs.K
open Go Go.Sim Go.Proofs
variable {G : Glob}
end Go.Proofs.K
end
section
set_option linter.unusedSimpArgs false
set_option linter.unusedVariables false
namespace Go.Proofs.K
open Go Go.Sim Go.Proofs
variable {G : Glob}
end Go.Proofs.K
end
section
set_option linter.unusedSimpArgs false
set_option linter.unusedVariables false
namespace Go.Proofs.K
open Go Go.Sim Go.Proofs
variable {G : Glob}
def AccV (h0 : Heap) (r0 tv ty sz : Nat) (cells : List (List AVal)) (h : Heap) : Prop := h0 r0 = none ∧ ∃ a, Acc (upd h0 r0 (some ⟨tv, 1, [[a]]⟩)) ty sz cells a h ∧ Sub (upd h0 r0 (some ⟨tv, 1, [[a]]⟩)) h
theorem AccV.new {h0 : Heap} {r0 tv ty sz : Nat} (h : h0 r0 = none) : AccV h0 r0 tv ty sz [] (upd h0 r0 (some ⟨tv, 1, [[.emp]]⟩)) := ⟨h, .emp, Acc.nil, Sub.refl _⟩
theorem Acc.lend {α : Type} [Inhabited α] {enc : α → List AVal} {P : PG} {h h' : Heap} {ty sz f : Nat} [LenE enc sz] {L : List α} {a v : AVal} {K : AVal → Heap → Prop} (A : Acc h ty sz (L.map enc) a h') (hp : PCalls P f [sl enc L] v) (hs : Scal v) (hk : K v h') : Hd (DCalls P f [a] h') K .mk := by
  rcases A with ⟨h1, rfl⟩ | ⟨r, _, hr, rfl⟩
  · have : L = [] := by simpa using h1
    subst this
    exact PCalls.of (hp.wk (.cons .emp .nil)) hk
  · exact PCalls.borrow1 hp hs hr (Nat.le_refl _) (by rw [List.take_length]) hk
end Go.Proofs.K
end
section
set_option linter.unusedSimpArgs false
set_option linter.unusedVariables false
namespace Go.Proofs.K
open Go Go.Sim Go.Proofs
variable {G : Glob}
theorem upd_comm {α : Type} (f : Nat → α) {a b : Nat} (h : a ≠ b) (x y : α) : upd (upd f a x) b y = upd (upd f b y) a x := by
  funext t; unfold upd; by_cases h1 : t = a <;> by_cases h2 : t = b <;> simp_all
theorem Bl.beside {h0 h : Heap} {rb rl : Nat} {s : List UInt8} {x y : AObj} (hne : rl ≠ rb) (B : Bl (upd h0 rl (some x)) rb s h) : Bl (upd h0 rl (some y)) rb s (upd h rl (some y)) := by
  obtain ⟨h1, p, buf, hp, hb, A, S⟩ := B
  rw [upd_comm _ hne] at A S
  refine ⟨by simpa [Sim.upd, hne.symm] using h1, p, buf, hp, hb, ?_, ?_⟩
  · rw [upd_comm _ hne]; exact acc_at A
  · rw [upd_comm _ hne]; exact sub_at S
def c5 : SFun := ⟨.seq (.reg [⟨some 4, .mv (.c (.str [])), none⟩]) (.seq (.reg [⟨some 5, .mv (.t 0), none⟩, ⟨some 6, .mv (.t 0), none⟩, ⟨some 7, .lenS (.t 6), none⟩, ⟨some 8, .mv (.t 1), none⟩, ⟨some 9, .min2 (.t 7) (.t 8), none⟩, ⟨some 10, .slS (.t 5) none (some (.t 9)), none⟩, ⟨some 4, .mv (.t 10), none⟩]) .ret), [.tmp 4]⟩
theorem hc5 : toSF Tryd.prog {} Tryd.f5 = some c5 := by kernel_rfl
theorem hn5 : (Tryd.f5.name == "runtime.NumGoroutine") = false := by kernel_rfl
theorem some_ok (s : List UInt8) (n : Nat) (hs : s.length ≤ 1073741824) : PCalls (Pg G) 5 [.str s, aInt n] (.str (s.take n)) := fun h => by
  refine dcalls_of_vc Tryd.func5 hn5 hc5 (by rw [Tryd.ntmps5]; simp) (by rw [Tryd.ntmps5]; decide) ?_
  simp -dsimp -implicitDefEqProofs (disch := omega) only [VCA, pg_gl, ↓upd_none, Nat.reduceEqDiff, Nat.reduceBEq, Nat.reduceAdd, Nat.reduceSub, Nat.reduceMul, Nat.reduceLT, Nat.reduceLeDiff, ↓reduceIte, reduceCtorEq, rsOf, rootsOf, SOp.rd, SI.rd, SX.rd, rdL, rdO, rdP, okParts, eqCells, okEqCells, fillA, okFill, setAt, implies_true, forall_const, forall_eq, ne_eq, exists_eq_right_right, exists_eq_right, exists_eq_left, exists_eq_left', rootL, eRune, c5]
  refine ⟨by omega, Sub.refl _, ?_⟩
  have : (min (s.length : Int) n).toNat = min s.length n := by omega
  have e : s.take (min s.length n) = s.take n := by rw [List.take_eq_take_iff]; omega
  rw [this, e]
end Go.Proofs.K
end
section
set_option linter.unusedSimpArgs false
set_option linter.unusedVariables false
namespace Go.Proofs.K
open Go Go.Sim Go.Proofs
variable {G : Glob}
def hexM (b : Int) : Int := if 48 ≤ b ∧ b ≤ 57 then b - 48 else if 97 ≤ b ∧ b ≤ 102 then b - 97 + 10 else if 65 ≤ b ∧ b ≤ 70 then b - 65 + 10 else 99
def c95 : SFun := ⟨.seq (.reg [⟨some 2, .mv (.c (.int .i64 0)), none⟩]) (.seq (.seq (.reg [⟨some 3, .mv (.t 0), none⟩, ⟨some 4, .bin .geq (.t 3) (.c (.int .u8 48)), none⟩, ⟨some 5, .mv (.t 4), none⟩, ⟨some 6, .mv (.t 0), some (5, true)⟩, ⟨some 7, .bin .leq (.t 6) (.c (.int .u8 57)), some (5, true)⟩, ⟨some 8, .pick (.t 5) (.t 7) (.c (.bool false)), none⟩]) (.cond (.t 8) (.seq (.reg [⟨some 9, .mv (.t 0), none⟩, ⟨some 10, .cvi .i64 (.t 9), none⟩, ⟨some 11, .bin .sub (.t 10) (.c (.int .i64 48)), none⟩, ⟨some 2, .mv (.t 11), none⟩]) .ret) .skip)) (.seq (.seq (.reg [⟨some 12, .mv (.t 0), none⟩, ⟨some 13, .bin .geq (.t 12) (.c (.int .u8 97)), none⟩, ⟨some 14, .mv (.t 13), none⟩, ⟨some 15, .mv (.t 0), some (14, true)⟩, ⟨some 16, .bin .leq (.t 15) (.c (.int .u8 102)), some (14, true)⟩, ⟨some 17, .pick (.t 14) (.t 16) (.c (.bool false)), none⟩]) (.cond (.t 17) (.seq (.reg [⟨some 18, .mv (.t 0), none⟩, ⟨some 19, .cvi .i64 (.t 18), none⟩, ⟨some 20, .bin .sub (.t 19) (.c (.int .i64 97)), none⟩, ⟨some 21, .bin .add (.t 20) (.c (.int .i64 10)), none⟩, ⟨some 2, .mv (.t 21), none⟩]) .ret) .skip)) (.seq (.seq (.reg [⟨some 22, .mv (.t 0), none⟩, ⟨some 23, .bin .geq (.t 22) (.c (.int .u8 65)), none⟩, ⟨some 24, .mv (.t 23), none⟩, ⟨some 25, .mv (.t 0), some (24, true)⟩, ⟨some 26, .bin .leq (.t 25) (.c (.int .u8 70)), some (24, true)⟩, ⟨some 27, .pick (.t 24) (.t 26) (.c (.bool false)), none⟩]) (.cond (.t 27) (.seq (.reg [⟨some 28, .mv (.t 0), none⟩, ⟨some 29, .cvi .i64 (.t 28), none⟩, ⟨some 30, .bin .sub (.t 29) (.c (.int .i64 65)), none⟩, ⟨some 31, .bin .add (.t 30) (.c (.int .i64 10)), none⟩, ⟨some 2, .mv (.t 31), none⟩]) .ret) .skip)) (.seq (.reg [⟨some 2, .mv (.c (.int .i64 99)), none⟩]) .ret)))), [.tmp 2]⟩
theorem hc95 : toSF Tryd.prog {} Tryd.f95 = some c95 := by kernel_rfl
theorem hn95 : (Tryd.f95.name == "runtime.NumGoroutine") = false := by kernel_rfl
theorem hexOf_ok (b : Int) (h0 : 0 ≤ b) (h1 : b < 256) : PCalls (Pg G) 95 [.int .u8 b] (aInt (hexM b)) := fun h => by
  refine dcalls_of_vc Tryd.func95 hn95 hc95 (by rw [Tryd.ntmps95]; simp) (by rw [Tryd.ntmps95]; decide) ?_
  simp -dsimp -implicitDefEqProofs (disch := omega) only [↓vcOps_sp 5, ↓vcD_sp 5, ↓vcOps_sp 14, ↓vcD_sp 14, ↓vcOps_sp 24, ↓vcD_sp 24, VCA, pg_gl, ↓upd_none, Nat.reduceEqDiff, Nat.reduceBEq, Nat.reduceAdd, Nat.reduceSub, Nat.reduceMul, Nat.reduceLT, Nat.reduceLeDiff, ↓reduceIte, reduceCtorEq, rsOf, rootsOf, SOp.rd, SI.rd, SX.rd, rdL, rdO, rdP, okParts, eqCells, okEqCells, fillA, okFill, setAt, implies_true, forall_const, forall_eq, ne_eq, exists_eq_right_right, exists_eq_right, exists_eq_left, exists_eq_left', rootL, eRune, c95]
  repeat' (first | ((with_reducible refine brC (fun _ => ?_) fun _ => ?_) <;> try (exfalso; omega)) | (with_reducible refine And.intro ?_ ?_; · omega) | simp -dsimp -implicitDefEqProofs (disch := omega) only [↓vcOps_sp 5, ↓vcD_sp 5, ↓vcOps_sp 14, ↓vcD_sp 14, ↓vcOps_sp 24, ↓vcD_sp 24, VCA, pg_gl, ↓upd_none, Nat.reduceEqDiff, Nat.reduceBEq, Nat.reduceAdd, Nat.reduceSub, Nat.reduceMul, Nat.reduceLT, Nat.reduceLeDiff, ↓reduceIte, reduceCtorEq, rsOf, rootsOf, SOp.rd, SI.rd, SX.rd, rdL, rdO, rdP, okParts, eqCells, okEqCells, fillA, okFill, setAt, implies_true, forall_const, forall_eq, ne_eq, exists_eq_right_right, exists_eq_right, exists_eq_left, exists_eq_left', rootL, eRune])
  all_goals (refine ⟨Sub.refl _, ?_⟩; unfold hexM; repeat' split)
  all_goals first | rfl | omega
end Go.Proofs.K
end
section
set_option linter.unusedSimpArgs false
set_option linter.unusedVariables false
namespace Go.Proofs.K
open Go Go.Sim Go.Proofs
variable {G : Glob}
def hasPre (s p : List UInt8) : Bool := decide (p.length ≤ s.length) && s.take p.length == p
def c31 : SFun := ⟨.seq (.reg [⟨some 4, .mv (.c (.bool false)), none⟩]) (.seq (.reg [⟨some 5, .mv (.t 0), none⟩, ⟨some 6, .lenS (.t 5), none⟩, ⟨some 7, .mv (.t 1), none⟩, ⟨some 8, .lenS (.t 7), none⟩, ⟨some 9, .bin .geq (.t 6) (.t 8), none⟩, ⟨some 10, .mv (.t 9), none⟩, ⟨some 11, .mv (.t 0), some (10, true)⟩, ⟨some 12, .mv (.t 1), some (10, true)⟩, ⟨some 13, .lenS (.t 12), some (10, true)⟩, ⟨some 14, .slS (.t 11) none (some (.t 13)), some (10, true)⟩, ⟨some 15, .mv (.t 1), some (10, true)⟩, ⟨some 16, .bin .eql (.t 14) (.t 15), some (10, true)⟩, ⟨some 17, .pick (.t 10) (.t 16) (.c (.bool false)), none⟩, ⟨some 4, .mv (.t 17), none⟩]) .ret), [.tmp 4]⟩
theorem hc31 : toSF Tryd.prog {} Tryd.f31 = some c31 := by kernel_rfl
theorem hn31 : (Tryd.f31.name == "runtime.NumGoroutine") = false := by kernel_rfl
theorem slHasPre_ok (s p : List UInt8) (hs : s.length ≤ 1073741824) (hp : p.length ≤ 1073741824) : PCalls (Pg G) 31 [.str s, .str p] (.bool (hasPre s p)) := fun h => by
  refine dcalls_of_vc Tryd.func31 hn31 hc31 (by rw [Tryd.ntmps31]; simp) (by rw [Tryd.ntmps31]; decide) ?_
  simp -dsimp -implicitDefEqProofs (disch := omega) only [↓vcOps_sp 10, ↓vcD_sp 10, VCA, pg_gl, ↓upd_none, Nat.reduceEqDiff, Nat.reduceBEq, Nat.reduceAdd, Nat.reduceSub, Nat.reduceMul, Nat.reduceLT, Nat.reduceLeDiff, ↓reduceIte, reduceCtorEq, rsOf, rootsOf, SOp.rd, SI.rd, SX.rd, rdL, rdO, rdP, okParts, eqCells, okEqCells, fillA, okFill, setAt, implies_true, forall_const, forall_eq, ne_eq, exists_eq_right_right, exists_eq_right, exists_eq_left, exists_eq_left', rootL, eRune, c31]
  refine Br.dec (fun h1 => ?_) (fun h1 => ?_)
  · simp -dsimp -implicitDefEqProofs (disch := omega) only [↓vcOps_sp 10, ↓vcD_sp 10, VCA, pg_gl, ↓upd_none, Nat.reduceEqDiff, Nat.reduceBEq, Nat.reduceAdd, Nat.reduceSub, Nat.reduceMul, Nat.reduceLT, Nat.reduceLeDiff, ↓reduceIte, reduceCtorEq, rsOf, rootsOf, SOp.rd, SI.rd, SX.rd, rdL, rdO, rdP, okParts, eqCells, okEqCells, fillA, okFill, setAt, implies_true, forall_const, forall_eq, ne_eq, exists_eq_right_right, exists_eq_right, exists_eq_left, exists_eq_left', rootL, eRune]
    have h1' : p.length ≤ s.length := by omega
    refine ⟨by omega, Sub.refl _, ?_⟩
    simp [hasPre, h1']
  · simp -dsimp -implicitDefEqProofs (disch := omega) only [↓vcOps_sp 10, ↓vcD_sp 10, VCA, pg_gl, ↓upd_none, Nat.reduceEqDiff, Nat.reduceBEq, Nat.reduceAdd, Nat.reduceSub, Nat.reduceMul, Nat.reduceLT, Nat.reduceLeDiff, ↓reduceIte, reduceCtorEq, rsOf, rootsOf, SOp.rd, SI.rd, SX.rd, rdL, rdO, rdP, okParts, eqCells, okEqCells, fillA, okFill, setAt, implies_true, forall_const, forall_eq, ne_eq, exists_eq_right_right, exists_eq_right, exists_eq_left, exists_eq_left', rootL, eRune]
    have h1' : ¬ p.length ≤ s.length := by omega
    exact ⟨Sub.refl _, by simp [hasPre, h1']⟩
def c18 : SFun := ⟨.seq (.reg [⟨some 4, .mv (.c (.bool false)), none⟩]) (.seq (.reg [⟨some 5, .mv (.t 0), none⟩, ⟨some 6, .mv (.t 1), none⟩, ⟨some 7, .pcall 31 [.t 5, .t 6], none⟩, ⟨some 4, .mv (.t 7), none⟩]) .ret), [.tmp 4]⟩
theorem hc18 : toSF Tryd.prog {pure := [31]} Tryd.f18 = some c18 := by kernel_rfl
theorem hn18 : (Tryd.f18.name == "runtime.NumGoroutine") = false := by kernel_rfl
theorem hasPre_ok (s p : List UInt8) (hs : s.length ≤ 1073741824) (hp : p.length ≤ 1073741824) : PCalls (Pg G) 18 [.str s, .str p] (.bool (hasPre s p)) := fun h => by
  refine dcalls_of_vc Tryd.func18 hn18 hc18 (by rw [Tryd.ntmps18]; simp) (by rw [Tryd.ntmps18]; decide) ?_
  simp -dsimp -implicitDefEqProofs (disch := omega) only [VCA, pg_gl, ↓upd_none, Nat.reduceEqDiff, Nat.reduceBEq, Nat.reduceAdd, Nat.reduceSub, Nat.reduceMul, Nat.reduceLT, Nat.reduceLeDiff, ↓reduceIte, reduceCtorEq, rsOf, rootsOf, SOp.rd, SI.rd, SX.rd, rdL, rdO, rdP, okParts, eqCells, okEqCells, fillA, okFill, setAt, implies_true, forall_const, forall_eq, ne_eq, exists_eq_right_right, exists_eq_right, exists_eq_left, exists_eq_left', rootL, eRune, c18]
  refine pcallE.of (slHasPre_ok s p hs hp) ?_; simp -dsimp -implicitDefEqProofs (disch := omega) only [VCA, pg_gl, ↓upd_none, Nat.reduceEqDiff, Nat.reduceBEq, Nat.reduceAdd, Nat.reduceSub, Nat.reduceMul, Nat.reduceLT, Nat.reduceLeDiff, ↓reduceIte, reduceCtorEq, rsOf, rootsOf, SOp.rd, SI.rd, SX.rd, rdL, rdO, rdP, okParts, eqCells, okEqCells, fillA, okFill, setAt, implies_true, forall_const, forall_eq, ne_eq, exists_eq_right_right, exists_eq_right, exists_eq_left, exists_eq_left', rootL, eRune]
  exact Sub.refl _
end Go.Proofs.K
end
section
set_option linter.unusedSimpArgs false
set_option linter.unusedVariables false
namespace Go.Proofs.K
open Go Go.Sim Go.Proofs
variable {G : Glob}
structure EName where
  word : List UInt8
  sign : Int
  bare : Bool
deriving DecidableEq, Inhabited
def eName (x : EName) : List AVal := [.str x.word, .int .i32 x.sign, .bool x.bare]
instance : LenE eName 3 := ⟨fun _ => rfl⟩
end Go.Proofs.K
end
section
set_option linter.unusedSimpArgs false
set_option linter.unusedVariables false
namespace Go.Proofs.K
open Go Go.Sim Go.Proofs
variable {G : Glob}
end Go.Proofs.K
end
section
set_option linter.unusedSimpArgs false
set_option linter.unusedVariables false
namespace Go.Proofs.K
open Go Go.Sim Go.Proofs
variable {G : Glob}
structure EOK (x : EName) : Prop where
  a1 : 1 ≤ x.word.length
  a2 : x.word.length ≤ 6
  a3 : x.word.getLastD 0 ≠ 59
  a4 : 13 < x.sign
  a5 : x.sign < 65533
end Go.Proofs.K
end
section
set_option linter.unusedSimpArgs false
set_option linter.unusedVariables false
namespace Go.Proofs.K
open Go Go.Sim Go.Proofs
variable {G : Glob}
end Go.Proofs.K
end
section
set_option linter.unusedSimpArgs false
set_option linter.unusedVariables false
namespace Go.Proofs.K
open Go Go.Sim Go.Proofs
variable {G : Glob}
end Go.Proofs.K
end
section
set_option linter.unusedSimpArgs false
set_option linter.unusedVariables false
namespace Go.Proofs.K
open Go Go.Sim Go.Proofs
end Go.Proofs.K
end
section
set_option linter.unusedSimpArgs false
set_option linter.unusedVariables false
namespace Go.Proofs.K
open Go Go.Sim Go.Proofs
variable {G : Glob}
end Go.Proofs.K
end
section
set_option linter.unusedSimpArgs false
set_option linter.unusedVariables false
namespace Go.Proofs.K
open Go Go.Sim Go.Proofs
def firstF (q : Nat → Bool) : Nat → Nat → Nat
  | 0, a => a
  | f + 1, a => if q a = true then a else firstF q f (a + 1)
def firstM (q : Nat → Bool) (n a : Nat) : Nat := firstF q (n - a) a
theorem first_on {q : Nat → Bool} {n a : Nat} (h : a < n) (hq : q a = false) : firstM q n a = firstM q n (a + 1) := by
  unfold firstM
  obtain ⟨f, hf⟩ : ∃ f, n - a = f + 1 := ⟨n - a - 1, by omega⟩
  rw [hf, show n - (a + 1) = f by omega, firstF, hq, if_neg (by simp)]
theorem first_off {q : Nat → Bool} {n a : Nat} (hq : q a = true) (h : a < n) : firstM q n a = a := by
  unfold firstM
  obtain ⟨f, hf⟩ : ∃ f, n - a = f + 1 := ⟨n - a - 1, by omega⟩
  rw [hf, firstF, hq, if_pos rfl]
theorem first_end {q : Nat → Bool} {n a : Nat} (h : n ≤ a) : firstM q n a = a := by
  unfold firstM
  rw [show n - a = 0 by omega]; rfl
structure FirstIs (q : Nat → Bool) (n a k : Nat) : Prop where
  ge : a ≤ k
  le : k ≤ n
  hit : k < n → q k = true
  no : ∀ j, a ≤ j → j < k → q j = false
theorem first_is {q : Nat → Bool} {n : Nat} : ∀ m a, n - a = m → a ≤ n → FirstIs q n a (firstM q n a)
  | 0, a, hm, h => by
    obtain rfl : a = n := by omega
    rw [first_end (Nat.le_refl _)]
    exact ⟨Nat.le_refl _, Nat.le_refl _, fun h => absurd h (Nat.lt_irrefl _), fun j h1 h2 => by omega⟩
  | m + 1, a, hm, h => by
    cases hq : q a with
    | true =>
      rw [first_off hq (by omega)]
      exact ⟨Nat.le_refl _, h, fun _ => hq, fun j h1 h2 => by omega⟩
    | false =>
      rw [first_on (by omega) hq]
      obtain ⟨h1, h2, h3, h4⟩ := first_is (q := q) (n := n) m (a + 1) (by omega) (by omega)
      refine ⟨by omega, h2, h3, fun j g1 g2 => ?_⟩
      by_cases e : j = a
      · rw [e]; exact hq
      · exact h4 j (by omega) g2
theorem fstI {q : Nat → Bool} {n a : Nat} (h : a ≤ n) : FirstIs q n a (firstM q n a) := first_is _ a rfl h
theorem FirstIs.eq {q : Nat → Bool} {n a k : Nat} (h : FirstIs q n a k) : firstM q n a = k := by
  have g := fstI (q := q) (n := n) (a := a) (Nat.le_trans h.ge h.le)
  rcases Nat.lt_trichotomy (firstM q n a) k with hl | he | hl
  · have h1 := h.no _ g.ge hl
    rw [g.hit (Nat.lt_of_lt_of_le hl h.le)] at h1; cases h1
  · exact he
  · have h1 := g.no _ h.ge hl
    rw [h.hit (Nat.lt_of_lt_of_le hl g.le)] at h1; cases h1
def nmI (b : Int) : Int := if 65 ≤ b ∧ b ≤ 90 then b + 32 else if (97 ≤ b ∧ b ≤ 122) ∨ (48 ≤ b ∧ b ≤ 57) ∨ b = 45 ∨ b = 95 ∨ b = 58 then b else 95
def nmB (b : UInt8) : UInt8 := UInt8.ofNat (nmI b.toNat).toNat
def rawM (nm : List UInt8) : Int := if nm = [115, 99, 114, 105, 112, 116] ∨ nm = [115, 116, 121, 108, 101] then 1 else if nm = [116, 101, 120, 116, 97, 114, 101, 97] ∨ nm = [116, 105, 116, 108, 101] then 2 else 0
structure HTok where
  kind : Int
  name : List UInt8
  attrs : List HAttr
  text : List UInt8
  self : Bool
  frm : Int
  til : Int
deriving DecidableEq, Inhabited
def eTok (t : HTok) : List AVal := [aInt t.kind, .str t.name, sl eAttr t.attrs, .str t.text, .bool t.self, aInt t.frm, aInt t.til]
instance : LenE eTok 7 := ⟨fun _ => rfl⟩
end Go.Proofs.K
end
section
namespace Go.Proofs
open Go.Shelf
def Tryd.lays161_ren : Go.Shelf.Ren := ⟨fun | 161 => 20 | 231 => 33 | 227 => 34 | 233 => 35 | 235 => 36 | 228 => 58 | 197 => 59 | 151 => 60 | 260 => 84 | 152 => 85 | 137 => 61 | 119 => 112 | 224 => 82 | 225 => 81 | 217 => 80 | 266 => 110 | n => n, fun | 9 => 9 | 4 => 4 | 3 => 3 | 5 => 5 | 117 => 70 | 116 => 69 | 0 => 0 | 124 => 73 | 105 => 103 | 21 => 21 | 119 => 142 | 46 => 107 | 139 => 145 | 138 => 144 | n => n, fun | 3 => 1 | 4 => 2 | n => n⟩
theorem Tryd.lays161 : Go.Proofs.Lays.n161 Tryd.prog Tryd.lays161_ren := {
  mixed := by kernel_rfl
  f119 := Tryd.func112.trans (congrArg some (by kernel_rfl))
  f137 := Tryd.func61.trans (congrArg some (by kernel_rfl))
  f151 := Tryd.func60.trans (congrArg some (by kernel_rfl))
  f152 := Tryd.func85.trans (congrArg some (by kernel_rfl))
  f161 := Tryd.func20.trans (congrArg some (by kernel_rfl))
  f197 := Tryd.func59.trans (congrArg some (by kernel_rfl))
  f217 := Tryd.func80.trans (congrArg some (by kernel_rfl))
  f224 := Tryd.func82.trans (congrArg some (by kernel_rfl))
  f225 := Tryd.func81.trans (congrArg some (by kernel_rfl))
  f227 := Tryd.func34.trans (congrArg some (by kernel_rfl))
  f228 := Tryd.func58.trans (congrArg some (by kernel_rfl))
  f231 := Tryd.func33.trans (congrArg some (by kernel_rfl))
  f233 := Tryd.func35.trans (congrArg some (by kernel_rfl))
  f235 := Tryd.func36.trans (congrArg some (by kernel_rfl))
  f260 := Tryd.func84.trans (congrArg some (by kernel_rfl))
  f266 := Tryd.func110.trans (congrArg some (by kernel_rfl))
  t0 := Tryd.underlying0
  a0 := Tryd.isAgg0
  z0 := Tryd.sizeOf0
  v0 := Tryd.zeroValue0
  t3 := Tryd.underlying3
  a3 := Tryd.isAgg3
  z3 := Tryd.sizeOf3
  v3 := Tryd.zeroValue3
  t4 := Tryd.underlying4
  a4 := Tryd.isAgg4
  z4 := Tryd.sizeOf4
  v4 := Tryd.zeroValue4
  t5 := Tryd.underlying5
  a5 := Tryd.isAgg5
  z5 := Tryd.sizeOf5
  v5 := Tryd.zeroValue5
  t9 := Tryd.underlying9
  a9 := Tryd.isAgg9
  z9 := Tryd.sizeOf9
  v9 := Tryd.zeroValue9
  t21 := Tryd.underlying21
  a21 := Tryd.isAgg21
  z21 := Tryd.sizeOf21
  v21 := Tryd.zeroValue21
  t46 := Tryd.underlying107
  a46 := Tryd.isAgg107
  z46 := Tryd.sizeOf107
  v46 := Tryd.zeroValue107
  t105 := Tryd.underlying103
  a105 := Tryd.isAgg103
  z105 := Tryd.sizeOf103
  v105 := Tryd.zeroValue103
  t116 := Tryd.underlying69
  a116 := Tryd.isAgg69
  z116 := Tryd.sizeOf69
  t117 := Tryd.underlying70
  a117 := Tryd.isAgg70
  z117 := Tryd.sizeOf70
  v117 := Tryd.zeroValue70
  t119 := Tryd.underlying142
  a119 := Tryd.isAgg142
  z119 := Tryd.sizeOf142
  t124 := Tryd.underlying73
  a124 := Tryd.isAgg73
  z124 := Tryd.sizeOf73
  v124 := Tryd.zeroValue73
  t138 := Tryd.underlying144
  a138 := Tryd.isAgg144
  z138 := Tryd.sizeOf144
  v138 := Tryd.zeroValue144
  t139 := Tryd.underlying145
  a139 := Tryd.isAgg145
  z139 := Tryd.sizeOf145
  v139 := Tryd.zeroValue145
  g3 := by kernel_rfl
  g4 := by kernel_rfl }
open Go.RowKit in
theorem Tryd.strings_TrimLeft_one (s : ByteArray) (c : UInt8) (hc : c.toNat < 128) (w : World) :
    Calls Tryd.prog 20 #[.string s, .string ⟨#[c]⟩] w fun e w' => e = .returned (.string ⟨(Lib.trimLeftB s.data.toList c).toArray⟩) ∧ w' = w := Any.strings_TrimLeft_one Tryd.lays161 s c hc w
def Tryd.lays160_ren : Go.Shelf.Ren := ⟨fun | 160 => 113 | 232 => 130 | 231 => 33 | 227 => 34 | 234 => 131 | 233 => 35 | 236 => 132 | 235 => 36 | 228 => 58 | 271 => 142 | 151 => 60 | 197 => 59 | 120 => 150 | 152 => 85 | 260 => 84 | 137 => 61 | 119 => 112 | 224 => 82 | 225 => 81 | 217 => 80 | 266 => 110 | n => n, fun | 9 => 9 | 4 => 4 | 3 => 3 | 5 => 5 | 117 => 70 | 116 => 69 | 0 => 0 | 124 => 73 | 21 => 21 | 105 => 103 | 46 => 107 | 119 => 142 | 139 => 145 | 138 => 144 | n => n, fun | 3 => 1 | 4 => 2 | n => n⟩
theorem Tryd.lays160 : Go.Proofs.Lays.n160 Tryd.prog Tryd.lays160_ren := {
  mixed := by kernel_rfl
  f119 := Tryd.func112.trans (congrArg some (by kernel_rfl))
  f120 := Tryd.func150.trans (congrArg some (by kernel_rfl))
  f137 := Tryd.func61.trans (congrArg some (by kernel_rfl))
  f151 := Tryd.func60.trans (congrArg some (by kernel_rfl))
  f152 := Tryd.func85.trans (congrArg some (by kernel_rfl))
  f160 := Tryd.func113.trans (congrArg some (by kernel_rfl))
  f197 := Tryd.func59.trans (congrArg some (by kernel_rfl))
  f217 := Tryd.func80.trans (congrArg some (by kernel_rfl))
  f224 := Tryd.func82.trans (congrArg some (by kernel_rfl))
  f225 := Tryd.func81.trans (congrArg some (by kernel_rfl))
  f227 := Tryd.func34.trans (congrArg some (by kernel_rfl))
  f228 := Tryd.func58.trans (congrArg some (by kernel_rfl))
  f231 := Tryd.func33.trans (congrArg some (by kernel_rfl))
  f232 := Tryd.func130.trans (congrArg some (by kernel_rfl))
  f233 := Tryd.func35.trans (congrArg some (by kernel_rfl))
  f234 := Tryd.func131.trans (congrArg some (by kernel_rfl))
  f235 := Tryd.func36.trans (congrArg some (by kernel_rfl))
  f236 := Tryd.func132.trans (congrArg some (by kernel_rfl))
  f260 := Tryd.func84.trans (congrArg some (by kernel_rfl))
  f266 := Tryd.func110.trans (congrArg some (by kernel_rfl))
  f271 := Tryd.func142.trans (congrArg some (by kernel_rfl))
  t0 := Tryd.underlying0
  a0 := Tryd.isAgg0
  z0 := Tryd.sizeOf0
  v0 := Tryd.zeroValue0
  t3 := Tryd.underlying3
  a3 := Tryd.isAgg3
  z3 := Tryd.sizeOf3
  v3 := Tryd.zeroValue3
  t4 := Tryd.underlying4
  a4 := Tryd.isAgg4
  z4 := Tryd.sizeOf4
  v4 := Tryd.zeroValue4
  t5 := Tryd.underlying5
  a5 := Tryd.isAgg5
  z5 := Tryd.sizeOf5
  v5 := Tryd.zeroValue5
  t9 := Tryd.underlying9
  a9 := Tryd.isAgg9
  z9 := Tryd.sizeOf9
  v9 := Tryd.zeroValue9
  t21 := Tryd.underlying21
  a21 := Tryd.isAgg21
  z21 := Tryd.sizeOf21
  v21 := Tryd.zeroValue21
  t46 := Tryd.underlying107
  a46 := Tryd.isAgg107
  z46 := Tryd.sizeOf107
  v46 := Tryd.zeroValue107
  t105 := Tryd.underlying103
  a105 := Tryd.isAgg103
  z105 := Tryd.sizeOf103
  v105 := Tryd.zeroValue103
  t116 := Tryd.underlying69
  a116 := Tryd.isAgg69
  z116 := Tryd.sizeOf69
  t117 := Tryd.underlying70
  a117 := Tryd.isAgg70
  z117 := Tryd.sizeOf70
  v117 := Tryd.zeroValue70
  t119 := Tryd.underlying142
  a119 := Tryd.isAgg142
  z119 := Tryd.sizeOf142
  t124 := Tryd.underlying73
  a124 := Tryd.isAgg73
  z124 := Tryd.sizeOf73
  v124 := Tryd.zeroValue73
  t138 := Tryd.underlying144
  a138 := Tryd.isAgg144
  z138 := Tryd.sizeOf144
  v138 := Tryd.zeroValue144
  t139 := Tryd.underlying145
  a139 := Tryd.isAgg145
  z139 := Tryd.sizeOf145
  v139 := Tryd.zeroValue145
  g3 := by kernel_rfl
  g4 := by kernel_rfl }
def Tryd.lays137_ren : Go.Shelf.Ren := ⟨fun | 137 => 61 | 217 => 80 | 266 => 110 | n => n, fun | 9 => 9 | 5 => 5 | 3 => 3 | n => n, fun | n => n⟩
theorem Tryd.lays137 : Go.Proofs.Lays.n137 Tryd.prog Tryd.lays137_ren := {
  mixed := by kernel_rfl
  f137 := Tryd.func61.trans (congrArg some (by kernel_rfl))
  f217 := Tryd.func80.trans (congrArg some (by kernel_rfl))
  f266 := Tryd.func110.trans (congrArg some (by kernel_rfl))
  t3 := Tryd.underlying3
  a3 := Tryd.isAgg3
  z3 := Tryd.sizeOf3
  v3 := Tryd.zeroValue3
  t5 := Tryd.underlying5
  a5 := Tryd.isAgg5
  z5 := Tryd.sizeOf5
  v5 := Tryd.zeroValue5
  t9 := Tryd.underlying9
  a9 := Tryd.isAgg9
  z9 := Tryd.sizeOf9
  v9 := Tryd.zeroValue9 }
open Go.RowKit in
theorem Tryd.strings_IndexByte (s : ByteArray) (c : Int) (w : World) :
    Calls Tryd.prog 61 #[.string s, .int .u8 c] w fun e w' => e = .returned (.int .i64 (Lib.indexByte s.data.toList c.toNat.toUInt8)) ∧ w' = w := Any.strings_IndexByte Tryd.lays137 s c w
def Tryd.lays144_ren : Go.Shelf.Ren := ⟨fun | 144 => 135 | 143 => 144 | 219 => 57 | 217 => 80 | 225 => 81 | 224 => 82 | 267 => 83 | 266 => 110 | 314 => 111 | n => n, fun | 9 => 9 | 4 => 4 | 3 => 3 | 5 => 5 | 46 => 107 | 146 => 140 | 51 => 139 | n => n, fun | 1 => 0 | n => n⟩
theorem Tryd.lays144 : Go.Proofs.Lays.n144 Tryd.prog Tryd.lays144_ren := {
  mixed := by kernel_rfl
  f143 := Tryd.func144.trans (congrArg some (by kernel_rfl))
  f144 := Tryd.func135.trans (congrArg some (by kernel_rfl))
  f217 := Tryd.func80.trans (congrArg some (by kernel_rfl))
  f219 := Tryd.func57.trans (congrArg some (by kernel_rfl))
  f224 := Tryd.func82.trans (congrArg some (by kernel_rfl))
  f225 := Tryd.func81.trans (congrArg some (by kernel_rfl))
  f266 := Tryd.func110.trans (congrArg some (by kernel_rfl))
  f267 := Tryd.func83.trans (congrArg some (by kernel_rfl))
  f314 := Tryd.func111.trans (congrArg some (by kernel_rfl))
  t3 := Tryd.underlying3
  a3 := Tryd.isAgg3
  z3 := Tryd.sizeOf3
  v3 := Tryd.zeroValue3
  t4 := Tryd.underlying4
  a4 := Tryd.isAgg4
  z4 := Tryd.sizeOf4
  v4 := Tryd.zeroValue4
  t5 := Tryd.underlying5
  a5 := Tryd.isAgg5
  z5 := Tryd.sizeOf5
  v5 := Tryd.zeroValue5
  t9 := Tryd.underlying9
  a9 := Tryd.isAgg9
  z9 := Tryd.sizeOf9
  v9 := Tryd.zeroValue9
  t46 := Tryd.underlying107
  a46 := Tryd.isAgg107
  z46 := Tryd.sizeOf107
  v46 := Tryd.zeroValue107
  t51 := Tryd.underlying139
  a51 := Tryd.isAgg139
  z51 := Tryd.sizeOf139
  v51 := Tryd.zeroValue139
  t146 := Tryd.underlying140
  a146 := Tryd.isAgg140
  z146 := Tryd.sizeOf140
  v146 := Tryd.zeroValue140
  g1 := by kernel_rfl }
open Go.RowKit Go.Lib in
theorem Tryd.strings_Contains (s sub : ByteArray) (m : Int) (w : World) (hs : s.size < 4294967281) (hm : w.cell? ⟨0, 0, none⟩ = some (.int .i64 m)) :
    Calls Tryd.prog 135 #[.string s, .string sub] w fun e w' => e = .returned (.bool (Lib.contains s.data.toList sub.data.toList)) ∧ w' = w := Any.strings_Contains Tryd.lays144 s sub m w hs hm
def Tryd.lays145_ren : Go.Shelf.Ren := ⟨fun | 145 => 19 | 220 => 32 | 219 => 57 | 217 => 80 | 225 => 81 | 224 => 82 | 267 => 83 | 266 => 110 | 314 => 111 | n => n, fun | 9 => 9 | 4 => 4 | 59 => 49 | 3 => 3 | 5 => 5 | 46 => 107 | 146 => 140 | 51 => 139 | n => n, fun | 1 => 0 | n => n⟩
theorem Tryd.lays145 : Go.Proofs.Lays.n145 Tryd.prog Tryd.lays145_ren := {
  mixed := by kernel_rfl
  f145 := Tryd.func19.trans (congrArg some (by kernel_rfl))
  f217 := Tryd.func80.trans (congrArg some (by kernel_rfl))
  f219 := Tryd.func57.trans (congrArg some (by kernel_rfl))
  f220 := Tryd.func32.trans (congrArg some (by kernel_rfl))
  f224 := Tryd.func82.trans (congrArg some (by kernel_rfl))
  f225 := Tryd.func81.trans (congrArg some (by kernel_rfl))
  f266 := Tryd.func110.trans (congrArg some (by kernel_rfl))
  f267 := Tryd.func83.trans (congrArg some (by kernel_rfl))
  f314 := Tryd.func111.trans (congrArg some (by kernel_rfl))
  t3 := Tryd.underlying3
  a3 := Tryd.isAgg3
  z3 := Tryd.sizeOf3
  v3 := Tryd.zeroValue3
  t4 := Tryd.underlying4
  a4 := Tryd.isAgg4
  z4 := Tryd.sizeOf4
  v4 := Tryd.zeroValue4
  t5 := Tryd.underlying5
  a5 := Tryd.isAgg5
  z5 := Tryd.sizeOf5
  v5 := Tryd.zeroValue5
  t9 := Tryd.underlying9
  a9 := Tryd.isAgg9
  z9 := Tryd.sizeOf9
  v9 := Tryd.zeroValue9
  t46 := Tryd.underlying107
  a46 := Tryd.isAgg107
  z46 := Tryd.sizeOf107
  v46 := Tryd.zeroValue107
  t51 := Tryd.underlying139
  a51 := Tryd.isAgg139
  z51 := Tryd.sizeOf139
  v51 := Tryd.zeroValue139
  t59 := Tryd.underlying49
  a59 := Tryd.isAgg49
  z59 := Tryd.sizeOf49
  v59 := Tryd.zeroValue49
  t146 := Tryd.underlying140
  a146 := Tryd.isAgg140
  z146 := Tryd.sizeOf140
  v146 := Tryd.zeroValue140
  g1 := by kernel_rfl }
open Go.RowKit Go.Lib in
theorem Tryd.strings_Cut (s sep : ByteArray) (m : Int) (w : World) (hs : s.size < 4294967281) (hm : w.cell? ⟨0, 0, none⟩ = some (.int .i64 m)) :
    Calls Tryd.prog 19 #[.string s, .string sep] w fun e w' => e = .returned (.tuple #[.string ⟨(Lib.cut s.data.toList sep.data.toList).1.toArray⟩, .string ⟨(Lib.cut s.data.toList sep.data.toList).2.1.toArray⟩, .bool (Lib.cut s.data.toList sep.data.toList).2.2]) ∧ ∃ n, w' = w.drewN n := Any.strings_Cut Tryd.lays145 s sep m w hs hm
def Tryd.lays155_ren : Go.Shelf.Ren := ⟨fun | 155 => 119 | 154 => 134 | 138 => 143 | 165 => 92 | 143 => 144 | 166 => 41 | 197 => 59 | 169 => 43 | 195 => 151 | 218 => 152 | 240 => 65 | 241 => 118 | 219 => 57 | 260 => 84 | 276 => 90 | 277 => 133 | 217 => 80 | 225 => 81 | 224 => 82 | 267 => 83 | 266 => 110 | 314 => 111 | n => n, fun | 9 => 9 | 3 => 3 | 4 => 4 | 72 => 79 | 0 => 0 | 76 => 82 | 105 => 103 | 21 => 21 | 5 => 5 | 70 => 77 | 20 => 20 | 37 => 44 | 75 => 81 | 127 => 112 | 164 => 126 | 46 => 107 | 119 => 142 | 139 => 145 | 138 => 144 | 146 => 140 | 51 => 139 | 80 => 85 | n => n, fun | 1 => 0 | 3 => 1 | 4 => 2 | n => n⟩
theorem Tryd.lays155 : Go.Proofs.Lays.n155 Tryd.prog Tryd.lays155_ren := {
  mixed := by kernel_rfl
  f138 := Tryd.func143.trans (congrArg some (by kernel_rfl))
  f143 := Tryd.func144.trans (congrArg some (by kernel_rfl))
  f154 := Tryd.func134.trans (congrArg some (by kernel_rfl))
  f155 := Tryd.func119.trans (congrArg some (by kernel_rfl))
  f165 := Tryd.func92.trans (congrArg some (by kernel_rfl))
  f166 := Tryd.func41.trans (congrArg some (by kernel_rfl))
  f169 := Tryd.func43.trans (congrArg some (by kernel_rfl))
  f195 := Tryd.func151.trans (congrArg some (by kernel_rfl))
  f197 := Tryd.func59.trans (congrArg some (by kernel_rfl))
  f217 := Tryd.func80.trans (congrArg some (by kernel_rfl))
  f218 := Tryd.func152.trans (congrArg some (by kernel_rfl))
  f219 := Tryd.func57.trans (congrArg some (by kernel_rfl))
  f224 := Tryd.func82.trans (congrArg some (by kernel_rfl))
  f225 := Tryd.func81.trans (congrArg some (by kernel_rfl))
  f240 := Tryd.func65.trans (congrArg some (by kernel_rfl))
  f241 := Tryd.func118.trans (congrArg some (by kernel_rfl))
  f260 := Tryd.func84.trans (congrArg some (by kernel_rfl))
  f266 := Tryd.func110.trans (congrArg some (by kernel_rfl))
  f267 := Tryd.func83.trans (congrArg some (by kernel_rfl))
  f276 := Tryd.func90.trans (congrArg some (by kernel_rfl))
  f277 := Tryd.func133.trans (congrArg some (by kernel_rfl))
  f314 := Tryd.func111.trans (congrArg some (by kernel_rfl))
  t0 := Tryd.underlying0
  a0 := Tryd.isAgg0
  z0 := Tryd.sizeOf0
  v0 := Tryd.zeroValue0
  t3 := Tryd.underlying3
  a3 := Tryd.isAgg3
  z3 := Tryd.sizeOf3
  v3 := Tryd.zeroValue3
  t4 := Tryd.underlying4
  a4 := Tryd.isAgg4
  z4 := Tryd.sizeOf4
  v4 := Tryd.zeroValue4
  t5 := Tryd.underlying5
  a5 := Tryd.isAgg5
  z5 := Tryd.sizeOf5
  v5 := Tryd.zeroValue5
  t9 := Tryd.underlying9
  a9 := Tryd.isAgg9
  z9 := Tryd.sizeOf9
  v9 := Tryd.zeroValue9
  t20 := Tryd.underlying20
  a20 := Tryd.isAgg20
  z20 := Tryd.sizeOf20
  v20 := Tryd.zeroValue20
  t21 := Tryd.underlying21
  a21 := Tryd.isAgg21
  z21 := Tryd.sizeOf21
  v21 := Tryd.zeroValue21
  t37 := Tryd.underlying44
  a37 := Tryd.isAgg44
  z37 := Tryd.sizeOf44
  v37 := Tryd.zeroValue44
  t46 := Tryd.underlying107
  a46 := Tryd.isAgg107
  z46 := Tryd.sizeOf107
  v46 := Tryd.zeroValue107
  t51 := Tryd.underlying139
  a51 := Tryd.isAgg139
  z51 := Tryd.sizeOf139
  v51 := Tryd.zeroValue139
  t70 := Tryd.underlying77
  a70 := Tryd.isAgg77
  z70 := Tryd.sizeOf77
  v70 := Tryd.zeroValue77
  t72 := Tryd.underlying79
  a72 := Tryd.isAgg79
  z72 := Tryd.sizeOf79
  v72 := Tryd.zeroValue79
  t75 := Tryd.underlying81
  a75 := Tryd.isAgg81
  z75 := Tryd.sizeOf81
  v75 := Tryd.zeroValue81
  t76 := Tryd.underlying82
  a76 := Tryd.isAgg82
  z76 := Tryd.sizeOf82
  v76 := Tryd.zeroValue82
  t105 := Tryd.underlying103
  a105 := Tryd.isAgg103
  z105 := Tryd.sizeOf103
  v105 := Tryd.zeroValue103
  t119 := Tryd.underlying142
  a119 := Tryd.isAgg142
  z119 := Tryd.sizeOf142
  t127 := Tryd.underlying112
  a127 := Tryd.isAgg112
  z127 := Tryd.sizeOf112
  v127 := Tryd.zeroValue112
  t138 := Tryd.underlying144
  a138 := Tryd.isAgg144
  z138 := Tryd.sizeOf144
  v138 := Tryd.zeroValue144
  t139 := Tryd.underlying145
  a139 := Tryd.isAgg145
  z139 := Tryd.sizeOf145
  v139 := Tryd.zeroValue145
  t146 := Tryd.underlying140
  a146 := Tryd.isAgg140
  z146 := Tryd.sizeOf140
  v146 := Tryd.zeroValue140
  t164 := Tryd.underlying126
  a164 := Tryd.isAgg126
  z164 := Tryd.sizeOf126
  v164 := Tryd.zeroValue126
  g1 := by kernel_rfl
  g3 := by kernel_rfl
  g4 := by kernel_rfl }
theorem Tryd.Builder_Extra_155 : Builder.Extra Tryd.prog Tryd.lays155_ren := {
  sizeBuilder := by kernel_rfl
  liesBuilder := by kernel_rfl
  t5 := Tryd.underlying5
  a5 := Tryd.isAgg5
  z5 := Tryd.sizeOf5
  v5 := Tryd.zeroValue5
  infoByte := by kernel_rfl
  cellsByte := by kernel_rfl
  sizeByte := by kernel_rfl
  neB5 := by decide }
open Go.RowKit Go.Lib in
theorem Tryd.strings_ReplaceAll (s old new : ByteArray) (m : Int) (w : World) (hs : s.size < 4294967281) (hm : w.cell? ⟨0, 0, none⟩ = some (.int .i64 m)) (h1 : 1 ≤ old.size) (hlen : s.size + Lib.countB s old * new.size ≤ 140737488355328) :
    Calls Tryd.prog 119 #[.string s, .string old, .string new] w fun e w' =>
      e = .returned (.string ⟨(Lib.replaceAll s.data.toList old.data.toList new.data.toList).toArray⟩) ∧ Below w.heap.size w w' := Any.strings_ReplaceAll Tryd.lays155 Tryd.Builder_Extra_155 s old new m w hs hm h1 hlen
def Tryd.lays105_ren : Go.Shelf.Ren := ⟨fun | 105 => 66 | 212 => 91 | 99 => 18 | 165 => 92 | 166 => 41 | 170 => 93 | 169 => 43 | 263 => 116 | 264 => 117 | 206 => 31 | 240 => 65 | 241 => 118 | 276 => 90 | 277 => 133 | n => n, fun | 9 => 9 | 3 => 3 | 4 => 4 | 20 => 20 | 0 => 0 | 46 => 107 | 109 => 128 | 5 => 5 | 72 => 79 | 76 => 82 | 51 => 139 | 146 => 140 | 53 => 149 | 148 => 150 | 70 => 77 | 37 => 44 | 75 => 81 | 127 => 112 | 164 => 126 | 80 => 85 | n => n, fun | n => n⟩
theorem Tryd.lays105 : Go.Proofs.Lays.n105 Tryd.prog Tryd.lays105_ren := {
  mixed := by kernel_rfl
  f99 := Tryd.func18.trans (congrArg some (by kernel_rfl))
  f105 := Tryd.func66.trans (congrArg some (by kernel_rfl))
  f165 := Tryd.func92.trans (congrArg some (by kernel_rfl))
  f166 := Tryd.func41.trans (congrArg some (by kernel_rfl))
  f169 := Tryd.func43.trans (congrArg some (by kernel_rfl))
  f170 := Tryd.func93.trans (congrArg some (by kernel_rfl))
  f206 := Tryd.func31.trans (congrArg some (by kernel_rfl))
  f212 := Tryd.func91.trans (congrArg some (by kernel_rfl))
  f240 := Tryd.func65.trans (congrArg some (by kernel_rfl))
  f241 := Tryd.func118.trans (congrArg some (by kernel_rfl))
  f263 := Tryd.func116.trans (congrArg some (by kernel_rfl))
  f264 := Tryd.func117.trans (congrArg some (by kernel_rfl))
  f276 := Tryd.func90.trans (congrArg some (by kernel_rfl))
  f277 := Tryd.func133.trans (congrArg some (by kernel_rfl))
  t0 := Tryd.underlying0
  a0 := Tryd.isAgg0
  z0 := Tryd.sizeOf0
  v0 := Tryd.zeroValue0
  t3 := Tryd.underlying3
  a3 := Tryd.isAgg3
  z3 := Tryd.sizeOf3
  v3 := Tryd.zeroValue3
  t4 := Tryd.underlying4
  a4 := Tryd.isAgg4
  z4 := Tryd.sizeOf4
  v4 := Tryd.zeroValue4
  t5 := Tryd.underlying5
  a5 := Tryd.isAgg5
  z5 := Tryd.sizeOf5
  v5 := Tryd.zeroValue5
  t9 := Tryd.underlying9
  a9 := Tryd.isAgg9
  z9 := Tryd.sizeOf9
  v9 := Tryd.zeroValue9
  t20 := Tryd.underlying20
  a20 := Tryd.isAgg20
  z20 := Tryd.sizeOf20
  v20 := Tryd.zeroValue20
  t37 := Tryd.underlying44
  a37 := Tryd.isAgg44
  z37 := Tryd.sizeOf44
  v37 := Tryd.zeroValue44
  t46 := Tryd.underlying107
  a46 := Tryd.isAgg107
  z46 := Tryd.sizeOf107
  v46 := Tryd.zeroValue107
  t51 := Tryd.underlying139
  a51 := Tryd.isAgg139
  z51 := Tryd.sizeOf139
  v51 := Tryd.zeroValue139
  t53 := Tryd.underlying149
  a53 := Tryd.isAgg149
  z53 := Tryd.sizeOf149
  v53 := Tryd.zeroValue149
  t70 := Tryd.underlying77
  a70 := Tryd.isAgg77
  z70 := Tryd.sizeOf77
  v70 := Tryd.zeroValue77
  t72 := Tryd.underlying79
  a72 := Tryd.isAgg79
  z72 := Tryd.sizeOf79
  v72 := Tryd.zeroValue79
  t75 := Tryd.underlying81
  a75 := Tryd.isAgg81
  z75 := Tryd.sizeOf81
  v75 := Tryd.zeroValue81
  t76 := Tryd.underlying82
  a76 := Tryd.isAgg82
  z76 := Tryd.sizeOf82
  v76 := Tryd.zeroValue82
  t109 := Tryd.underlying128
  a109 := Tryd.isAgg128
  z109 := Tryd.sizeOf128
  v109 := Tryd.zeroValue128
  t127 := Tryd.underlying112
  a127 := Tryd.isAgg112
  z127 := Tryd.sizeOf112
  v127 := Tryd.zeroValue112
  t146 := Tryd.underlying140
  a146 := Tryd.isAgg140
  z146 := Tryd.sizeOf140
  v146 := Tryd.zeroValue140
  t148 := Tryd.underlying150
  a148 := Tryd.isAgg150
  z148 := Tryd.sizeOf150
  v148 := Tryd.zeroValue150
  t164 := Tryd.underlying126
  a164 := Tryd.isAgg126
  z164 := Tryd.sizeOf126
  v164 := Tryd.zeroValue126 }
theorem Tryd.Builder_Extra_105 : Builder.Extra Tryd.prog Tryd.lays105_ren := {
  sizeBuilder := by kernel_rfl
  liesBuilder := by kernel_rfl
  t5 := Tryd.underlying5
  a5 := Tryd.isAgg5
  z5 := Tryd.sizeOf5
  v5 := Tryd.zeroValue5
  infoByte := by kernel_rfl
  cellsByte := by kernel_rfl
  sizeByte := by kernel_rfl
  neB5 := by decide }
open Go.RowKit Go.Lib in
theorem Tryd.strings_Repeat (s : ByteArray) (c : Nat) (w : World) (hc : c ≤ 9223372036854775807) (hlen : s.size * c ≤ 140737488355328) :
    Calls Tryd.prog 66 #[.string s, .int .i64 c] w fun e w' => e = .returned (.string ⟨(Lib.repeatL s.data.toList c).toArray⟩) ∧ Below w.heap.size w w' := Any.strings_Repeat Tryd.lays105 Tryd.Builder_Extra_105 s c w hc hlen
end Go.Proofs
end
section
set_option linter.unusedSimpArgs false
set_option linter.unusedVariables false
namespace Go.Proofs.K
open Go Go.Sim Go.Proofs
variable {G : Glob}
def eStr (s : List UInt8) : List AVal := [.str s]
instance : LenE eStr 1 := ⟨fun _ => rfl⟩
def MaxLenOK (G : Glob) : Prop := ∃ m, G 0 = .pin [aInt m]
theorem contains_ok (hG : MaxLenOK G) (s t : List UInt8) (hs : s.length < 4294967281) : PCalls (Pg G) 135 [.str s, .str t] (.bool (Lib.contains s t)) := by
  obtain ⟨m, hG⟩ := hG
  refine PCalls.ofRun ⟨_, Tryd.func135, by kernel_rfl, by kernel_rfl⟩ fun g w vs GR V => ?_
  obtain ⟨u, v, rfl, hu, hv⟩ := V.two_inv
  rw [hu.str_inv', hv.str_inv']
  exact (Tryd.strings_Contains ⟨⟨s⟩⟩ ⟨⟨t⟩⟩ m w hs (GR.int hG)).mono fun e w' ⟨he, hw⟩ => ⟨_, he, hw, .bool _⟩
theorem contains_iff (s t : List UInt8) : Lib.contains s t = true ↔ ∃ a b, s = a ++ t ++ b := by
  unfold Lib.contains
  rw [decide_eq_true_iff]
  constructor
  · intro h
    rcases Lib.index_spec s t with ⟨h1, _⟩ | ⟨i, h1, h2, h3, _⟩
    · omega
    · unfold Lib.occAt at h3
      rw [List.isPrefixOf_iff_prefix] at h3
      obtain ⟨b, hb⟩ := h3
      exact ⟨s.take i, b, by rw [List.append_assoc, hb, List.take_append_drop]⟩
  · rintro ⟨a, b, rfl⟩
    rcases Lib.index_spec (a ++ t ++ b) t with ⟨_, h2⟩ | ⟨i, h1, _⟩
    · have := h2 a.length (by simp)
      unfold Lib.occAt at this
      rw [List.append_assoc, List.drop_left] at this
      have h : t.isPrefixOf (t ++ b) = true := by rw [List.isPrefixOf_iff_prefix]; exact ⟨b, rfl⟩
      rw [h] at this; cases this
    · omega
def splitB (b : UInt8) : List UInt8 → List UInt8 → List (List UInt8)
  | cur, [] => [cur]
  | cur, c :: r => if c = b then cur :: splitB b [] r else splitB b (cur ++ [c]) r
theorem splitB_ne (b : UInt8) (cur s : List UInt8) : splitB b cur s ≠ [] := by
  induction s generalizing cur with
  | nil => simp [splitB]
  | cons c r ih => unfold splitB; split <;> simp [ih]
theorem splitB_cur (b : UInt8) (cur s : List UInt8) : splitB b cur s = (cur ++ (splitB b [] s).headD []) :: (splitB b [] s).tail := by
  induction s generalizing cur with
  | nil => simp [splitB]
  | cons c r ih =>
    by_cases h : c = b
    · simp [splitB, h]
    · simp only [splitB, if_neg h]
      rw [ih (cur ++ [c]), ih ([] ++ [c])]
      simp
theorem split_head (b : UInt8) (nm s : List UInt8) (hn : b ∉ nm) : (∃ post, s ++ [b] = nm ++ b :: post) ↔ nm = (splitB b [] s).headD [] := by
  induction s generalizing nm with
  | nil =>
    constructor
    · rintro ⟨post, h⟩
      cases nm with
      | nil => rfl
      | cons x r => simp at h
    · intro h; exact ⟨[], by rw [h]; rfl⟩
  | cons c r ih =>
    by_cases hc : c = b
    · subst hc
      simp only [splitB, if_true, List.headD_cons]
      constructor
      · rintro ⟨post, h⟩
        cases nm with
        | nil => rfl
        | cons x r => simp at h; exact absurd (by simp [h.1]) hn
      · rintro rfl; exact ⟨_, rfl⟩
    · simp only [splitB, if_neg hc]
      rw [splitB_cur]
      simp only [List.headD_cons, List.nil_append, List.singleton_append]
      constructor
      · rintro ⟨post, h⟩
        cases nm with
        | nil => simp at h; exact absurd h.1 hc
        | cons x t =>
          simp at h
          obtain ⟨rfl, h⟩ := h
          rw [← (ih t (fun h => hn (by simp [h]))).1 ⟨post, h⟩]
      · rintro rfl
        obtain ⟨post, h⟩ := (ih _ (fun h => hn (List.mem_cons_of_mem _ h))).2 rfl
        exact ⟨post, by simp [h]⟩
theorem split_tail (b : UInt8) (nm s : List UInt8) (hn : b ∉ nm) : (∃ pre post, s ++ [b] = pre ++ b :: (nm ++ b :: post)) ↔ nm ∈ (splitB b [] s).tail := by
  induction s with
  | nil =>
    constructor
    · rintro ⟨pre, post, h⟩
      have := congrArg List.length h
      simp at this; omega
    · simp [splitB]
  | cons c r ih =>
    by_cases hc : c = b
    · subst hc
      simp only [splitB, if_true, List.tail_cons]
      have e : splitB c [] r = (splitB c [] r).headD [] :: (splitB c [] r).tail := by
        cases h : splitB c [] r with
        | nil => exact absurd h (splitB_ne _ _ _)
        | cons x t => rfl
      rw [e, List.mem_cons, ← ih, ← split_head c nm r hn]
      constructor
      · rintro ⟨pre, post, h⟩
        cases pre with
        | nil => exact .inl ⟨post, by simpa using h⟩
        | cons x p => simp at h; exact .inr ⟨p, post, by simpa using h.2⟩
      · rintro (⟨post, h⟩ | ⟨pre, post, h⟩)
        · exact ⟨[], post, by simp [h]⟩
        · exact ⟨c :: pre, post, by simp [h]⟩
    · simp only [splitB, if_neg hc]
      rw [splitB_cur]
      simp only [List.tail_cons]
      rw [← ih]
      constructor
      · rintro ⟨pre, post, h⟩
        cases pre with
        | nil => simp at h; exact absurd h.1 hc
        | cons x p => simp at h; exact ⟨p, post, by simpa using h.2⟩
      · rintro ⟨pre, post, h⟩
        exact ⟨c :: pre, post, by simp [h]⟩
theorem split_mem (b : UInt8) (nm s : List UInt8) (hn : b ∉ nm) : Lib.contains (b :: (s ++ [b])) (b :: (nm ++ [b])) = true ↔ nm ∈ splitB b [] s := by
  have e : splitB b [] s = (splitB b [] s).headD [] :: (splitB b [] s).tail := by
    cases h : splitB b [] s with
    | nil => exact absurd h (splitB_ne _ _ _)
    | cons x t => rfl
  rw [e, List.mem_cons, ← split_tail b nm s hn, ← split_head b nm s hn, contains_iff]
  constructor
  · rintro ⟨pre, post, h⟩
    cases pre with
    | nil => exact .inl ⟨post, by simpa using h⟩
    | cons x p => exact .inr ⟨p, post, by simp at h; simpa using h.2⟩
  · rintro (⟨post, h⟩ | ⟨pre, post, h⟩)
    · exact ⟨[], post, by simp [h]⟩
    · exact ⟨b :: pre, post, by simp [h]⟩
theorem splitB_no (b : UInt8) (s x : List UInt8) (hx : x ∈ splitB b [] s) : b ∉ x := by
  have : ∀ (cur s : List UInt8), b ∉ cur → ∀ x ∈ splitB b cur s, b ∉ x := by
    intro cur s
    induction s generalizing cur with
    | nil => intro h x hx; simp [splitB] at hx; subst hx; exact h
    | cons c r ih =>
      intro h x hx
      by_cases hc : c = b
      · simp only [splitB, if_pos hc, List.mem_cons] at hx
        rcases hx with rfl | hx
        · exact h
        · exact ih [] (by simp) x hx
      · simp only [splitB, if_neg hc] at hx
        exact ih (cur ++ [c]) (by simp [h, Ne.symm hc]) x hx
  exact this [] s (by simp) x hx
theorem contains_one (b : UInt8) (s : List UInt8) : Lib.contains s [b] = decide (b ∈ s) := by
  rw [Bool.eq_iff_iff, contains_iff, decide_eq_true_iff]
  constructor
  · rintro ⟨x, y, rfl⟩; simp
  · intro h
    obtain ⟨x, y, rfl⟩ := List.append_of_mem h
    exact ⟨x, y, by simp⟩
end Go.Proofs.K
end
section
set_option linter.unusedSimpArgs false
set_option linter.unusedVariables false
namespace Go.Proofs.K
open Go Go.Sim Go.Proofs
variable {G : Glob}
def oneW (nm l : List UInt8) : Bool := nm != [] && (!(decide (32 ∈ nm)) && Lib.contains l ([32] ++ nm ++ [32]))
def c120 : SFun := ⟨.seq (.reg [⟨some 4, .mv (.c (.bool false)), none⟩]) (.seq (.reg [⟨some 5, .mv (.t 0), none⟩, ⟨some 6, .bin .neq (.t 5) (.c (.str [])), none⟩, ⟨some 7, .mv (.t 6), none⟩, ⟨some 8, .mv (.t 0), some (7, true)⟩, ⟨some 9, .pcall 135 [.t 8, .c (.str [32])], some (7, true)⟩, ⟨some 10, .un .not (.t 9), some (7, true)⟩, ⟨some 11, .pick (.t 7) (.t 10) (.c (.bool false)), none⟩, ⟨some 12, .mv (.t 11), none⟩, ⟨some 13, .mv (.t 1), some (12, true)⟩, ⟨some 14, .mv (.t 0), some (12, true)⟩, ⟨some 15, .bin .add (.c (.str [32])) (.t 14), some (12, true)⟩, ⟨some 16, .bin .add (.t 15) (.c (.str [32])), some (12, true)⟩, ⟨some 17, .pcall 135 [.t 13, .t 16], some (12, true)⟩, ⟨some 18, .pick (.t 12) (.t 17) (.c (.bool false)), none⟩, ⟨some 4, .mv (.t 18), none⟩]) .ret), [.tmp 4]⟩
theorem hc120 : toSF Tryd.prog {pure := [135]} Tryd.f120 = some c120 := by kernel_rfl
theorem hn120 : (Tryd.f120.name == "runtime.NumGoroutine") = false := by kernel_rfl
theorem oneW_ok (hG : MaxLenOK G) (nm l : List UInt8) (hn : nm.length < 4294967281) (hl : l.length < 4294967281) : PCalls (Pg G) 120 [.str nm, .str l] (.bool (oneW nm l)) := by
  intro h
  refine dcalls_of_vc Tryd.func120 hn120 hc120 (by rw [Tryd.ntmps120]; simp) (by rw [Tryd.ntmps120]; decide) ?_
  simp -dsimp -implicitDefEqProofs (disch := omega) only [↓vcOps_sp 7, ↓vcD_sp 7, ↓vcOps_sp 12, ↓vcD_sp 12, VCA, pg_gl, ↓upd_none, Nat.reduceEqDiff, Nat.reduceBEq, Nat.reduceAdd, Nat.reduceSub, Nat.reduceMul, Nat.reduceLT, Nat.reduceLeDiff, ↓reduceIte, reduceCtorEq, rsOf, rootsOf, SOp.rd, SI.rd, SX.rd, rdL, rdO, rdP, okParts, eqCells, okEqCells, fillA, okFill, setAt, implies_true, forall_const, forall_eq, ne_eq, exists_eq_right_right, exists_eq_right, exists_eq_left, exists_eq_left', rootL, eStr, c120]
  refine Br.ne (fun h1 => ?_) (fun h1 => ?_)
  · simp -dsimp -implicitDefEqProofs (disch := omega) only [↓vcOps_sp 7, ↓vcD_sp 7, ↓vcOps_sp 12, ↓vcD_sp 12, VCA, pg_gl, ↓upd_none, Nat.reduceEqDiff, Nat.reduceBEq, Nat.reduceAdd, Nat.reduceSub, Nat.reduceMul, Nat.reduceLT, Nat.reduceLeDiff, ↓reduceIte, reduceCtorEq, rsOf, rootsOf, SOp.rd, SI.rd, SX.rd, rdL, rdO, rdP, okParts, eqCells, okEqCells, fillA, okFill, setAt, implies_true, forall_const, forall_eq, ne_eq, exists_eq_right_right, exists_eq_right, exists_eq_left, exists_eq_left', rootL, eStr]
    refine pcallE.of (contains_ok hG nm [32] hn) ?_; simp -dsimp -implicitDefEqProofs (disch := omega) only [↓vcOps_sp 7, ↓vcD_sp 7, ↓vcOps_sp 12, ↓vcD_sp 12, VCA, pg_gl, ↓upd_none, Nat.reduceEqDiff, Nat.reduceBEq, Nat.reduceAdd, Nat.reduceSub, Nat.reduceMul, Nat.reduceLT, Nat.reduceLeDiff, ↓reduceIte, reduceCtorEq, rsOf, rootsOf, SOp.rd, SI.rd, SX.rd, rdL, rdO, rdP, okParts, eqCells, okEqCells, fillA, okFill, setAt, implies_true, forall_const, forall_eq, ne_eq, exists_eq_right_right, exists_eq_right, exists_eq_left, exists_eq_left', rootL, eStr, contains_one]
    refine Br.intro (fun h2 => ?_) (fun h2 => ?_)
    · simp -dsimp -implicitDefEqProofs (disch := omega) only [↓vcOps_sp 7, ↓vcD_sp 7, ↓vcOps_sp 12, ↓vcD_sp 12, VCA, pg_gl, ↓upd_none, Nat.reduceEqDiff, Nat.reduceBEq, Nat.reduceAdd, Nat.reduceSub, Nat.reduceMul, Nat.reduceLT, Nat.reduceLeDiff, ↓reduceIte, reduceCtorEq, rsOf, rootsOf, SOp.rd, SI.rd, SX.rd, rdL, rdO, rdP, okParts, eqCells, okEqCells, fillA, okFill, setAt, implies_true, forall_const, forall_eq, ne_eq, exists_eq_right_right, exists_eq_right, exists_eq_left, exists_eq_left', rootL, eStr]
      refine ⟨by omega, by omega, ?_⟩
      refine pcallE.of (contains_ok hG l _ hl) ?_; simp -dsimp -implicitDefEqProofs (disch := omega) only [↓vcOps_sp 7, ↓vcD_sp 7, ↓vcOps_sp 12, ↓vcD_sp 12, VCA, pg_gl, ↓upd_none, Nat.reduceEqDiff, Nat.reduceBEq, Nat.reduceAdd, Nat.reduceSub, Nat.reduceMul, Nat.reduceLT, Nat.reduceLeDiff, ↓reduceIte, reduceCtorEq, rsOf, rootsOf, SOp.rd, SI.rd, SX.rd, rdL, rdO, rdP, okParts, eqCells, okEqCells, fillA, okFill, setAt, implies_true, forall_const, forall_eq, ne_eq, exists_eq_right_right, exists_eq_right, exists_eq_left, exists_eq_left', rootL, eStr]
      exact ⟨Sub.refl _, by simp [contains_one] at h2; simp only [oneW, bne_iff_ne.2 h1, h2, decide_false, Bool.not_false, Bool.true_and, List.cons_append, List.nil_append]⟩
    · simp -dsimp -implicitDefEqProofs (disch := omega) only [↓vcOps_sp 7, ↓vcD_sp 7, ↓vcOps_sp 12, ↓vcD_sp 12, VCA, pg_gl, ↓upd_none, Nat.reduceEqDiff, Nat.reduceBEq, Nat.reduceAdd, Nat.reduceSub, Nat.reduceMul, Nat.reduceLT, Nat.reduceLeDiff, ↓reduceIte, reduceCtorEq, rsOf, rootsOf, SOp.rd, SI.rd, SX.rd, rdL, rdO, rdP, okParts, eqCells, okEqCells, fillA, okFill, setAt, implies_true, forall_const, forall_eq, ne_eq, exists_eq_right_right, exists_eq_right, exists_eq_left, exists_eq_left', rootL, eStr]
      exact ⟨Sub.refl _, by simp [contains_one] at h2; simp [oneW, h2]⟩
  · simp -dsimp -implicitDefEqProofs (disch := omega) only [↓vcOps_sp 7, ↓vcD_sp 7, ↓vcOps_sp 12, ↓vcD_sp 12, VCA, pg_gl, ↓upd_none, Nat.reduceEqDiff, Nat.reduceBEq, Nat.reduceAdd, Nat.reduceSub, Nat.reduceMul, Nat.reduceLT, Nat.reduceLeDiff, ↓reduceIte, reduceCtorEq, rsOf, rootsOf, SOp.rd, SI.rd, SX.rd, rdL, rdO, rdP, okParts, eqCells, okEqCells, fillA, okFill, setAt, implies_true, forall_const, forall_eq, ne_eq, exists_eq_right_right, exists_eq_right, exists_eq_left, exists_eq_left', rootL, eStr]
    first | exact Sub.refl _ | exact ⟨Sub.refl _, by simp [oneW, h1]⟩
theorem oneM_split (s nm : List UInt8) (hs : [] ∉ splitB 32 [] s) : oneW nm (32 :: (s ++ [32])) = (splitB 32 [] s).any (· == nm) := by
  rw [Bool.eq_iff_iff, oneW, Bool.and_eq_true, Bool.and_eq_true, Bool.not_eq_true', decide_eq_false_iff_not, bne_iff_ne, List.any_beq', List.contains_iff_mem]
  constructor
  · rintro ⟨h1, h2, h3⟩
    exact (split_mem 32 nm s h2).1 h3
  · intro h
    have h2 := splitB_no 32 s nm h
    exact ⟨fun e => hs (e ▸ h), h2, (split_mem 32 nm s h2).2 h⟩
end Go.Proofs.K
end
section
set_option linter.unusedSimpArgs false
set_option linter.unusedVariables false
namespace Go.Proofs.K
open Go Go.Sim Go.Proofs
variable {G : Glob}
def inW (nm s : List UInt8) : Bool := (splitB 32 [] s).any (· == nm)
theorem one_in (hG : MaxLenOK G) (nm s : List UInt8) (hs : ((splitB 32 [] s).any (· == [])) = false) (hn : nm.length < 4294967281) (hl : s.length < 4294967200) : PCalls (Pg G) 120 [.str nm, .str (32 :: (s ++ [32]))] (.bool (inW nm s)) := by
  have h := oneW_ok hG nm (32 :: (s ++ [32])) hn (by simp; omega)
  rw [oneM_split s nm (fun h => by rw [List.any_eq_false] at hs; exact hs _ h rfl)] at h
  exact h
def voidS : List UInt8 := [97, 114, 101, 97, 32, 98, 97, 115, 101, 32, 98, 114, 32, 99, 111, 108, 32, 101, 109, 98, 101, 100, 32, 104, 114, 32, 105, 109, 103, 32, 105, 110, 112, 117, 116, 32, 108, 105, 110, 107, 32, 109, 101, 116, 97, 32, 115, 111, 117, 114, 99, 101, 32, 116, 114, 97, 99, 107, 32, 119, 98, 114]
def k97_1 : List UInt8 := [32, 97, 114, 101, 97, 32, 98, 97, 115, 101, 32, 98, 114, 32, 99, 111, 108, 32, 101, 109, 98, 101, 100, 32, 104, 114, 32, 105, 109, 103, 32, 105, 110, 112, 117, 116, 32, 108, 105, 110, 107, 32, 109, 101, 116, 97, 32, 115, 111, 117, 114, 99, 101, 32, 116, 114, 97, 99, 107, 32, 119, 98, 114, 32]
def c97 : SFun := ⟨.seq (.reg [⟨some 2, .mv (.c (.bool false)), none⟩]) (.seq (.reg [⟨some 3, .mv (.t 0), none⟩, ⟨some 4, .pcall 120 [.t 3, .c (.str k97_1)], none⟩, ⟨some 2, .mv (.t 4), none⟩]) .ret), [.tmp 2]⟩
theorem hc97 : toSF Tryd.prog {pure := [120]} Tryd.f97 = some c97 := by kernel_rfl
theorem hn97 : (Tryd.f97.name == "runtime.NumGoroutine") = false := by kernel_rfl
theorem void_ok (hG : MaxLenOK G) (nm : List UInt8) (hn : nm.length < 4294967281) : PCalls (Pg G) 97 [.str nm] (.bool (inW nm voidS)) := by
  intro h
  refine dcalls_of_vc Tryd.func97 hn97 hc97 (by rw [Tryd.ntmps97]; simp) (by rw [Tryd.ntmps97]; decide) ?_
  have e : k97_1 = 32 :: (voidS ++ [32]) := by decide +kernel
  simp -dsimp -implicitDefEqProofs (disch := omega) only [VCA, pg_gl, ↓upd_none, Nat.reduceEqDiff, Nat.reduceBEq, Nat.reduceAdd, Nat.reduceSub, Nat.reduceMul, Nat.reduceLT, Nat.reduceLeDiff, ↓reduceIte, reduceCtorEq, rsOf, rootsOf, SOp.rd, SI.rd, SX.rd, rdL, rdO, rdP, okParts, eqCells, okEqCells, fillA, okFill, setAt, implies_true, forall_const, forall_eq, ne_eq, exists_eq_right_right, exists_eq_right, exists_eq_left, exists_eq_left', rootL, eStr, c97, e]
  refine pcallE.of (one_in hG nm voidS (by decide +kernel) hn (by decide +kernel)) ?_; simp -dsimp -implicitDefEqProofs (disch := omega) only [VCA, pg_gl, ↓upd_none, Nat.reduceEqDiff, Nat.reduceBEq, Nat.reduceAdd, Nat.reduceSub, Nat.reduceMul, Nat.reduceLT, Nat.reduceLeDiff, ↓reduceIte, reduceCtorEq, rsOf, rootsOf, SOp.rd, SI.rd, SX.rd, rdL, rdO, rdP, okParts, eqCells, okEqCells, fillA, okFill, setAt, implies_true, forall_const, forall_eq, ne_eq, exists_eq_right_right, exists_eq_right, exists_eq_left, exists_eq_left', rootL, eStr]
  first | exact Sub.refl _ | exact ⟨Sub.refl _, by simp []⟩
end Go.Proofs.K
end
section
set_option linter.unusedSimpArgs false
set_option linter.unusedVariables false
namespace Go.Proofs.K
open Go Go.Sim Go.Proofs
variable {G : Glob}
def MaxOK (G : Glob) : Prop := ∃ m, G 0 = .pin [aInt m]
theorem replaceAll_ok (hG : MaxOK G) (s old new : List UInt8) (hs : s.length ≤ 1073741823) (h1 : 1 ≤ old.length) (h2 : new.length ≤ 100) : PCalls (Pg G) 119 [.str s, .str old, .str new] (.str (Lib.replaceAll s old new)) := by
  obtain ⟨m, hG⟩ := hG
  refine ofBelow ⟨_, Tryd.func119, by kernel_rfl, by kernel_rfl⟩ fun g w vs GR V => ?_
  obtain ⟨u, v, x, rfl, hu, hv, hx⟩ : ∃ u v x, vs = #[u, v, x] ∧ VRel g w u (.str s) ∧ VRel g w v (.str old) ∧ VRel g w x (.str new) := by
    obtain ⟨hs, hv⟩ := V
    obtain ⟨l⟩ := vs
    match l, hs with
    | [u, v, x], _ => exact ⟨u, v, x, rfl, hv 0 u _ rfl rfl, hv 1 v _ rfl rfl, hv 2 x _ rfl rfl⟩
  rw [hu.str_inv', hv.str_inv', hx.str_inv']
  have hc : Lib.countB ⟨⟨s⟩⟩ ⟨⟨old⟩⟩ ≤ s.length + 1 := Lib.count_le s old
  have hb : s.length + Lib.countB ⟨⟨s⟩⟩ ⟨⟨old⟩⟩ * new.length ≤ 140737488355328 := by
    have := Nat.mul_le_mul hc h2
    omega
  exact (Tryd.strings_ReplaceAll ⟨⟨s⟩⟩ ⟨⟨old⟩⟩ ⟨⟨new⟩⟩ m w (by show s.length < _; omega) (GR.int hG) h1 hb).mono fun e w' ⟨he, hw⟩ => ⟨_, he, hw, fun g w => VRel.str_mk g w _⟩
section
variable {old new : List UInt8}
def ra (old new s : List UInt8) : List UInt8 := Lib.replaceK old new (Lib.count s old) s
theorem ra_all (hne : old ≠ new) (s : List UInt8) : Lib.replaceAll s old new = ra old new s := by
  unfold Lib.replaceAll Lib.replace ra Lib.replaceNum
  rw [if_neg (by simpa using hne), if_pos (.inl (by decide))]
theorem ra_nil (ho : old ≠ []) : ra old new [] = [] := by
  have : Lib.index [] old = -1 := by unfold Lib.index; rw [if_neg (by cases old <;> simp_all)]
  unfold ra
  rw [Lib.count_miss this]
  rfl
theorem ra_pre (ho : old ≠ []) (t : List UInt8) : ra old new (old ++ t) = new ++ ra old new t := by
  have hi : Lib.index (old ++ t) old = ((0 : Nat) : Int) := by
    obtain ⟨c, r, rfl⟩ := List.exists_cons_of_ne_nil ho
    rw [List.cons_append]; unfold Lib.index
    rw [if_pos (by rw [List.isPrefixOf_iff_prefix]; exact ⟨t, rfl⟩)]; simp
  unfold ra
  rw [Lib.count_hit ho hi, Nat.add_comm 1, Lib.replaceK_hit _ _ _ _ 0 hi]
  simp
theorem ra_cons (ho : old ≠ []) (c : UInt8) (t : List UInt8) (h : old.isPrefixOf (c :: t) = false) : ra old new (c :: t) = c :: ra old new t := by
  have hx : Lib.index (c :: t) old = if Lib.index t old == -1 then -1 else Lib.index t old + 1 := by
    conv => lhs; unfold Lib.index
    rw [if_neg (by rw [h]; simp)]
  have hge := Lib.index_ge t old
  unfold ra
  by_cases hm : Lib.index t old = -1
  · rw [hm] at hx
    rw [Lib.count_miss hx, Lib.count_miss hm]
    rfl
  · obtain ⟨i, hi⟩ : ∃ i : Nat, Lib.index t old = i := ⟨(Lib.index t old).toNat, by omega⟩
    have hj : Lib.index (c :: t) old = ((i + 1 : Nat) : Int) := by rw [hx, hi, if_neg (by simp)]; rfl
    have e : i + 1 + old.length = (i + old.length) + 1 := by omega
    rw [Lib.count_hit ho hj, Lib.count_hit ho hi, Nat.add_comm 1, e, List.drop_succ_cons, Nat.add_comm 1, Lib.replaceK_hit _ _ _ _ _ hj, Lib.replaceK_hit _ _ _ _ _ hi, e, List.drop_succ_cons]
    simp
theorem ra_one (b : UInt8) (new s : List UInt8) : ra [b] new s = s.flatMap fun c => if c = b then new else [c] := by
  induction s with
  | nil => exact ra_nil (by simp)
  | cons c t ih =>
    by_cases h : c = b
    · subst h
      have := ra_pre (old := [c]) (new := new) (by simp) t
      rw [List.singleton_append] at this
      rw [this, List.flatMap_cons, if_pos rfl, ih]
    · have hp : ([b] : List UInt8).isPrefixOf (c :: t) = false := by simp [List.isPrefixOf]; exact fun e => h e.symm
      rw [ra_cons (by simp) c t hp, List.flatMap_cons, if_neg h, ih]; rfl
end
def ampS : List UInt8 := [38, 97, 109, 112, 59]
def nbspS : List UInt8 := [38, 110, 98, 115, 112, 59]
def quotS : List UInt8 := [38, 113, 117, 111, 116, 59]
def ltS : List UInt8 := [38, 108, 116, 59]
def gtS : List UInt8 := [38, 103, 116, 59]
def escC (attr : Bool) (c : UInt8) : List UInt8 := if c = 38 then ampS else if attr = true ∧ c = 34 then quotS else if attr = false ∧ c = 60 then ltS else if attr = false ∧ c = 62 then gtS else [c]
def escD (attr : Bool) (s : List UInt8) : List UInt8 :=
  match s with
  | [] => []
  | c :: t => if c = 194 ∧ t.head? = some 160 then nbspS ++ escD attr t.tail else escC attr c ++ escD attr t
termination_by s.length
decreasing_by
  · simp only [List.length_tail, List.length_cons]; omega
  · simp
theorem escD_nil (attr : Bool) : escD attr [] = [] := by unfold escD; rfl
theorem escD_nb (attr : Bool) (t : List UInt8) : escD attr (194 :: 160 :: t) = nbspS ++ escD attr t := by
  rw [escD]; rw [if_pos ⟨rfl, rfl⟩]; rfl
theorem escD_c (attr : Bool) (c : UInt8) (t : List UInt8) (h : ¬ (c = 194 ∧ t.head? = some 160)) : escD attr (c :: t) = escC attr c ++ escD attr t := by
  rw [escD]; rw [if_neg h]
def ampM (s : List UInt8) : List UInt8 := ra [38] ampS s
def lastM' (attr : Bool) (s : List UInt8) : List UInt8 := if attr = true then ra [34] quotS s else ra [62] gtS (ra [60] ltS s)
theorem last_app (attr : Bool) (a b : List UInt8) : lastM' attr (a ++ b) = lastM' attr a ++ lastM' attr b := by
  unfold lastM'; split <;> simp [ra_one]
theorem last_amp (attr : Bool) : lastM' attr ampS = ampS := by cases attr <;> (simp only [lastM', ra_one]; decide)
theorem last_nbsp (attr : Bool) : lastM' attr nbspS = nbspS := by cases attr <;> (simp only [lastM', ra_one]; decide)
theorem last_nil (attr : Bool) : lastM' attr [] = [] := by cases attr <;> (simp only [lastM', ra_one]; rfl)
theorem last_c (attr : Bool) (c : UInt8) (h : c ≠ 38) : lastM' attr [c] = escC attr c := by
  unfold escC
  rw [if_neg h]
  cases attr
  · simp only [lastM', ra_one, Bool.false_eq_true, if_false, false_and, true_and]
    by_cases h1 : c = 60
    · subst h1; decide
    · by_cases h2 : c = 62
      · subst h2; decide
      · simp [h1, h2]
  · simp only [lastM', ra_one, if_true, true_and]
    by_cases h1 : c = 34
    · subst h1; decide
    · simp [h1]
theorem amp_c (c : UInt8) (t : List UInt8) (h : c ≠ 38) : ampM (c :: t) = c :: ampM t := by simp [ampM, ra_one, h]
theorem amp_a (t : List UInt8) : ampM (38 :: t) = ampS ++ ampM t := by simp [ampM, ra_one]
theorem no194 (c : UInt8) (t : List UInt8) (h : c ≠ 194) : ([194, 160] : List UInt8).isPrefixOf (c :: t) = false := by
  simp only [List.isPrefixOf, Bool.and_eq_false_imp, beq_iff_eq]
  intro e; exact absurd e.symm h
theorem esc_eq (attr : Bool) : ∀ (n : Nat) (s : List UInt8), s.length ≤ n → lastM' attr (ra [194, 160] nbspS (ampM s)) = escD attr s := by
  intro n
  induction n with
  | zero =>
    intro s hs
    have : s = [] := List.eq_nil_of_length_eq_zero (by omega)
    subst this
    rw [escD_nil, show ampM [] = [] from rfl, ra_nil (by simp), last_nil]
  | succ n ih =>
    intro s hs
    cases s with
    | nil => rw [escD_nil, show ampM [] = [] from rfl, ra_nil (by simp), last_nil]
    | cons c t =>
      simp only [List.length_cons] at hs
      by_cases h0 : c = 194 ∧ t.head? = some 160
      · obtain ⟨rfl, h0⟩ := h0
        obtain ⟨u, rfl⟩ : ∃ u, t = 160 :: u := by
          cases t with
          | nil => simp at h0
          | cons x u => simp at h0; subst h0; exact ⟨u, rfl⟩
        simp only [List.length_cons] at hs
        rw [escD_nb, amp_c _ _ (by decide), amp_c _ _ (by decide)]
        have := ra_pre (old := [194, 160]) (new := nbspS) (by simp) (ampM u)
        rw [List.cons_append, List.singleton_append] at this
        rw [this, last_app, last_nbsp, ih u (by omega)]
      · rw [escD_c _ _ _ h0]
        by_cases h1 : c = 38
        · subst h1
          have e : escC attr 38 = ampS := if_pos rfl
          rw [amp_a, e, ← ih t (by omega)]
          have : ra [194, 160] nbspS (ampS ++ ampM t) = ampS ++ ra [194, 160] nbspS (ampM t) := by
            unfold ampS
            simp only [List.cons_append, List.nil_append]
            rw [ra_cons (by simp) _ _ (no194 _ _ (by decide)), ra_cons (by simp) _ _ (no194 _ _ (by decide)), ra_cons (by simp) _ _ (no194 _ _ (by decide)), ra_cons (by simp) _ _ (no194 _ _ (by decide)), ra_cons (by simp) _ _ (no194 _ _ (by decide))]
          rw [this, last_app, last_amp]
        · have hp : ([194, 160] : List UInt8).isPrefixOf (c :: ampM t) = false := by
            by_cases h2 : c = 194
            · subst h2
              cases t with
              | nil => rfl
              | cons x u =>
                have hx : x ≠ 160 := fun e => h0 ⟨rfl, by rw [e]; rfl⟩
                by_cases h3 : x = 38
                · subst h3; rw [amp_a]; rfl
                · rw [amp_c _ _ h3]
                  simp only [List.isPrefixOf, beq_self_eq_true, Bool.true_and, Bool.and_true]
                  rw [beq_eq_false_iff_ne]; exact fun e => hx e.symm
            · exact no194 _ _ h2
          rw [amp_c _ _ h1, ra_cons (by simp) _ _ hp, ← last_c attr c h1, ← ih t (by omega), ← last_app]
          rfl
theorem flat_len {f : UInt8 → List UInt8} {k : Nat} (h : ∀ c, (f c).length ≤ k) (s : List UInt8) : (s.flatMap f).length ≤ k * s.length := by
  induction s with
  | nil => simp
  | cons c t ih => have := h c; simp only [List.flatMap_cons, List.length_append, List.length_cons, Nat.mul_add]; omega
theorem ra_one_len (b : UInt8) (new s : List UInt8) (hn : 1 ≤ new.length) : (ra [b] new s).length ≤ new.length * s.length := by
  rw [ra_one]
  refine flat_len (fun c => ?_) s
  split
  · omega
  · simpa using hn
theorem ra_two_len (s : List UInt8) : ∀ n, s.length ≤ n → (ra [194, 160] nbspS s).length ≤ 6 * s.length := by
  intro n
  induction n generalizing s with
  | zero => intro hs; have : s = [] := List.eq_nil_of_length_eq_zero (by omega); subst this; rw [ra_nil (by simp)]; simp
  | succ n ih =>
    intro hs
    cases s with
    | nil => rw [ra_nil (by simp)]; simp
    | cons c t =>
      simp only [List.length_cons] at hs ⊢
      cases hp : ([194, 160] : List UInt8).isPrefixOf (c :: t) with
      | false =>
        rw [ra_cons (by simp) _ _ hp]
        have := ih t (by omega)
        simp only [List.length_cons]; omega
      | true =>
        rw [List.isPrefixOf_iff_prefix] at hp
        obtain ⟨u, hu⟩ := hp
        rw [← hu, ra_pre (by simp)]
        have hl := congrArg List.length hu
        simp only [List.length_append, List.length_cons, List.length_nil] at hl
        have := ih u (by omega)
        have e : nbspS.length = 6 := rfl
        simp only [List.length_append, e]; omega
def c96 : SFun := ⟨.seq (.reg [⟨some 4, .mv (.c (.str [])), none⟩]) (.seq (.reg [⟨some 5, .mv (.t 0), none⟩, ⟨some 6, .pcall 119 [.t 5, .c (.str [38]), .c (.str [38, 97, 109, 112, 59])], none⟩, ⟨some 0, .mv (.t 6), none⟩]) (.seq (.reg [⟨some 7, .mv (.t 0), none⟩, ⟨some 8, .pcall 119 [.t 7, .c (.str [194, 160]), .c (.str [38, 110, 98, 115, 112, 59])], none⟩, ⟨some 0, .mv (.t 8), none⟩]) (.seq (.seq (.reg [⟨some 9, .mv (.t 1), none⟩]) (.cond (.t 9) (.seq (.reg [⟨some 10, .mv (.t 0), none⟩, ⟨some 11, .pcall 119 [.t 10, .c (.str [34]), .c (.str [38, 113, 117, 111, 116, 59])], none⟩, ⟨some 4, .mv (.t 11), none⟩]) .ret) .skip)) (.seq (.reg [⟨some 12, .mv (.t 0), none⟩, ⟨some 13, .pcall 119 [.t 12, .c (.str [60]), .c (.str [38, 108, 116, 59])], none⟩, ⟨some 14, .pcall 119 [.t 13, .c (.str [62]), .c (.str [38, 103, 116, 59])], none⟩, ⟨some 4, .mv (.t 14), none⟩]) .ret)))), [.tmp 4]⟩
theorem hc96 : toSF Tryd.prog {pure := [119]} Tryd.f96 = some c96 := by kernel_rfl
theorem hn96 : (Tryd.f96.name == "runtime.NumGoroutine") = false := by kernel_rfl
theorem escape_ok (hG : MaxOK G) (s : List UInt8) (attr : Bool) (hs : s.length ≤ 1000000) : PCalls (Pg G) 96 [.str s, .bool attr] (.str (escD attr s)) := fun h => by
  have E := esc_eq attr s.length s (Nat.le_refl _)
  have l1 : (ampM s).length ≤ 5 * s.length := ra_one_len 38 ampS s (by decide)
  have l2 := ra_two_len (ampM s) _ (Nat.le_refl _)
  have c1 := replaceAll_ok hG s [38] ampS (by omega) (by decide) (by decide)
  have c2 := replaceAll_ok hG (ampM s) [194, 160] nbspS (by omega) (by decide) (by decide)
  rw [ra_all (by decide)] at c1 c2
  have hq := replaceAll_ok hG (ra [194, 160] nbspS (ampM s)) [34] quotS (by omega) (by decide) (by decide)
  have hl := replaceAll_ok hG (ra [194, 160] nbspS (ampM s)) [60] ltS (by omega) (by decide) (by decide)
  have l3 := ra_one_len 60 ltS (ra [194, 160] nbspS (ampM s)) (by decide)
  have e4 : ltS.length = 4 := rfl
  rw [e4] at l3
  have hg := replaceAll_ok hG (ra [60] ltS (ra [194, 160] nbspS (ampM s))) [62] gtS (by omega) (by decide) (by decide)
  rw [ra_all (by decide)] at hq hl hg
  unfold lastM' at E
  have c1 : PCalls (Pg G) 119 [.str s, .str [38], .str [38, 97, 109, 112, 59]] (.str (ampM s)) := c1
  have c2 : PCalls (Pg G) 119 [.str (ampM s), .str [194, 160], .str [38, 110, 98, 115, 112, 59]] (.str (ra [194, 160] nbspS (ampM s))) := c2
  have hq : PCalls (Pg G) 119 [.str (ra [194, 160] nbspS (ampM s)), .str [34], .str [38, 113, 117, 111, 116, 59]] (.str (ra [34] quotS (ra [194, 160] nbspS (ampM s)))) := hq
  have hl : PCalls (Pg G) 119 [.str (ra [194, 160] nbspS (ampM s)), .str [60], .str [38, 108, 116, 59]] (.str (ra [60] ltS (ra [194, 160] nbspS (ampM s)))) := hl
  have hg : PCalls (Pg G) 119 [.str (ra [60] ltS (ra [194, 160] nbspS (ampM s))), .str [62], .str [38, 103, 116, 59]] (.str (ra [62] gtS (ra [60] ltS (ra [194, 160] nbspS (ampM s))))) := hg
  refine dcalls_of_vc Tryd.func96 hn96 hc96 (by rw [Tryd.ntmps96]; simp) (by rw [Tryd.ntmps96]; decide) ?_
  cases attr
  · rw [if_neg (by simp)] at E
    simp -dsimp -implicitDefEqProofs (disch := omega) only [VCA, pg_gl, ↓upd_none, Nat.reduceEqDiff, Nat.reduceBEq, Nat.reduceAdd, Nat.reduceSub, Nat.reduceMul, Nat.reduceLT, Nat.reduceLeDiff, ↓reduceIte, reduceCtorEq, rsOf, rootsOf, SOp.rd, SI.rd, SX.rd, rdL, rdO, rdP, okParts, eqCells, okEqCells, fillA, okFill, setAt, implies_true, forall_const, forall_eq, ne_eq, exists_eq_right_right, exists_eq_right, exists_eq_left, exists_eq_left', rootL, eRune, eName, c96]
    repeat' (first | ((with_reducible refine brC (fun _ => ?_) fun _ => ?_) <;> try (exfalso; omega)) | (with_reducible apply pcallE.of; · exact c1) | (with_reducible apply pcallE.of; · exact c2) | (with_reducible apply pcallE.of; · exact hl) | (with_reducible apply pcallE.of; · exact hg) | (with_reducible refine And.intro ?_ ?_; · omega) | simp -dsimp -implicitDefEqProofs (disch := omega) only [VCA, pg_gl, ↓upd_none, Nat.reduceEqDiff, Nat.reduceBEq, Nat.reduceAdd, Nat.reduceSub, Nat.reduceMul, Nat.reduceLT, Nat.reduceLeDiff, ↓reduceIte, reduceCtorEq, rsOf, rootsOf, SOp.rd, SI.rd, SX.rd, rdL, rdO, rdP, okParts, eqCells, okEqCells, fillA, okFill, setAt, implies_true, forall_const, forall_eq, ne_eq, exists_eq_right_right, exists_eq_right, exists_eq_left, exists_eq_left', rootL, eRune, eName])
    exact ⟨Sub.refl _, by rw [E]⟩
  · rw [if_pos rfl] at E
    simp -dsimp -implicitDefEqProofs (disch := omega) only [VCA, pg_gl, ↓upd_none, Nat.reduceEqDiff, Nat.reduceBEq, Nat.reduceAdd, Nat.reduceSub, Nat.reduceMul, Nat.reduceLT, Nat.reduceLeDiff, ↓reduceIte, reduceCtorEq, rsOf, rootsOf, SOp.rd, SI.rd, SX.rd, rdL, rdO, rdP, okParts, eqCells, okEqCells, fillA, okFill, setAt, implies_true, forall_const, forall_eq, ne_eq, exists_eq_right_right, exists_eq_right, exists_eq_left, exists_eq_left', rootL, eRune, eName, c96]
    repeat' (first | ((with_reducible refine brC (fun _ => ?_) fun _ => ?_) <;> try (exfalso; omega)) | (with_reducible apply pcallE.of; · exact c1) | (with_reducible apply pcallE.of; · exact c2) | (with_reducible apply pcallE.of; · exact hq) | (with_reducible refine And.intro ?_ ?_; · omega) | simp -dsimp -implicitDefEqProofs (disch := omega) only [VCA, pg_gl, ↓upd_none, Nat.reduceEqDiff, Nat.reduceBEq, Nat.reduceAdd, Nat.reduceSub, Nat.reduceMul, Nat.reduceLT, Nat.reduceLeDiff, ↓reduceIte, reduceCtorEq, rsOf, rootsOf, SOp.rd, SI.rd, SX.rd, rdL, rdO, rdP, okParts, eqCells, okEqCells, fillA, okFill, setAt, implies_true, forall_const, forall_eq, ne_eq, exists_eq_right_right, exists_eq_right, exists_eq_left, exists_eq_left', rootL, eRune, eName])
    exact ⟨Sub.refl _, by rw [E]⟩
end Go.Proofs.K
end
section
set_option linter.unusedSimpArgs false
set_option linter.unusedVariables false
namespace Go.Proofs.K
open Go Go.Sim Go.Proofs
variable {G : Glob}
structure HNode where
  kind : Int
  name : List UInt8
  attrs : List HAttr
  text : List UInt8
  parent : Int
  kids : List Int
deriving DecidableEq, Inhabited
def eNode (x : HNode) : List AVal := [aInt x.kind, .str x.name, sl eAttr x.attrs, .str x.text, aInt x.parent, sl eInt x.kids]
instance : LenE eNode 6 := ⟨fun _ => rfl⟩
structure HDoc where
  nodes : List HNode
  quirks : Bool
deriving DecidableEq, Inhabited
def eDoc (d : HDoc) : List AVal := [sl eNode d.nodes, .bool d.quirks]
instance : LenE eDoc 2 := ⟨fun _ => rfl⟩
def nd (d : HDoc) (n : Int) : HNode := nth d.nodes n.toNat
structure NodeSm (x : HNode) : Prop where
  name : x.name.length ≤ 1073741824
  attrs : x.attrs.length ≤ 1073741824
  each : ∀ a ∈ x.attrs, a.name.length ≤ 1073741824 ∧ a.value.length ≤ 1073741824
  text : x.text.length ≤ 1073741824
  kids : x.kids.length ≤ 1073741824
structure DocSm (d : HDoc) : Prop where
  len : d.nodes.length ≤ 1073741824
  each : ∀ x ∈ d.nodes, NodeSm x
theorem nodeSm_default : NodeSm default := ⟨by decide, by decide, (fun a ha => by cases ha), by decide, by decide⟩
theorem nth_def {α : Type} [Inhabited α] {l : List α} {k : Nat} (h : ¬ k < l.length) : nth l k = default := by
  unfold nth; rw [List.getD_eq_getElem?_getD, List.getElem?_eq_none (by omega)]; rfl
theorem DocSm.nth {d : HDoc} (h : DocSm d) (k : Nat) : NodeSm (nth d.nodes k) := by
  by_cases hk : k < d.nodes.length
  · exact h.each _ (nth_mem' hk)
  · rw [nth_def hk]; exact nodeSm_default
theorem DocSm.nd {d : HDoc} (h : DocSm d) (n : Int) : NodeSm (nd d n) := h.nth _
def fe : Nat → (Nat → Int) → Int
  | 0, _ => 0
  | n + 1, f => if fe n f ≠ 0 then fe n f else f n
theorem fe_none {n : Nat} {f : Nat → Int} (h : ∀ j, j < n → f j = 0) : fe n f = 0 := by
  induction n with
  | zero => rfl
  | succ n ih => unfold fe; rw [if_neg (by rw [ih fun j hj => h j (by omega)]; simp)]; exact h n (by omega)
theorem fe_some {n k : Nat} {f : Nat → Int} (hk : k < n) (h1 : ∀ j, j < k → f j = 0) (h2 : f k ≠ 0) : fe n f = f k := by
  induction n with
  | zero => omega
  | succ n ih =>
    unfold fe
    by_cases hkn : k = n
    · subst hkn; rw [if_neg (by rw [fe_none h1]; simp)]
    · have := ih (by omega); rw [this, if_pos h2]
theorem fe_zero {n : Nat} {f : Nat → Int} (h : fe n f = 0) : ∀ j, j < n → f j = 0 := by
  induction n with
  | zero => intro j hj; omega
  | succ n ih =>
    unfold fe at h
    split at h
    · rename_i h1; exact absurd h h1
    · rename_i h1
      have h1 : fe n f = 0 := by simpa using h1
      intro j hj
      by_cases hjn : j = n
      · subst hjn; exact h
      · exact ih h1 j (by omega)
theorem fe_iff {n : Nat} {f : Nat → Int} : fe n f = 0 ↔ ∀ j, j < n → f j = 0 := ⟨fe_zero, fe_none⟩
def signB (b : UInt8) : Bool := (decide (97 ≤ b.toNat) && decide (b.toNat ≤ 122)) || ((decide (48 ≤ b.toNat) && decide (b.toNat ≤ 57)) || (b == 45 || (b == 95 || b == 58)))
def firstB (element : Bool) (b : UInt8) : Bool := (decide (97 ≤ b.toNat) && decide (b.toNat ≤ 122)) || (!element && (b == 45 || b == 95))
def nameOK (element : Bool) (s : List UInt8) : Bool := decide (1 ≤ s.length) && (decide (s.length ≤ 40) && (firstB element (s.getD 0 0) && s.all signB))
def attrAt (l : List HAttr) (name : List UInt8) : Int := idxM (fun a => a.name == name) l
def attrE (l : List HAttr) (i : Nat) : Int :=
  if nameOK false (nth l i).name = false then 3 else if 400 < (nth l i).value.length then 2 else if 0 ≤ attrAt (l.take i) (nth l i).name then 3 else 0
def attrsE (l : List HAttr) : Int := if 12 < l.length then 2 else fe l.length (attrE l)
def bareM (x : HNode) : Bool :=
  (decide (x.kind = 2) || decide (x.kind = 5) || decide (x.name = [])) && (decide (x.kind = 2) || decide (x.attrs = [])) && (decide (x.kind = 3) || decide (x.kind = 4) || decide (x.text = [])) && (decide (x.kind = 1) || decide (x.kind = 2) || decide (x.kids = []))
def nodeE (x : HNode) : Int :=
  if x.kind < 1 ∨ 5 < x.kind ∨ bareM x = false then 7 else if x.kind = 2 ∧ nameOK true x.name = false then 3
  else if attrsE x.attrs ≠ 0 then attrsE x.attrs else if 400 < x.text.length ∨ 400 < x.name.length then 2 else 0
def inD (d : HDoc) (n : Int) : Prop := 0 ≤ n ∧ n < d.nodes.length
instance (d : HDoc) (n : Int) : Decidable (inD d n) := by unfold inD; infer_instance
def headE (d : HDoc) (i : Nat) : Int := if ¬ ((nth d.nodes i).kind = 1 ↔ i = 0) then 3 else nodeE (nth d.nodes i)
def kidE (d : HDoc) (i k : Nat) : Int :=
  let kid := nth (nth d.nodes i).kids k
  if ¬ inD d kid ∨ (nd d kid).parent ≠ i ∨ kid ∈ (nth d.nodes i).kids.take k then 3 else if i = 0 ∧ (nd d kid).kind = 3 then 7 else 0
def kidsE (d : HDoc) (i : Nat) : Int := fe (nth d.nodes i).kids.length (kidE d i)
def parE (d : HDoc) (i : Nat) : Int :=
  let p := (nth d.nodes i).parent
  if p ≠ -1 ∧ (¬ inD d p ∨ (i : Int) ∉ (nd d p).kids) then 3 else 0
def upF : Nat → HDoc → Int → Nat
  | 0, _, _ => 0
  | f + 1, d, n => if 0 ≤ (nd d n).parent then upF f d (nd d n).parent + 1 else 0
def up (d : HDoc) (n : Int) : Nat := upF (d.nodes.length + 1) d n
def deepE (d : HDoc) (i : Nat) : Int := if d.nodes.length < up d i then 8 else if 40 < up d i then 2 else 0
def docE (d : HDoc) : Int :=
  if 200 < d.nodes.length then 2 else if d.nodes.length = 0 then 3
  else if fe d.nodes.length (headE d) ≠ 0 then fe d.nodes.length (headE d)
  else if fe d.nodes.length (kidsE d) ≠ 0 then fe d.nodes.length (kidsE d)
  else if fe d.nodes.length (parE d) ≠ 0 then fe d.nodes.length (parE d)
  else if (nd d 0).parent ≠ -1 then 3
  else fe d.nodes.length (deepE d)
end Go.Proofs.K
end
section
set_option linter.unusedSimpArgs false
set_option linter.unusedVariables false
namespace Go.Proofs.K
open Go Go.Sim Go.Proofs
theorem nd_nat (d : HDoc) (i : Nat) : nd d (i : Int) = nth d.nodes i := by simp [nd]
theorem inD_nat {d : HDoc} {i : Nat} : inD d (i : Int) ↔ i < d.nodes.length := by unfold inD; omega
theorem inD.nat {d : HDoc} {n : Int} (h : inD d n) : n.toNat < d.nodes.length ∧ (n.toNat : Int) = n := by unfold inD at h; omega
theorem nodup_of_take {α : Type} [Inhabited α] {l : List α} (h : ∀ k, k < l.length → nth l k ∉ l.take k) : l.Nodup := by
  rw [List.Nodup, List.pairwise_iff_getElem]
  intro i j hi hj hij heq
  have hn : ∀ j (hj : j < l.length), l[j] = nth l j := fun j hj => by have := nth_some hj; rw [List.getElem?_eq_getElem hj] at this; exact Option.some.inj this
  refine h j hj ?_
  rw [← hn j hj, ← heq, List.mem_take_iff_getElem]
  exact ⟨i, by omega, rfl⟩
theorem take_of_nodup {α : Type} [Inhabited α] {l : List α} (h : l.Nodup) {k : Nat} (hk : k < l.length) : nth l k ∉ l.take k := by
  intro hm
  have hn : ∀ j (hj : j < l.length), l[j] = nth l j := fun j hj => by have := nth_some hj; rw [List.getElem?_eq_getElem hj] at this; exact Option.some.inj this
  rw [List.mem_take_iff_getElem] at hm
  obtain ⟨i, hi, he⟩ := hm
  rw [List.Nodup, List.pairwise_iff_getElem] at h
  rw [← hn k hk] at he
  exact h i k (by omega) hk (by omega) he
theorem upF_mono {d : HDoc} : ∀ {f : Nat} {n : Int} {g : Nat}, upF f d n < f → f ≤ g → upF g d n = upF f d n
  | 0, n, g, h, _ => by omega
  | f + 1, n, 0, _, h => by omega
  | f + 1, n, g + 1, h, hg => by
    unfold upF at h ⊢
    split
    · rename_i hp
      rw [if_pos hp] at h
      rw [upF_mono (f := f) (by omega) (by omega)]
    · rfl
structure DV (d : HDoc) : Prop where
  pos : 0 < d.nodes.length
  len : d.nodes.length ≤ 200
  kind : ∀ n, inD d n → ((nd d n).kind = 1 ↔ n = 0)
  node : ∀ n, inD d n → nodeE (nd d n) = 0
  kid : ∀ n, inD d n → ∀ k ∈ (nd d n).kids, inD d k ∧ (nd d k).parent = n
  nodup : ∀ n, inD d n → (nd d n).kids.Nodup
  top : ∀ k ∈ (nd d 0).kids, (nd d k).kind ≠ 3
  par : ∀ n, inD d n → (nd d n).parent = -1 ∨ (inD d (nd d n).parent ∧ n ∈ (nd d (nd d n).parent).kids)
  root : (nd d 0).parent = -1
  fin : ∀ n, inD d n → up d n ≤ d.nodes.length
  deep : ∀ n, inD d n → up d n ≤ 40
theorem docE_iff (d : HDoc) : docE d = 0 ↔ DV d := by
  have all : ∀ {p : Int → Prop}, (∀ n, inD d n → p n) ↔ ∀ i : Nat, i < d.nodes.length → p i := fun {p} =>
    ⟨fun h i hi => h i (inD_nat.2 hi), fun h n hn => by have := h n.toNat hn.nat.1; rwa [hn.nat.2] at this⟩
  have h1 : fe d.nodes.length (headE d) = 0 ↔ ∀ n, inD d n → ((nd d n).kind = 1 ↔ n = 0) ∧ nodeE (nd d n) = 0 := by
    rw [fe_iff, all]
    refine forall_congr' fun i => imp_congr_right fun hi => ?_
    unfold headE
    rw [nd_nat]
    by_cases hc : (nth d.nodes i).kind = 1 ↔ i = 0
    · rw [if_neg (by simpa using hc)]
      exact ⟨fun h => ⟨hc.trans (by omega), h⟩, fun h => h.2⟩
    · rw [if_pos hc]
      exact ⟨fun h => by omega, fun h => absurd (h.1.trans (by omega)) hc⟩
  have h2 : fe d.nodes.length (kidsE d) = 0 ↔ (∀ n, inD d n → (∀ k ∈ (nd d n).kids, inD d k ∧ (nd d k).parent = n) ∧ (nd d n).kids.Nodup) ∧ (0 < d.nodes.length → ∀ k ∈ (nd d 0).kids, (nd d k).kind ≠ 3) := by
    rw [fe_iff, all]
    constructor
    · intro h
      refine ⟨fun i hi => ?_, fun h0 k hk => ?_⟩
      · have hi' := fe_zero (h i hi)
        rw [nd_nat]
        refine ⟨fun k hk => ?_, nodup_of_take fun k hk => ?_⟩
        · obtain ⟨j, hj, rfl⟩ := mem_nth hk
          have := hi' j hj
          unfold kidE at this
          simp only at this
          split at this
          · omega
          · rename_i hn
            simp only [not_or, Classical.not_not] at hn
            exact ⟨hn.1, hn.2.1⟩
        · have := hi' k hk
          unfold kidE at this
          simp only at this
          split at this
          · omega
          · rename_i hn
            simp only [not_or] at hn
            exact hn.2.2
      · have hi' := fe_zero (h 0 h0)
        have e0 : nd d 0 = nth d.nodes 0 := nd_nat d 0
        rw [e0] at hk
        obtain ⟨j, hj, rfl⟩ := mem_nth hk
        have := hi' j hj
        unfold kidE at this
        simp only at this
        split at this
        · omega
        · split at this
          · omega
          · rename_i hn
            intro hh
            exact hn (by simpa using hh)
    · intro ⟨h, ht⟩ i hi
      refine fe_none fun k hk => ?_
      have hi' := h i hi
      rw [nd_nat] at hi'
      have hm := nth_mem' hk
      unfold kidE
      simp only
      rw [if_neg, if_neg]
      · rintro ⟨rfl, hh⟩
        exact ht (by omega) _ (by rw [show nd d 0 = nth d.nodes 0 from nd_nat d 0]; exact hm) hh
      · simp only [not_or, Classical.not_not]
        exact ⟨(hi'.1 _ hm).1, (hi'.1 _ hm).2, take_of_nodup hi'.2 hk⟩
  have h3 : fe d.nodes.length (parE d) = 0 ↔ ∀ n, inD d n → (nd d n).parent = -1 ∨ (inD d (nd d n).parent ∧ n ∈ (nd d (nd d n).parent).kids) := by
    rw [fe_iff, all]
    refine forall_congr' fun i => imp_congr_right fun hi => ?_
    unfold parE
    simp only
    rw [nd_nat]
    by_cases hp : (nth d.nodes i).parent = -1
    · rw [if_neg (by simp [hp])]; simp [hp]
    · by_cases hq : inD d (nth d.nodes i).parent ∧ (i : Int) ∈ (nd d (nth d.nodes i).parent).kids
      · rw [if_neg (by rintro ⟨_, hh⟩; exact hh.elim (fun h => h hq.1) (fun h => h hq.2))]
        exact ⟨fun _ => .inr hq, fun _ => rfl⟩
      · rw [if_pos ⟨hp, by rw [← Classical.not_and_iff_not_or_not]; exact hq⟩]
        exact ⟨fun h => by omega, fun h => absurd (h.resolve_left hp) hq⟩
  have h4 : fe d.nodes.length (deepE d) = 0 ↔ ∀ n, inD d n → up d n ≤ d.nodes.length ∧ up d n ≤ 40 := by
    rw [fe_iff, all]
    refine forall_congr' fun i => imp_congr_right fun hi => ?_
    unfold deepE
    split
    · omega
    · split <;> omega
  constructor
  · intro h
    unfold docE at h
    split at h
    · omega
    · split at h
      · omega
      · split at h
        · contradiction
        · split at h
          · contradiction
          · split at h
            · contradiction
            · split at h
              · omega
              · rename_i g1 g2 g3 g4 g5 g6
                simp only [ne_eq, Classical.not_not] at g3 g4 g5 g6
                have k1 := h1.1 g3
                have k2 := h2.1 g4
                have k3 := h3.1 g5
                have k4 := h4.1 h
                exact ⟨by omega, by omega, fun n hn => (k1 n hn).1, fun n hn => (k1 n hn).2, fun n hn => (k2.1 n hn).1, fun n hn => (k2.1 n hn).2, k2.2 (by omega), k3, g6, fun n hn => (k4 n hn).1, fun n hn => (k4 n hn).2⟩
  · intro V
    have hl := V.len
    have hp := V.pos
    unfold docE
    rw [if_neg (by omega), if_neg (by omega), if_neg, if_neg, if_neg, if_neg (by simp [V.root])]
    · exact h4.2 fun n hn => ⟨V.fin n hn, V.deep n hn⟩
    · simp only [ne_eq, Classical.not_not]; exact h3.2 V.par
    · simp only [ne_eq, Classical.not_not]; exact h2.2 ⟨fun n hn => ⟨V.kid n hn, V.nodup n hn⟩, fun _ => V.top⟩
    · simp only [ne_eq, Classical.not_not]; exact h1.2 fun n hn => ⟨V.kind n hn, V.node n hn⟩
section
variable {d : HDoc}
theorem DV.zero (V : DV d) : inD d 0 := by have := V.pos; unfold inD; omega
theorem DV.par_in (V : DV d) {n : Int} (hn : inD d n) (hp : 0 ≤ (nd d n).parent) : inD d (nd d n).parent ∧ n ∈ (nd d (nd d n).parent).kids := by
  rcases V.par n hn with h | h
  · omega
  · exact h
theorem DV.up_par (V : DV d) {n : Int} (hn : inD d n) (hp : 0 ≤ (nd d n).parent) : up d n = up d (nd d n).parent + 1 := by
  have h1 : up d n = upF d.nodes.length d (nd d n).parent + 1 := by unfold up; conv => lhs; unfold upF
                                                                    rw [if_pos hp]
  have h2 := V.fin n hn
  have h3 : up d (nd d n).parent = upF d.nodes.length d (nd d n).parent := upF_mono (f := d.nodes.length) (by omega) (by omega)
  rw [h1, h3]
theorem DV.up_top (V : DV d) {n : Int} (hp : ¬ 0 ≤ (nd d n).parent) : up d n = 0 := by unfold up upF; rw [if_neg hp]
theorem DV.up_kid (V : DV d) {n k : Int} (hn : inD d n) (hk : k ∈ (nd d n).kids) : up d k = up d n + 1 := by
  obtain ⟨h1, h2⟩ := V.kid n hn k hk
  have := V.up_par h1 (by rw [h2]; exact hn.1)
  rwa [h2] at this
theorem DV.up_lt (V : DV d) {n k : Int} (hn : inD d n) (hk : k ∈ (nd d n).kids) : up d n < 40 := by
  have := V.up_kid hn hk
  have := V.deep k (V.kid n hn k hk).1
  omega
theorem DV.down (V : DV d) {p : Int → Prop} (h : ∀ n, inD d n → (∀ k ∈ (nd d n).kids, p k) → p n) : ∀ n, inD d n → p n := by
  have : ∀ m n, inD d n → 40 ≤ m + up d n → p n := by
    intro m
    induction m with
    | zero => intro n hn hm; exact h n hn fun k hk => by have := V.up_lt hn hk; omega
    | succ m ih => intro n hn hm; exact h n hn fun k hk => ih k (V.kid n hn k hk).1 (by have := V.up_kid hn hk; omega)
  exact fun n hn => this 40 n hn (by omega)
theorem DV.rise (V : DV d) {p : Int → Prop} (h : ∀ n, inD d n → (0 ≤ (nd d n).parent → p (nd d n).parent) → p n) : ∀ n, inD d n → p n := by
  have : ∀ m n, inD d n → up d n ≤ m → p n := by
    intro m
    induction m with
    | zero => intro n hn hm; exact h n hn fun hp => by have := V.up_par hn hp; omega
    | succ m ih => intro n hn hm; exact h n hn fun hp => ih _ (V.par_in hn hp).1 (by have := V.up_par hn hp; omega)
  exact fun n hn => this _ n hn (Nat.le_refl _)
def belF : Nat → HDoc → Int → List Int
  | 0, _, n => [n]
  | f + 1, d, n => n :: (nd d n).kids.flatMap (belF f d)
def below (d : HDoc) (n : Int) : List Int := belF 40 d n
theorem flatMap_congr' {α β : Type} {l : List α} {f g : α → List β} (h : ∀ x ∈ l, f x = g x) : l.flatMap f = l.flatMap g := by
  induction l with
  | nil => rfl
  | cons x r ih => rw [List.flatMap_cons, List.flatMap_cons, h x List.mem_cons_self, ih fun y hy => h y (List.mem_cons_of_mem _ hy)]
theorem belF_eq (V : DV d) : ∀ (f g : Nat) (n : Int), inD d n → 40 ≤ f + up d n → 40 ≤ g + up d n → belF f d n = belF g d n
  | 0, 0, _, _, _, _ => rfl
  | 0, g + 1, n, hn, hf, _ => by
    have : (nd d n).kids = [] := List.eq_nil_iff_forall_not_mem.2 fun k hk => by have := V.up_lt hn hk; omega
    simp [belF, this]
  | f + 1, 0, n, hn, _, hg => by
    have : (nd d n).kids = [] := List.eq_nil_iff_forall_not_mem.2 fun k hk => by have := V.up_lt hn hk; omega
    simp [belF, this]
  | f + 1, g + 1, n, hn, hf, hg => by
    unfold belF
    rw [flatMap_congr' fun k hk => belF_eq V f g k (V.kid n hn k hk).1 (by have := V.up_kid hn hk; omega) (by have := V.up_kid hn hk; omega)]
theorem below_eq (V : DV d) {n : Int} (hn : inD d n) : below d n = n :: (nd d n).kids.flatMap (below d) := by
  have : below d n = n :: (nd d n).kids.flatMap (belF 39 d) := rfl
  rw [this, flatMap_congr' fun k hk => belF_eq V 39 40 k (V.kid n hn k hk).1 (by have := V.up_kid hn hk; omega) (by omega)]
  rfl
theorem below_in (V : DV d) : ∀ n, inD d n → ∀ m ∈ below d n, inD d m := V.down fun n hn ih m hm => by
  rw [below_eq V hn] at hm
  rcases List.mem_cons.1 hm with rfl | hm
  · exact hn
  · obtain ⟨k, hk, hm⟩ := List.mem_flatMap.1 hm
    exact ih k hk m hm
theorem below_self (V : DV d) {n : Int} (hn : inD d n) : n ∈ below d n := by rw [below_eq V hn]; exact List.mem_cons_self
def chF : Nat → HDoc → Int → List Int
  | 0, _, n => [n]
  | f + 1, d, n => if 0 ≤ (nd d n).parent then n :: chF f d (nd d n).parent else [n]
def chain (d : HDoc) (n : Int) : List Int := chF 40 d n
theorem chF_eq (V : DV d) : ∀ (f g : Nat) (n : Int), inD d n → up d n ≤ f → up d n ≤ g → chF f d n = chF g d n
  | 0, 0, _, _, _, _ => rfl
  | 0, g + 1, n, hn, hf, _ => by
    have : ¬ 0 ≤ (nd d n).parent := fun hp => by have := V.up_par hn hp; omega
    simp [chF, this]
  | f + 1, 0, n, hn, _, hg => by
    have : ¬ 0 ≤ (nd d n).parent := fun hp => by have := V.up_par hn hp; omega
    simp [chF, this]
  | f + 1, g + 1, n, hn, hf, hg => by
    unfold chF
    split
    · rename_i hp
      rw [chF_eq V f g _ (V.par_in hn hp).1 (by have := V.up_par hn hp; omega) (by have := V.up_par hn hp; omega)]
    · rfl
theorem chain_up (V : DV d) {n : Int} (hn : inD d n) (hp : 0 ≤ (nd d n).parent) : chain d n = n :: chain d (nd d n).parent := by
  have : chain d n = n :: chF 39 d (nd d n).parent := by
    have e : ∀ f, chF (f + 1) d n = n :: chF f d (nd d n).parent := fun f => by rw [chF, if_pos hp]
    exact e 39
  rw [this, chF_eq V 39 40 _ (V.par_in hn hp).1 (by have := V.up_par hn hp; have := V.deep n hn; omega) (V.deep _ (V.par_in hn hp).1)]
  rfl
theorem chain_top (V : DV d) {n : Int} (hp : ¬ 0 ≤ (nd d n).parent) : chain d n = [n] := by
  have e : ∀ f, chF (f + 1) d n = [n] := fun f => by rw [chF, if_neg hp]
  exact e 39
theorem chain_self (d : HDoc) (n : Int) : n ∈ chain d n := by show n ∈ chF 40 d n; unfold chF; split <;> simp
theorem chain_le (V : DV d) : ∀ n, inD d n → ∀ m ∈ chain d n, up d m ≤ up d n ∧ (up d m = up d n → m = n) := V.rise fun n hn ih m hm => by
  by_cases hp : 0 ≤ (nd d n).parent
  · rw [chain_up V hn hp] at hm
    rcases List.mem_cons.1 hm with rfl | hm
    · exact ⟨Nat.le_refl _, fun _ => rfl⟩
    · have := ih hp m hm
      have := V.up_par hn hp
      exact ⟨by omega, fun h => by omega⟩
  · rw [chain_top V hp] at hm; simp at hm; subst hm; exact ⟨Nat.le_refl _, fun _ => rfl⟩
theorem chain_one (V : DV d) : ∀ n, inD d n → ∀ a ∈ chain d n, ∀ b ∈ chain d n, up d a = up d b → a = b := V.rise fun n hn ih a ha b hb hab => by
  by_cases hp : 0 ≤ (nd d n).parent
  · have hu := V.up_par hn hp
    rw [chain_up V hn hp] at ha hb
    have hle := fun m hm => (chain_le V _ (V.par_in hn hp).1 m hm).1
    rcases List.mem_cons.1 ha with rfl | ha <;> rcases List.mem_cons.1 hb with rfl | hb
    · rfl
    · have := hle b hb; omega
    · have := hle a ha; omega
    · exact ih hp a ha b hb hab
  · rw [chain_top V hp] at ha hb; simp at ha hb; rw [ha, hb]
theorem chain_trans (V : DV d) : ∀ n, inD d n → ∀ m ∈ chain d n, ∀ t ∈ chain d m, t ∈ chain d n := V.rise fun n hn ih m hm t ht => by
  by_cases hp : 0 ≤ (nd d n).parent
  · rw [chain_up V hn hp] at hm ⊢
    rcases List.mem_cons.1 hm with rfl | hm
    · rw [← chain_up V hn hp]; exact ht
    · exact List.mem_cons_of_mem _ (ih hp m hm t ht)
  · rw [chain_top V hp] at hm; simp at hm; subst hm; exact ht
theorem mem_below (V : DV d) {m n : Int} (hm : inD d m) (hn : inD d n) : m ∈ below d n ↔ n ∈ chain d m := by
  constructor
  · revert m hm
    refine V.down (p := fun n => ∀ {m}, inD d m → m ∈ below d n → n ∈ chain d m) (fun n hn ih m hm h => ?_) n hn
    rw [below_eq V hn] at h
    rcases List.mem_cons.1 h with rfl | h
    · exact chain_self _ _
    · obtain ⟨k, hk, h⟩ := List.mem_flatMap.1 h
      have h1 := ih k hk hm h
      have h2 := V.kid n hn k hk
      refine chain_trans V m hm k h1 n ?_
      rw [chain_up V h2.1 (by rw [h2.2]; exact hn.1), h2.2]
      exact List.mem_cons_of_mem _ (chain_self _ _)
  · revert n hn
    refine V.rise (p := fun m => ∀ {n}, inD d n → n ∈ chain d m → m ∈ below d n) (fun m hm ih n hn h => ?_) m hm
    by_cases hp : 0 ≤ (nd d m).parent
    · rw [chain_up V hm hp] at h
      rcases List.mem_cons.1 h with rfl | h
      · exact below_self V hm
      · have h1 := ih hp hn h
        obtain ⟨h2, h3⟩ := V.par_in hm hp
        generalize (nd d m).parent = q at *
        clear ih hp
        revert h1
        refine V.down (p := fun n => q ∈ below d n → m ∈ below d n) (fun n hn ih h1 => ?_) n hn
        rw [below_eq V hn] at h1 ⊢
        rcases List.mem_cons.1 h1 with rfl | h1
        · exact List.mem_cons_of_mem _ (List.mem_flatMap.2 ⟨m, h3, below_self V hm⟩)
        · obtain ⟨k, hk, h1⟩ := List.mem_flatMap.1 h1
          exact List.mem_cons_of_mem _ (List.mem_flatMap.2 ⟨k, hk, ih k hk h1⟩)
    · rw [chain_top V hp] at h; simp at h; subst h; exact below_self V hm
theorem below_nodup (V : DV d) : ∀ n, inD d n → (below d n).Nodup := V.down fun n hn ih => by
  rw [below_eq V hn, List.nodup_cons]
  constructor
  · intro hm
    obtain ⟨k, hk, hm⟩ := List.mem_flatMap.1 hm
    have h1 := (mem_below V hn (V.kid n hn k hk).1).1 hm
    have := (chain_le V n hn k h1).1
    have := V.up_kid hn hk
    omega
  · rw [List.nodup_iff_pairwise_ne, List.pairwise_flatMap]
    refine ⟨fun k hk => List.nodup_iff_pairwise_ne.1 (ih k hk), ?_⟩
    have := V.nodup n hn
    rw [List.nodup_iff_pairwise_ne] at this
    refine this.imp_of_mem fun {a b} ha hb hab x hx y hy hxy => ?_
    subst hxy
    have ia := (V.kid n hn a ha).1
    have ib := (V.kid n hn b hb).1
    have ix := below_in V a ia x hx
    exact hab (chain_one V x ix a ((mem_below V ix ia).1 hx) b ((mem_below V ix ib).1 hy) (by rw [V.up_kid hn ha, V.up_kid hn hb]))
theorem nodup_filter {α : Type} [DecidableEq α] (a : α) : ∀ (l : List α), l.Nodup → l.length ≤ (l.filter (· ≠ a)).length + 1
  | [], _ => by simp
  | x :: r, h => by
    rw [List.nodup_cons] at h
    by_cases hx : x = a
    · subst hx
      have : r.filter (· ≠ x) = r := List.filter_eq_self.2 fun y hy => by simp; rintro rfl; exact h.1 hy
      rw [List.filter_cons_of_neg (by simp), this, List.length_cons]
      omega
    · have := nodup_filter a r h.2
      rw [List.filter_cons_of_pos (by simpa using hx), List.length_cons, List.length_cons]
      omega
theorem nodup_len : ∀ (N : Nat) (l : List Int), l.Nodup → (∀ x ∈ l, 0 ≤ x ∧ x < N) → l.length ≤ N
  | 0, l, _, h => by
    cases l with
    | nil => simp
    | cons x r => have := h x List.mem_cons_self; omega
  | N + 1, l, hn, h => by
    have h1 := nodup_filter (N : Int) l hn
    have h2 := nodup_len N (l.filter (· ≠ (N : Int))) (hn.sublist List.filter_sublist) fun x hx => by
      rw [List.mem_filter] at hx
      have := h x hx.1
      have h3 : x ≠ (N : Int) := by simpa using hx.2
      omega
    omega
theorem below_len (V : DV d) {n : Int} (hn : inD d n) : (below d n).length ≤ d.nodes.length := nodup_len _ _ (below_nodup V n hn) (below_in V n hn)
end
end Go.Proofs.K
end
section
set_option linter.unusedSimpArgs false
set_option linter.unusedVariables false
namespace Go.Proofs.K
open Go Go.Sim Go.Proofs
variable {G : Glob}
theorem indexByte_ok (s : List UInt8) (c : UInt8) : PCalls (Pg G) 61 [.str s, .int .u8 c.toNat] (aInt (Lib.indexByte s c)) := by
  refine PCalls.ofRun ⟨_, Tryd.func61, by kernel_rfl, by kernel_rfl⟩ fun g w vs GR V => ?_
  obtain ⟨u, v, rfl, hu, hv⟩ := V.two_inv
  rw [hu.str_inv', hv.int_inv]
  have := Tryd.strings_IndexByte ⟨⟨s⟩⟩ (c.toNat : Int) w
  refine this.mono fun e w' ⟨he, hw⟩ => ⟨_, he, hw, ?_⟩
  have e : ((c.toNat : Int)).toNat.toUInt8 = c := by simp
  rw [e]
  exact .int _ _
def signsL : List UInt8 := [97, 98, 99, 100, 101, 102, 103, 104, 105, 106, 107, 108, 109, 110, 111, 112, 113, 114, 115, 116, 117, 118, 119, 120, 121, 122, 48, 49, 50, 51, 52, 53, 54, 55, 56, 57, 45, 95, 58]
theorem trim_ok (s cs : List UInt8) (hs : s.length ≤ 1073741824) (hc : cs.length ≤ 1000) (ha : cs.all (fun b => decide (b.toNat < 128)) = true) : PCalls (Pg G) 113 [.str s, .str cs] (.str (Lib.trimS s cs)) := by
  refine ofBelow ⟨_, Tryd.func113, by kernel_rfl, by kernel_rfl⟩ fun g w vs GR V => ?_
  obtain ⟨u, v, rfl, hu, hv⟩ := V.two_inv
  rw [hu.str_inv', hv.str_inv']
  exact (Any.strings_Trim_laid Tryd.lays160 (by kernel_rfl) ⟨⟨s⟩⟩ ⟨⟨cs⟩⟩ w (by show s.length ≤ _; omega) (by show cs.length < _; omega) (ascii_of_all ha)).mono fun e w' ⟨he, hw⟩ => ⟨_, he, hw, fun g w => VRel.str_mk g w _⟩
theorem dropWhile_all {α : Type} (p : α → Bool) (l : List α) : l.dropWhile p = [] ↔ l.all p = true := by
  induction l with
  | nil => simp
  | cons x r ih =>
    rw [List.dropWhile_cons]
    split
    · rename_i h; rw [ih]; simp [h]
    · rename_i h; simp [h]
theorem trim_all (s cs : List UInt8) : Lib.trimS s cs = [] ↔ s.all (cs.contains ·) = true := by
  unfold Lib.trimS Lib.trimLeftS Lib.trimRightS
  rw [dropWhile_all, List.all_reverse]
  have hr : s.all (cs.contains ·) = s.reverse.all (cs.contains ·) := by rw [List.all_reverse]
  rw [hr, ← dropWhile_all]
  generalize s.reverse = l
  refine Iff.trans ?_ (dropWhile_all (cs.contains ·) l)
  constructor
  · intro h
    cases hd : l.dropWhile (cs.contains ·) with
    | nil => rfl
    | cons x r =>
      have h2 := List.head_dropWhile_not (cs.contains ·) (l := l) (by rw [hd]; simp)
      simp only [hd, List.head_cons] at h2
      rw [hd, List.dropWhile_cons] at h
      split at h
      · rename_i h3; rw [h2] at h3; cases h3
      · cases h
  · intro h; rw [h]; rfl
def namedM (s first : List UInt8) : Bool := decide (s ≠ []) && (decide (s.length ≤ 40) && (first.contains (s.getD 0 0) && s.all (signsL.contains ·)))
def k87_1 : List UInt8 := [97, 98, 99, 100, 101, 102, 103, 104, 105, 106, 107, 108, 109, 110, 111, 112, 113, 114, 115, 116, 117, 118, 119, 120, 121, 122, 48, 49, 50, 51, 52, 53, 54, 55, 56, 57, 45, 95, 58]
def c87 : SFun := ⟨.seq (.reg [⟨some 4, .mv (.c (.bool false)), none⟩]) (.seq (.reg [⟨some 5, .mv (.t 0), none⟩, ⟨some 6, .bin .neq (.t 5) (.c (.str [])), none⟩, ⟨some 7, .mv (.t 6), none⟩, ⟨some 8, .mv (.t 0), some (7, true)⟩, ⟨some 9, .lenS (.t 8), some (7, true)⟩, ⟨some 10, .bin .leq (.t 9) (.c (.int .i64 40)), some (7, true)⟩, ⟨some 11, .pick (.t 7) (.t 10) (.c (.bool false)), none⟩, ⟨some 12, .mv (.t 11), none⟩, ⟨some 13, .mv (.t 1), some (12, true)⟩, ⟨some 14, .mv (.t 0), some (12, true)⟩, ⟨some 15, .idxS (.t 14) (.c (.int .i64 0)), some (12, true)⟩, ⟨some 16, .call (.c (.fn 61 [] [])) [.t 13, .t 15], some (12, true)⟩, ⟨some 17, .bin .geq (.t 16) (.c (.int .i64 0)), some (12, true)⟩, ⟨some 18, .pick (.t 12) (.t 17) (.c (.bool false)), none⟩, ⟨some 19, .mv (.t 18), none⟩, ⟨some 20, .mv (.t 0), some (19, true)⟩, ⟨some 21, .call (.c (.fn 113 [] [])) [.t 20, .c (.str k87_1)], some (19, true)⟩, ⟨some 22, .bin .eql (.t 21) (.c (.str [])), some (19, true)⟩, ⟨some 23, .pick (.t 19) (.t 22) (.c (.bool false)), none⟩, ⟨some 4, .mv (.t 23), none⟩]) .ret), [.tmp 4]⟩
theorem hc87 : toSF Tryd.prog {} Tryd.f87 = some c87 := by kernel_rfl
theorem hn87 : (Tryd.f87.name == "runtime.NumGoroutine") = false := by kernel_rfl
theorem named_ok (s first : List UInt8) (hs : s.length ≤ 1073741824) : PCalls (Pg G) 87 [.str s, .str first] (.bool (namedM s first)) := fun h => by
  have hI := indexByte_ok (G := G) first (s.getD 0 0)
  have hC := Lib.contains_iff_indexByte first (s.getD 0 0)
  have hT := trim_ok (G := G) s signsL hs (by decide) (by decide)
  have hA := trim_all s signsL
  have hp : ∀ {a : Bool}, (∀ r h', r = AVal.bool a ∧ h' = h → Sim.Sub h' h ∧ r = AVal.bool a) := fun r h' ⟨h1, h2⟩ => by subst h2; exact ⟨Sub.refl _, h1⟩
  unfold namedM
  refine dcalls_of_vc Tryd.func87 hn87 hc87 (by rw [Tryd.ntmps87]; simp) (by rw [Tryd.ntmps87]; decide) ?_
  by_cases h1 : s = []
  · subst h1
    have f1 : (([] : List UInt8) != []) = false := rfl
    simp -dsimp -implicitDefEqProofs (disch := omega) only [↓vcOps_sp 7, ↓vcD_sp 7, ↓vcOps_sp 12, ↓vcD_sp 12, ↓vcOps_sp 19, ↓vcD_sp 19, VCA, pg_gl, ↓upd_none, Nat.reduceEqDiff, Nat.reduceBEq, Nat.reduceAdd, Nat.reduceSub, Nat.reduceMul, Nat.reduceLT, Nat.reduceLeDiff, ↓reduceIte, reduceCtorEq, rsOf, rootsOf, SOp.rd, SI.rd, SX.rd, rdL, rdO, rdP, okParts, eqCells, okEqCells, fillA, okFill, setAt, implies_true, forall_const, forall_eq, ne_eq, exists_eq_right_right, exists_eq_right, exists_eq_left, exists_eq_left', rootL, eAttr, eInt, eNode, eDoc, c87, f1]
    exact ⟨Sub.refl _, by simp⟩
  · have f1 : (s != []) = true := by simpa using h1
    have hl := List.length_pos_iff.2 h1
    by_cases h2 : s.length ≤ 40
    · have f2 : decide ((s.length : Int) ≤ 40) = true := by rw [decide_eq_true_iff]; omega
      simp -dsimp -implicitDefEqProofs (disch := omega) only [↓vcOps_sp 7, ↓vcD_sp 7, ↓vcOps_sp 12, ↓vcD_sp 12, ↓vcOps_sp 19, ↓vcD_sp 19, VCA, pg_gl, ↓upd_none, Nat.reduceEqDiff, Nat.reduceBEq, Nat.reduceAdd, Nat.reduceSub, Nat.reduceMul, Nat.reduceLT, Nat.reduceLeDiff, ↓reduceIte, reduceCtorEq, rsOf, rootsOf, SOp.rd, SI.rd, SX.rd, rdL, rdO, rdP, okParts, eqCells, okEqCells, fillA, okFill, setAt, implies_true, forall_const, forall_eq, ne_eq, exists_eq_right_right, exists_eq_right, exists_eq_left, exists_eq_left', rootL, eAttr, eInt, eNode, eDoc, c87, f1, f2]
      refine ⟨by omega, ?_⟩
      refine PCalls.of hI ?_
      cases h3 : first.contains (s.getD 0 0)
      · have f3 : decide ((0 : Int) ≤ Lib.indexByte first (s.getD 0 0)) = false := by rw [← hC]; exact h3
        simp -dsimp -implicitDefEqProofs (disch := omega) only [↓vcOps_sp 7, ↓vcD_sp 7, ↓vcOps_sp 12, ↓vcD_sp 12, ↓vcOps_sp 19, ↓vcD_sp 19, VCA, pg_gl, ↓upd_none, Nat.reduceEqDiff, Nat.reduceBEq, Nat.reduceAdd, Nat.reduceSub, Nat.reduceMul, Nat.reduceLT, Nat.reduceLeDiff, ↓reduceIte, reduceCtorEq, rsOf, rootsOf, SOp.rd, SI.rd, SX.rd, rdL, rdO, rdP, okParts, eqCells, okEqCells, fillA, okFill, setAt, implies_true, forall_const, forall_eq, ne_eq, exists_eq_right_right, exists_eq_right, exists_eq_left, exists_eq_left', rootL, eAttr, eInt, eNode, eDoc, f3]
        exact ⟨Sub.refl _, by simp⟩
      · have f3 : decide ((0 : Int) ≤ Lib.indexByte first (s.getD 0 0)) = true := by rw [← hC]; exact h3
        simp -dsimp -implicitDefEqProofs (disch := omega) only [↓vcOps_sp 7, ↓vcD_sp 7, ↓vcOps_sp 12, ↓vcD_sp 12, ↓vcOps_sp 19, ↓vcD_sp 19, VCA, pg_gl, ↓upd_none, Nat.reduceEqDiff, Nat.reduceBEq, Nat.reduceAdd, Nat.reduceSub, Nat.reduceMul, Nat.reduceLT, Nat.reduceLeDiff, ↓reduceIte, reduceCtorEq, rsOf, rootsOf, SOp.rd, SI.rd, SX.rd, rdL, rdO, rdP, okParts, eqCells, okEqCells, fillA, okFill, setAt, implies_true, forall_const, forall_eq, ne_eq, exists_eq_right_right, exists_eq_right, exists_eq_left, exists_eq_left', rootL, eAttr, eInt, eNode, eDoc, f3]
        refine PCalls.of hT ?_
        simp -dsimp -implicitDefEqProofs (disch := omega) only [↓vcOps_sp 7, ↓vcD_sp 7, ↓vcOps_sp 12, ↓vcD_sp 12, ↓vcOps_sp 19, ↓vcD_sp 19, VCA, pg_gl, ↓upd_none, Nat.reduceEqDiff, Nat.reduceBEq, Nat.reduceAdd, Nat.reduceSub, Nat.reduceMul, Nat.reduceLT, Nat.reduceLeDiff, ↓reduceIte, reduceCtorEq, rsOf, rootsOf, SOp.rd, SI.rd, SX.rd, rdL, rdO, rdP, okParts, eqCells, okEqCells, fillA, okFill, setAt, implies_true, forall_const, forall_eq, ne_eq, exists_eq_right_right, exists_eq_right, exists_eq_left, exists_eq_left', rootL, eAttr, eInt, eNode, eDoc]
        refine ⟨Sub.refl _, ?_⟩
        rw [decide_eq_true h1, decide_eq_true h2]
        simp only [Bool.true_and]
        rw [Bool.eq_iff_iff, beq_iff_eq, hA]
    · have f2 : decide ((s.length : Int) ≤ 40) = false := by rw [decide_eq_false_iff_not]; omega
      simp -dsimp -implicitDefEqProofs (disch := omega) only [↓vcOps_sp 7, ↓vcD_sp 7, ↓vcOps_sp 12, ↓vcD_sp 12, ↓vcOps_sp 19, ↓vcD_sp 19, VCA, pg_gl, ↓upd_none, Nat.reduceEqDiff, Nat.reduceBEq, Nat.reduceAdd, Nat.reduceSub, Nat.reduceMul, Nat.reduceLT, Nat.reduceLeDiff, ↓reduceIte, reduceCtorEq, rsOf, rootsOf, SOp.rd, SI.rd, SX.rd, rdL, rdO, rdP, okParts, eqCells, okEqCells, fillA, okFill, setAt, implies_true, forall_const, forall_eq, ne_eq, exists_eq_right_right, exists_eq_right, exists_eq_left, exists_eq_left', rootL, eAttr, eInt, eNode, eDoc, c87, f1, f2]
      exact ⟨Sub.refl _, by simp [h2]⟩
theorem sign_all (b : UInt8) : signsL.contains b = signB b := by
  have := u8_all (p := fun b => signsL.contains b == signB b) (by decide +kernel) b
  simpa using this
theorem first_all (el : Bool) (b : UInt8) : (if el = true then signsL.take 26 else signsL.take 26 ++ [45, 95]).contains b = firstB el b := by
  cases el
  · have := u8_all (p := fun b => (signsL.take 26 ++ [45, 95]).contains b == firstB false b) (by decide +kernel) b
    simpa using this
  · have := u8_all (p := fun b => (signsL.take 26).contains b == firstB true b) (by decide +kernel) b
    simpa using this
theorem namedM_eq (s : List UInt8) (el : Bool) : namedM s (if el = true then signsL.take 26 else signsL.take 26 ++ [45, 95]) = nameOK el s := by
  unfold namedM nameOK
  rw [first_all]
  have e1 : s.all (signsL.contains ·) = s.all signB := by congr 1; funext b; exact sign_all b
  rw [e1]
  have e2 : decide (s ≠ []) = decide (1 ≤ s.length) := by
    rw [Bool.eq_iff_iff, decide_eq_true_iff, decide_eq_true_iff, ← List.length_pos_iff]; exact Iff.rfl
  rw [e2]
def k63_1 : List UInt8 := [97, 98, 99, 100, 101, 102, 103, 104, 105, 106, 107, 108, 109, 110, 111, 112, 113, 114, 115, 116, 117, 118, 119, 120, 121, 122, 48, 49, 50, 51, 52, 53, 54, 55, 56, 57, 45, 95, 58]
def c63 : SFun := ⟨.seq (.reg [⟨some 2, .mv (.c (.bool false)), none⟩]) (.seq (.reg [⟨some 3, .mv (.t 0), none⟩, ⟨some 4, .slS (.c (.str k63_1)) none (some (.c (.int .i64 26))), none⟩, ⟨some 5, .call (.c (.fn 87 [] [])) [.t 3, .t 4], none⟩, ⟨some 2, .mv (.t 5), none⟩]) .ret), [.tmp 2]⟩
theorem hc63 : toSF Tryd.prog {} Tryd.f63 = some c63 := by kernel_rfl
theorem hn63 : (Tryd.f63.name == "runtime.NumGoroutine") = false := by kernel_rfl
theorem name_ok (s : List UInt8) (hs : s.length ≤ 1073741824) : PCalls (Pg G) 63 [.str s] (.bool (nameOK true s)) := fun h => by
  refine dcalls_of_vc Tryd.func63 hn63 hc63 (by rw [Tryd.ntmps63]; simp) (by rw [Tryd.ntmps63]; decide) ?_
  simp -dsimp -implicitDefEqProofs (disch := omega) only [VCA, pg_gl, ↓upd_none, Nat.reduceEqDiff, Nat.reduceBEq, Nat.reduceAdd, Nat.reduceSub, Nat.reduceMul, Nat.reduceLT, Nat.reduceLeDiff, ↓reduceIte, reduceCtorEq, rsOf, rootsOf, SOp.rd, SI.rd, SX.rd, rdL, rdO, rdP, okParts, eqCells, okEqCells, fillA, okFill, setAt, implies_true, forall_const, forall_eq, ne_eq, exists_eq_right_right, exists_eq_right, exists_eq_left, exists_eq_left', rootL, eAttr, eInt, eNode, eDoc, c63]
  refine ⟨by decide, PCalls.of (named_ok s _ hs) ?_⟩
  simp -dsimp -implicitDefEqProofs (disch := omega) only [VCA, pg_gl, ↓upd_none, Nat.reduceEqDiff, Nat.reduceBEq, Nat.reduceAdd, Nat.reduceSub, Nat.reduceMul, Nat.reduceLT, Nat.reduceLeDiff, ↓reduceIte, reduceCtorEq, rsOf, rootsOf, SOp.rd, SI.rd, SX.rd, rdL, rdO, rdP, okParts, eqCells, okEqCells, fillA, okFill, setAt, implies_true, forall_const, forall_eq, ne_eq, exists_eq_right_right, exists_eq_right, exists_eq_left, exists_eq_left', rootL, eAttr, eInt, eNode, eDoc]
  exact ⟨Sub.refl _, by rw [← namedM_eq]; rfl⟩
def k88_1 : List UInt8 := [97, 98, 99, 100, 101, 102, 103, 104, 105, 106, 107, 108, 109, 110, 111, 112, 113, 114, 115, 116, 117, 118, 119, 120, 121, 122, 48, 49, 50, 51, 52, 53, 54, 55, 56, 57, 45, 95, 58]
def c88 : SFun := ⟨.seq (.reg [⟨some 2, .mv (.c (.bool false)), none⟩]) (.seq (.reg [⟨some 3, .mv (.t 0), none⟩, ⟨some 4, .slS (.c (.str k88_1)) none (some (.c (.int .i64 26))), none⟩, ⟨some 5, .bin .add (.t 4) (.c (.str [45, 95])), none⟩, ⟨some 6, .call (.c (.fn 87 [] [])) [.t 3, .t 5], none⟩, ⟨some 2, .mv (.t 6), none⟩]) .ret), [.tmp 2]⟩
theorem hc88 : toSF Tryd.prog {} Tryd.f88 = some c88 := by kernel_rfl
theorem hn88 : (Tryd.f88.name == "runtime.NumGoroutine") = false := by kernel_rfl
theorem attrName_ok (s : List UInt8) (hs : s.length ≤ 1073741824) : PCalls (Pg G) 88 [.str s] (.bool (nameOK false s)) := fun h => by
  refine dcalls_of_vc Tryd.func88 hn88 hc88 (by rw [Tryd.ntmps88]; simp) (by rw [Tryd.ntmps88]; decide) ?_
  simp -dsimp -implicitDefEqProofs (disch := omega) only [VCA, pg_gl, ↓upd_none, Nat.reduceEqDiff, Nat.reduceBEq, Nat.reduceAdd, Nat.reduceSub, Nat.reduceMul, Nat.reduceLT, Nat.reduceLeDiff, ↓reduceIte, reduceCtorEq, rsOf, rootsOf, SOp.rd, SI.rd, SX.rd, rdL, rdO, rdP, okParts, eqCells, okEqCells, fillA, okFill, setAt, implies_true, forall_const, forall_eq, ne_eq, exists_eq_right_right, exists_eq_right, exists_eq_left, exists_eq_left', rootL, eAttr, eInt, eNode, eDoc, c88]
  refine ⟨by decide, by decide, PCalls.of (named_ok s _ hs) ?_⟩
  simp -dsimp -implicitDefEqProofs (disch := omega) only [VCA, pg_gl, ↓upd_none, Nat.reduceEqDiff, Nat.reduceBEq, Nat.reduceAdd, Nat.reduceSub, Nat.reduceMul, Nat.reduceLT, Nat.reduceLeDiff, ↓reduceIte, reduceCtorEq, rsOf, rootsOf, SOp.rd, SI.rd, SX.rd, rdL, rdO, rdP, okParts, eqCells, okEqCells, fillA, okFill, setAt, implies_true, forall_const, forall_eq, ne_eq, exists_eq_right_right, exists_eq_right, exists_eq_left, exists_eq_left', rootL, eAttr, eInt, eNode, eDoc]
  exact ⟨Sub.refl _, by rw [← namedM_eq]; rfl⟩
def c114 : SFun := ⟨.seq (.reg [⟨some 4, .mv (.c (.int .i64 0)), none⟩]) (.seq (.seq (.reg [⟨some 6, .mv (.t 0), none⟩, ⟨some 7, .len (.t 6), none⟩, ⟨some 8, .mv (.c (.int .i64 0)), none⟩]) (.block 0 (.loop (.seq (.reg [⟨some 9, .bin .lss (.t 8) (.t 7), none⟩]) (.seq (.cond (.t 9) .skip (.exit 0)) (.seq (.block 1 (.seq (.reg [⟨some 10, .mv (.t 8), none⟩, ⟨some 5, .mv (.t 10), none⟩]) (.seq (.reg [⟨some 11, .mv (.t 1), none⟩, ⟨some 12, .mv (.t 0), none⟩, ⟨some 13, .mv (.t 5), none⟩, ⟨some 14, .idxA 2 (.t 12) (.t 13), none⟩, ⟨some 15, .ld 2 true (.t 14), none⟩, ⟨some 16, .call (.t 11) [.t 15], none⟩]) (.cond (.t 16) (.seq (.reg [⟨some 17, .mv (.t 5), none⟩, ⟨some 4, .mv (.t 17), none⟩]) .ret) .skip)))) (.reg [⟨some 18, .bin .add (.t 8) (.c (.int .i64 1)), none⟩, ⟨some 8, .mv (.t 18), none⟩]))))))) (.seq (.reg [⟨some 4, .mv (.c (.int .i64 (-1))), none⟩]) .ret)), [.tmp 4]⟩
theorem hc114 : toSF Tryd.prog {} Tryd.f114 = some c114 := by kernel_rfl
theorem hn114 : (Tryd.f114.name == "runtime.NumGoroutine") = false := by kernel_rfl
theorem indexFA_ok {h : Heap} (l : List HAttr) (f : Nat) (a b : List AVal) (p : HAttr → Bool) (hl : l.length ≤ 1073741824)
    (hp : ∀ x, DCalls (Pg G) f (a ++ ([.agg (eAttr x)] ++ b)) h fun r h' => r = .bool (p x) ∧ h' = h) : DCalls (Pg G) 114 [sl eAttr l, .fn f a b] h fun r h' => r = aInt (idxM p l) ∧ h' = h := by
  refine dcalls_of_vc Tryd.func114 hn114 hc114 (by rw [Tryd.ntmps114]; simp) (by rw [Tryd.ntmps114]; decide) ?_
  simp -dsimp -implicitDefEqProofs (disch := omega) only [VCA, pg_gl, ↓upd_none, Nat.reduceEqDiff, Nat.reduceBEq, Nat.reduceAdd, Nat.reduceSub, Nat.reduceMul, Nat.reduceLT, Nat.reduceLeDiff, ↓reduceIte, reduceCtorEq, rsOf, rootsOf, SOp.rd, SI.rd, SX.rd, rdL, rdO, rdP, okParts, eqCells, okEqCells, fillA, okFill, setAt, implies_true, forall_const, forall_eq, ne_eq, exists_eq_right_right, exists_eq_right, exists_eq_left, exists_eq_left', rootL, eAttr, eInt, eNode, eDoc, c114]
  refine LoopVC.intro (fun m e h' => ∃ k : Nat, k ≤ l.length ∧ m = l.length - k ∧ e 0 = sl eAttr l ∧ e 1 = .fn f a b ∧ e 7 = aInt l.length ∧ e 8 = aInt k ∧ h' = h ∧ ∀ j, j < k → p (nth l j) = false) l.length ⟨0, by omega, by omega, rfl, rfl, rfl, rfl, rfl, by omega⟩ ?_
  rintro m e h' ⟨k, hk, rfl, he0, he1, he7, he8, rfl, hj⟩
  simp -dsimp -implicitDefEqProofs (disch := omega) only [VCA, pg_gl, ↓upd_none, Nat.reduceEqDiff, Nat.reduceBEq, Nat.reduceAdd, Nat.reduceSub, Nat.reduceMul, Nat.reduceLT, Nat.reduceLeDiff, ↓reduceIte, reduceCtorEq, rsOf, rootsOf, SOp.rd, SI.rd, SX.rd, rdL, rdO, rdP, okParts, eqCells, okEqCells, fillA, okFill, setAt, implies_true, forall_const, forall_eq, ne_eq, exists_eq_right_right, exists_eq_right, exists_eq_left, exists_eq_left', rootL, eAttr, eInt, eNode, eDoc, he0, he1, he7, he8]
  refine Br.dec (fun hlt => ?_) (fun hge => ?_)
  · simp -dsimp -implicitDefEqProofs (disch := omega) only [VCA, pg_gl, ↓upd_none, Nat.reduceEqDiff, Nat.reduceBEq, Nat.reduceAdd, Nat.reduceSub, Nat.reduceMul, Nat.reduceLT, Nat.reduceLeDiff, ↓reduceIte, reduceCtorEq, rsOf, rootsOf, SOp.rd, SI.rd, SX.rd, rdL, rdO, rdP, okParts, eqCells, okEqCells, fillA, okFill, setAt, implies_true, forall_const, forall_eq, ne_eq, exists_eq_right_right, exists_eq_right, exists_eq_left, exists_eq_left', rootL, eAttr, eInt, eNode, eDoc, he0, he1, he7, he8, eAttr]
    refine ⟨by omega, DCalls.of (hp (nth l k)) ?_⟩
    rintro r h' ⟨rfl, rfl⟩
    simp -dsimp -implicitDefEqProofs (disch := omega) only [VCA, pg_gl, ↓upd_none, Nat.reduceEqDiff, Nat.reduceBEq, Nat.reduceAdd, Nat.reduceSub, Nat.reduceMul, Nat.reduceLT, Nat.reduceLeDiff, ↓reduceIte, reduceCtorEq, rsOf, rootsOf, SOp.rd, SI.rd, SX.rd, rdL, rdO, rdP, okParts, eqCells, okEqCells, fillA, okFill, setAt, implies_true, forall_const, forall_eq, ne_eq, exists_eq_right_right, exists_eq_right, exists_eq_left, exists_eq_left', rootL, eAttr, eInt, eNode, eDoc, he0, he1, he7, he8]
    refine Br.intro (fun ht => ?_) (fun hf => ?_)
    · simp -dsimp -implicitDefEqProofs (disch := omega) only [VCA, pg_gl, ↓upd_none, Nat.reduceEqDiff, Nat.reduceBEq, Nat.reduceAdd, Nat.reduceSub, Nat.reduceMul, Nat.reduceLT, Nat.reduceLeDiff, ↓reduceIte, reduceCtorEq, rsOf, rootsOf, SOp.rd, SI.rd, SX.rd, rdL, rdO, rdP, okParts, eqCells, okEqCells, fillA, okFill, setAt, implies_true, forall_const, forall_eq, ne_eq, exists_eq_right_right, exists_eq_right, exists_eq_left, exists_eq_left', rootL, eAttr, eInt, eNode, eDoc]
      rw [idxM_some (by omega) hj ht]; exact ⟨Sub.refl _, rfl⟩
    · simp -dsimp -implicitDefEqProofs (disch := omega) only [VCA, pg_gl, ↓upd_none, Nat.reduceEqDiff, Nat.reduceBEq, Nat.reduceAdd, Nat.reduceSub, Nat.reduceMul, Nat.reduceLT, Nat.reduceLeDiff, ↓reduceIte, reduceCtorEq, rsOf, rootsOf, SOp.rd, SI.rd, SX.rd, rdL, rdO, rdP, okParts, eqCells, okEqCells, fillA, okFill, setAt, implies_true, forall_const, forall_eq, ne_eq, exists_eq_right_right, exists_eq_right, exists_eq_left, exists_eq_left', rootL, eAttr, eInt, eNode, eDoc, he0, he1, he7, he8]
      refine ⟨_, ?_, k + 1, by omega, rfl, by omega, fun j hj' => ?_⟩
      · omega
      · by_cases h1 : j = k
        · subst h1; exact hf
        · exact hj j (by omega)
  · simp -dsimp -implicitDefEqProofs (disch := omega) only [VCA, pg_gl, ↓upd_none, Nat.reduceEqDiff, Nat.reduceBEq, Nat.reduceAdd, Nat.reduceSub, Nat.reduceMul, Nat.reduceLT, Nat.reduceLeDiff, ↓reduceIte, reduceCtorEq, rsOf, rootsOf, SOp.rd, SI.rd, SX.rd, rdL, rdO, rdP, okParts, eqCells, okEqCells, fillA, okFill, setAt, implies_true, forall_const, forall_eq, ne_eq, exists_eq_right_right, exists_eq_right, exists_eq_left, exists_eq_left', rootL, eAttr, eInt, eNode, eDoc]
    rw [idxM_none (fun j hj' => hj j (by omega))]; exact ⟨Sub.refl _, rfl⟩
def c115 : SFun := ⟨.seq (.reg [⟨some 2, .boxF 43 2 (.t 0), none⟩, ⟨some 3, .mv (.c (.bool false)), none⟩]) (.seq (.reg [⟨some 4, .fldA 0 (.t 2), none⟩, ⟨some 5, .ld 1 false (.t 4), none⟩, ⟨some 6, .ld 1 false (.t 1), none⟩, ⟨some 7, .bin .eql (.t 5) (.t 6), none⟩, ⟨some 3, .mv (.t 7), none⟩]) .ret), [.tmp 3]⟩
theorem hc115 : toSF Tryd.prog {} Tryd.f115 = some c115 := by kernel_rfl
theorem hn115 : (Tryd.f115.name == "runtime.NumGoroutine") = false := by kernel_rfl
theorem find1_ok (name : List UInt8) (a : HAttr) : PCalls (Pg G) 115 [.agg (eAttr a), .pin [.str name]] (.bool (a.name == name)) := fun h => by
  refine dcalls_of_vc Tryd.func115 hn115 hc115 (by rw [Tryd.ntmps115]; simp) (by rw [Tryd.ntmps115]; decide) ?_
  simp -dsimp -implicitDefEqProofs (disch := omega) only [VCA, pg_gl, ↓upd_none, Nat.reduceEqDiff, Nat.reduceBEq, Nat.reduceAdd, Nat.reduceSub, Nat.reduceMul, Nat.reduceLT, Nat.reduceLeDiff, ↓reduceIte, reduceCtorEq, rsOf, rootsOf, SOp.rd, SI.rd, SX.rd, rdL, rdO, rdP, okParts, eqCells, okEqCells, fillA, okFill, setAt, implies_true, forall_const, forall_eq, ne_eq, exists_eq_right_right, exists_eq_right, exists_eq_left, exists_eq_left', rootL, eAttr, eInt, eNode, eDoc, c115, eAttr]
  exact Sub.refl _
def c89 : SFun := ⟨.seq (.reg [⟨some 3, .boxF 9 1 (.t 1), none⟩, ⟨some 4, .mv (.c (.int .i64 0)), none⟩]) (.seq (.reg [⟨some 5, .mv (.t 0), none⟩, ⟨some 6, .mkf 115 [] [.t 3], none⟩, ⟨some 7, .call (.c (.fn 114 [] [])) [.t 5, .t 6], none⟩, ⟨some 4, .mv (.t 7), none⟩]) .ret), [.tmp 4]⟩
theorem hc89 : toSF Tryd.prog {} Tryd.f89 = some c89 := by kernel_rfl
theorem hn89 : (Tryd.f89.name == "runtime.NumGoroutine") = false := by kernel_rfl
theorem find_ok (l : List HAttr) (name : List UInt8) (hl : l.length ≤ 1073741824) : PCalls (Pg G) 89 [sl eAttr l, .str name] (aInt (attrAt l name)) := fun h => by
  refine dcalls_of_vc Tryd.func89 hn89 hc89 (by rw [Tryd.ntmps89]; simp) (by rw [Tryd.ntmps89]; decide) ?_
  simp -dsimp -implicitDefEqProofs (disch := omega) only [VCA, pg_gl, ↓upd_none, Nat.reduceEqDiff, Nat.reduceBEq, Nat.reduceAdd, Nat.reduceSub, Nat.reduceMul, Nat.reduceLT, Nat.reduceLeDiff, ↓reduceIte, reduceCtorEq, rsOf, rootsOf, SOp.rd, SI.rd, SX.rd, rdL, rdO, rdP, okParts, eqCells, okEqCells, fillA, okFill, setAt, implies_true, forall_const, forall_eq, ne_eq, exists_eq_right_right, exists_eq_right, exists_eq_left, exists_eq_left', rootL, eAttr, eInt, eNode, eDoc, c89]
  refine DCalls.of (indexFA_ok l 115 [] [.pin [.str name]] (fun a => a.name == name) hl fun x => find1_ok name x h) ?_
  rintro r h' ⟨rfl, rfl⟩
  simp -dsimp -implicitDefEqProofs (disch := omega) only [VCA, pg_gl, ↓upd_none, Nat.reduceEqDiff, Nat.reduceBEq, Nat.reduceAdd, Nat.reduceSub, Nat.reduceMul, Nat.reduceLT, Nat.reduceLeDiff, ↓reduceIte, reduceCtorEq, rsOf, rootsOf, SOp.rd, SI.rd, SX.rd, rdL, rdO, rdP, okParts, eqCells, okEqCells, fillA, okFill, setAt, implies_true, forall_const, forall_eq, ne_eq, exists_eq_right_right, exists_eq_right, exists_eq_left, exists_eq_left', rootL, eAttr, eInt, eNode, eDoc]
  exact ⟨Sub.refl _, rfl⟩
end Go.Proofs.K
end
section
set_option linter.unusedSimpArgs false
set_option linter.unusedVariables false
namespace Go.Proofs.K
open Go Go.Sim Go.Proofs
variable {G : Glob}
def c64 : SFun := ⟨.seq (.reg [⟨some 2, .mv (.c (.int .i64 0)), none⟩]) (.seq (.seq (.reg [⟨some 5, .mv (.t 0), none⟩, ⟨some 6, .len (.t 5), none⟩, ⟨some 7, .bin .gtr (.t 6) (.c (.int .i64 12)), none⟩]) (.cond (.t 7) (.seq (.reg [⟨some 2, .mv (.c (.int .i64 2)), none⟩]) .ret) .skip)) (.seq (.seq (.reg [⟨some 8, .mv (.t 0), none⟩, ⟨some 9, .len (.t 8), none⟩, ⟨some 10, .mv (.c (.int .i64 0)), none⟩]) (.block 0 (.loop (.seq (.reg [⟨some 11, .bin .lss (.t 10) (.t 9), none⟩]) (.seq (.cond (.t 11) .skip (.exit 0)) (.seq (.block 1 (.seq (.reg [⟨some 12, .mv (.t 10), none⟩, ⟨some 13, .idxA 2 (.t 8) (.t 10), none⟩, ⟨some 14, .ld 2 true (.t 13), none⟩, ⟨some 4, .new 43 2 [.str [], .str []], none⟩, ⟨some 3, .mv (.t 12), none⟩, ⟨none, .st 2 (.t 4) (.t 14), none⟩]) (.block 2 (.seq (.reg [⟨some 16, .fldA 0 (.t 4), none⟩, ⟨some 17, .ld 1 false (.t 16), none⟩, ⟨some 18, .pcall 88 [.t 17], none⟩, ⟨some 19, .un .not (.t 18), none⟩, ⟨some 15, .mv (.t 19), none⟩]) (.cond (.t 15) (.seq (.reg [⟨some 2, .mv (.c (.int .i64 3)), none⟩]) .ret) (.seq (.reg [⟨some 21, .fldA 1 (.t 4), none⟩, ⟨some 22, .ld 1 false (.t 21), none⟩, ⟨some 23, .lenS (.t 22), none⟩, ⟨some 24, .bin .gtr (.t 23) (.c (.int .i64 400)), none⟩, ⟨some 20, .mv (.t 24), none⟩]) (.cond (.t 20) (.seq (.reg [⟨some 2, .mv (.c (.int .i64 2)), none⟩]) .ret) (.seq (.dreg [(⟨some 26, .mv (.t 0), none⟩, none), (⟨some 27, .mv (.t 3), none⟩, none), (⟨some 28, .slA 2 (.t 26) none (some (.t 27)), none⟩, none), (⟨some 29, .fldA 0 (.t 4), none⟩, none), (⟨some 30, .ld 1 false (.t 29), none⟩, none), (⟨some 31, .pcall 89 [.t 28, .t 30], none⟩, none), (⟨some 32, .bin .geq (.t 31) (.c (.int .i64 0)), none⟩, none), (⟨some 25, .mv (.t 32), none⟩, none)]) (.cond (.t 25) (.seq (.reg [⟨some 2, .mv (.c (.int .i64 3)), none⟩]) .ret) .skip))))))))) (.reg [⟨some 33, .bin .add (.t 10) (.c (.int .i64 1)), none⟩, ⟨some 10, .mv (.t 33), none⟩]))))))) (.seq (.reg [⟨some 2, .mv (.c (.int .i64 0)), none⟩]) .ret))), [.tmp 2]⟩
theorem hc64 : toSF Tryd.prog {pure := [88, 89]} Tryd.f64 = some c64 := by kernel_rfl
theorem hn64 : (Tryd.f64.name == "runtime.NumGoroutine") = false := by kernel_rfl
theorem attrs_ok (l : List HAttr) (hl : l.length ≤ 1073741824) (hs : ∀ a ∈ l, a.name.length ≤ 1073741824) : PCalls (Pg G) 64 [sl eAttr l] (aInt (attrsE l)) := fun h => by
  refine dcalls_of_vc Tryd.func64 hn64 hc64 (by rw [Tryd.ntmps64]; simp) (by rw [Tryd.ntmps64]; decide) ?_
  simp -dsimp -implicitDefEqProofs (disch := omega) only [VCA, pg_gl, ↓upd_none, Nat.reduceEqDiff, Nat.reduceBEq, Nat.reduceAdd, Nat.reduceSub, Nat.reduceMul, Nat.reduceLT, Nat.reduceLeDiff, ↓reduceIte, reduceCtorEq, rsOf, rootsOf, SOp.rd, SI.rd, SX.rd, rdL, rdO, rdP, okParts, eqCells, okEqCells, fillA, okFill, setAt, implies_true, forall_const, forall_eq, ne_eq, exists_eq_right_right, exists_eq_right, exists_eq_left, exists_eq_left', rootL, eAttr, eInt, eNode, eDoc, c64]
  unfold attrsE
  refine Br.dec (fun h1 => ?_) (fun h1 => ?_)
  · simp -dsimp -implicitDefEqProofs (disch := omega) only [VCA, pg_gl, ↓upd_none, Nat.reduceEqDiff, Nat.reduceBEq, Nat.reduceAdd, Nat.reduceSub, Nat.reduceMul, Nat.reduceLT, Nat.reduceLeDiff, ↓reduceIte, reduceCtorEq, rsOf, rootsOf, SOp.rd, SI.rd, SX.rd, rdL, rdO, rdP, okParts, eqCells, okEqCells, fillA, okFill, setAt, implies_true, forall_const, forall_eq, ne_eq, exists_eq_right_right, exists_eq_right, exists_eq_left, exists_eq_left', rootL, eAttr, eInt, eNode, eDoc]
    exact ⟨Sub.refl _, by rw [if_pos (by omega)]⟩
  · rw [if_neg (by omega)]
    simp -dsimp -implicitDefEqProofs (disch := omega) only [VCA, pg_gl, ↓upd_none, Nat.reduceEqDiff, Nat.reduceBEq, Nat.reduceAdd, Nat.reduceSub, Nat.reduceMul, Nat.reduceLT, Nat.reduceLeDiff, ↓reduceIte, reduceCtorEq, rsOf, rootsOf, SOp.rd, SI.rd, SX.rd, rdL, rdO, rdP, okParts, eqCells, okEqCells, fillA, okFill, setAt, implies_true, forall_const, forall_eq, ne_eq, exists_eq_right_right, exists_eq_right, exists_eq_left, exists_eq_left', rootL, eAttr, eInt, eNode, eDoc]
    refine LoopVC.intro (fun m e h' => ∃ k : Nat, k ≤ l.length ∧ m = l.length - k ∧ e 0 = sl eAttr l ∧ e 8 = sl eAttr l ∧ e 9 = aInt l.length ∧ e 10 = aInt k ∧ Sim.Sub h h' ∧ ∀ j, j < k → attrE l j = 0) l.length ⟨0, by omega, by omega, rfl, rfl, rfl, rfl, Sub.refl _, by omega⟩ ?_
    rintro m e h' ⟨k, hk, rfl, he0, he8, he9, he10, S, hj⟩
    simp -dsimp -implicitDefEqProofs (disch := omega) only [VCA, pg_gl, ↓upd_none, Nat.reduceEqDiff, Nat.reduceBEq, Nat.reduceAdd, Nat.reduceSub, Nat.reduceMul, Nat.reduceLT, Nat.reduceLeDiff, ↓reduceIte, reduceCtorEq, rsOf, rootsOf, SOp.rd, SI.rd, SX.rd, rdL, rdO, rdP, okParts, eqCells, okEqCells, fillA, okFill, setAt, implies_true, forall_const, forall_eq, ne_eq, exists_eq_right_right, exists_eq_right, exists_eq_left, exists_eq_left', rootL, eAttr, eInt, eNode, eDoc, he0, he8, he9, he10]
    refine Br.dec (fun hlt => ?_) (fun hge => ?_)
    · have hk' : k < l.length := by omega
      have hn := hs _ (nth_mem' hk')
      have e2 : (l.take (Int.toNat (k : Int))) = l.take k := by simp
      have go0 : attrE l k = 0 → ∀ h2, Sim.Sub h h2 → ∃ m', m' < l.length - k ∧ ∃ k1, k1 ≤ l.length ∧ m' = l.length - k1 ∧ (k : Int) + 1 = k1 ∧ Sim.Sub h h2 ∧ ∀ j, j < k1 → attrE l j = 0 := fun h0 h2 S2 =>
        ⟨l.length - (k + 1), by omega, k + 1, by omega, rfl, by omega, S2, fun j hj' => by
          by_cases hjk : j = k
          · subst hjk; exact h0
          · exact hj j (by omega)⟩
      have fin : ∀ x : Int, x ≠ 0 → attrE l k = x → fe l.length (attrE l) = x := fun x hx he => by rw [fe_some hk' hj (by rw [he]; exact hx), he]
      simp -dsimp -implicitDefEqProofs (disch := omega) only [VCA, pg_gl, ↓upd_none, Nat.reduceEqDiff, Nat.reduceBEq, Nat.reduceAdd, Nat.reduceSub, Nat.reduceMul, Nat.reduceLT, Nat.reduceLeDiff, ↓reduceIte, reduceCtorEq, rsOf, rootsOf, SOp.rd, SI.rd, SX.rd, rdL, rdO, rdP, okParts, eqCells, okEqCells, fillA, okFill, setAt, implies_true, forall_const, forall_eq, ne_eq, exists_eq_right_right, exists_eq_right, exists_eq_left, exists_eq_left', rootL, eAttr, eInt, eNode, eDoc, he0, he8, he9, he10]
      refine ⟨by omega, fun r hr => ?_⟩
      have S1 := S.upd (x := some ⟨.t 43, 2, [[.str (nth l k).name, .str (nth l k).value]]⟩) (S.none hr)
      refine pcallE.of (attrName_ok _ hn) ?_; simp -dsimp -implicitDefEqProofs (disch := omega) only [VCA, pg_gl, ↓upd_none, Nat.reduceEqDiff, Nat.reduceBEq, Nat.reduceAdd, Nat.reduceSub, Nat.reduceMul, Nat.reduceLT, Nat.reduceLeDiff, ↓reduceIte, reduceCtorEq, rsOf, rootsOf, SOp.rd, SI.rd, SX.rd, rdL, rdO, rdP, okParts, eqCells, okEqCells, fillA, okFill, setAt, implies_true, forall_const, forall_eq, ne_eq, exists_eq_right_right, exists_eq_right, exists_eq_left, exists_eq_left', rootL, eAttr, eInt, eNode, eDoc, upd_same, he0, he8, he9, he10]
      refine Br.intro (fun h2 => ?_) (fun h2 => ?_)
      · simp -dsimp -implicitDefEqProofs (disch := omega) only [VCA, pg_gl, ↓upd_none, Nat.reduceEqDiff, Nat.reduceBEq, Nat.reduceAdd, Nat.reduceSub, Nat.reduceMul, Nat.reduceLT, Nat.reduceLeDiff, ↓reduceIte, reduceCtorEq, rsOf, rootsOf, SOp.rd, SI.rd, SX.rd, rdL, rdO, rdP, okParts, eqCells, okEqCells, fillA, okFill, setAt, implies_true, forall_const, forall_eq, ne_eq, exists_eq_right_right, exists_eq_right, exists_eq_left, exists_eq_left', rootL, eAttr, eInt, eNode, eDoc]
        exact ⟨S1, (fin 3 (by decide) (by unfold attrE; rw [if_pos (by simpa using h2)])).symm⟩
      · have h2 : nameOK false (nth l k).name = true := by simpa using h2
        simp -dsimp -implicitDefEqProofs (disch := omega) only [VCA, pg_gl, ↓upd_none, Nat.reduceEqDiff, Nat.reduceBEq, Nat.reduceAdd, Nat.reduceSub, Nat.reduceMul, Nat.reduceLT, Nat.reduceLeDiff, ↓reduceIte, reduceCtorEq, rsOf, rootsOf, SOp.rd, SI.rd, SX.rd, rdL, rdO, rdP, okParts, eqCells, okEqCells, fillA, okFill, setAt, implies_true, forall_const, forall_eq, ne_eq, exists_eq_right_right, exists_eq_right, exists_eq_left, exists_eq_left', rootL, eAttr, eInt, eNode, eDoc, upd_same, he0, he8, he9, he10]
        refine Br.dec (fun h3 => ?_) (fun h3 => ?_)
        · simp -dsimp -implicitDefEqProofs (disch := omega) only [VCA, pg_gl, ↓upd_none, Nat.reduceEqDiff, Nat.reduceBEq, Nat.reduceAdd, Nat.reduceSub, Nat.reduceMul, Nat.reduceLT, Nat.reduceLeDiff, ↓reduceIte, reduceCtorEq, rsOf, rootsOf, SOp.rd, SI.rd, SX.rd, rdL, rdO, rdP, okParts, eqCells, okEqCells, fillA, okFill, setAt, implies_true, forall_const, forall_eq, ne_eq, exists_eq_right_right, exists_eq_right, exists_eq_left, exists_eq_left', rootL, eAttr, eInt, eNode, eDoc]
          exact ⟨S1, (fin 2 (by decide) (by unfold attrE; rw [if_neg (by simp [h2]), if_pos (by omega)])).symm⟩
        · simp -dsimp -implicitDefEqProofs (disch := omega) only [VCA, pg_gl, ↓upd_none, Nat.reduceEqDiff, Nat.reduceBEq, Nat.reduceAdd, Nat.reduceSub, Nat.reduceMul, Nat.reduceLT, Nat.reduceLeDiff, ↓reduceIte, reduceCtorEq, rsOf, rootsOf, SOp.rd, SI.rd, SX.rd, rdL, rdO, rdP, okParts, eqCells, okEqCells, fillA, okFill, setAt, implies_true, forall_const, forall_eq, ne_eq, exists_eq_right_right, exists_eq_right, exists_eq_left, exists_eq_left', rootL, eAttr, eInt, eNode, eDoc, upd_same, he0, he8, he9, he10]
          refine ⟨by omega, ?_⟩
          refine pcallE.of (find_ok (l.take k) (nth l k).name (by simp; omega)) ?_; simp -dsimp -implicitDefEqProofs (disch := omega) only [VCA, pg_gl, ↓upd_none, Nat.reduceEqDiff, Nat.reduceBEq, Nat.reduceAdd, Nat.reduceSub, Nat.reduceMul, Nat.reduceLT, Nat.reduceLeDiff, ↓reduceIte, reduceCtorEq, rsOf, rootsOf, SOp.rd, SI.rd, SX.rd, rdL, rdO, rdP, okParts, eqCells, okEqCells, fillA, okFill, setAt, implies_true, forall_const, forall_eq, ne_eq, exists_eq_right_right, exists_eq_right, exists_eq_left, exists_eq_left', rootL, eAttr, eInt, eNode, eDoc, upd_same, he0, he8, he9, he10]
          refine Br.dec (fun h4 => ?_) (fun h4 => ?_)
          · simp -dsimp -implicitDefEqProofs (disch := omega) only [VCA, pg_gl, ↓upd_none, Nat.reduceEqDiff, Nat.reduceBEq, Nat.reduceAdd, Nat.reduceSub, Nat.reduceMul, Nat.reduceLT, Nat.reduceLeDiff, ↓reduceIte, reduceCtorEq, rsOf, rootsOf, SOp.rd, SI.rd, SX.rd, rdL, rdO, rdP, okParts, eqCells, okEqCells, fillA, okFill, setAt, implies_true, forall_const, forall_eq, ne_eq, exists_eq_right_right, exists_eq_right, exists_eq_left, exists_eq_left', rootL, eAttr, eInt, eNode, eDoc]
            exact ⟨S1, (fin 3 (by decide) (by unfold attrE; rw [if_neg (by simp [h2]), if_neg (by omega), if_pos h4])).symm⟩
          · simp -dsimp -implicitDefEqProofs (disch := omega) only [VCA, pg_gl, ↓upd_none, Nat.reduceEqDiff, Nat.reduceBEq, Nat.reduceAdd, Nat.reduceSub, Nat.reduceMul, Nat.reduceLT, Nat.reduceLeDiff, ↓reduceIte, reduceCtorEq, rsOf, rootsOf, SOp.rd, SI.rd, SX.rd, rdL, rdO, rdP, okParts, eqCells, okEqCells, fillA, okFill, setAt, implies_true, forall_const, forall_eq, ne_eq, exists_eq_right_right, exists_eq_right, exists_eq_left, exists_eq_left', rootL, eAttr, eInt, eNode, eDoc, upd_same, he0, he8, he9, he10]
            refine go0 ?_ _ S1
            unfold attrE
            rw [if_neg (by simp [h2]), if_neg (by omega), if_neg h4]
    · simp -dsimp -implicitDefEqProofs (disch := omega) only [VCA, pg_gl, ↓upd_none, Nat.reduceEqDiff, Nat.reduceBEq, Nat.reduceAdd, Nat.reduceSub, Nat.reduceMul, Nat.reduceLT, Nat.reduceLeDiff, ↓reduceIte, reduceCtorEq, rsOf, rootsOf, SOp.rd, SI.rd, SX.rd, rdL, rdO, rdP, okParts, eqCells, okEqCells, fillA, okFill, setAt, implies_true, forall_const, forall_eq, ne_eq, exists_eq_right_right, exists_eq_right, exists_eq_left, exists_eq_left', rootL, eAttr, eInt, eNode, eDoc]
      obtain rfl : k = l.length := by omega
      exact ⟨S, (fe_none hj).symm⟩
def c86 : SFun := ⟨.seq (.reg [⟨some 2, .mv (.c (.bool false)), none⟩]) (.seq (.reg [⟨some 3, .mv (.t 0), none⟩, ⟨some 4, .bin .eql (.t 3) (.c (.int .i64 1)), none⟩, ⟨some 5, .mv (.t 4), none⟩, ⟨some 6, .mv (.t 0), some (5, false)⟩, ⟨some 7, .bin .eql (.t 6) (.c (.int .i64 2)), some (5, false)⟩, ⟨some 8, .pick (.t 5) (.c (.bool true)) (.t 7), none⟩, ⟨some 2, .mv (.t 8), none⟩]) .ret), [.tmp 2]⟩
theorem hc86 : toSF Tryd.prog {} Tryd.f86 = some c86 := by kernel_rfl
theorem hn86 : (Tryd.f86.name == "runtime.NumGoroutine") = false := by kernel_rfl
theorem parent_ok (k : Int) : PCalls (Pg G) 86 [aInt k] (.bool (decide (k = 1) || decide (k = 2))) := fun h => by
  refine dcalls_of_vc Tryd.func86 hn86 hc86 (by rw [Tryd.ntmps86]; simp) (by rw [Tryd.ntmps86]; decide) ?_
  by_cases h1 : k = 1
  · subst h1
    simp -dsimp -implicitDefEqProofs (disch := omega) only [↓vcOps_sp 5, ↓vcD_sp 5, VCA, pg_gl, ↓upd_none, Nat.reduceEqDiff, Nat.reduceBEq, Nat.reduceAdd, Nat.reduceSub, Nat.reduceMul, Nat.reduceLT, Nat.reduceLeDiff, ↓reduceIte, reduceCtorEq, rsOf, rootsOf, SOp.rd, SI.rd, SX.rd, rdL, rdO, rdP, okParts, eqCells, okEqCells, fillA, okFill, setAt, implies_true, forall_const, forall_eq, ne_eq, exists_eq_right_right, exists_eq_right, exists_eq_left, exists_eq_left', rootL, eAttr, eInt, eNode, eDoc, c86]
    repeat' (first | ((with_reducible refine brC (fun _ => ?_) fun _ => ?_) <;> try (exfalso; omega)) | (with_reducible refine And.intro ?_ ?_; · omega) | simp -dsimp -implicitDefEqProofs (disch := omega) only [↓vcOps_sp 5, ↓vcD_sp 5, VCA, pg_gl, ↓upd_none, Nat.reduceEqDiff, Nat.reduceBEq, Nat.reduceAdd, Nat.reduceSub, Nat.reduceMul, Nat.reduceLT, Nat.reduceLeDiff, ↓reduceIte, reduceCtorEq, rsOf, rootsOf, SOp.rd, SI.rd, SX.rd, rdL, rdO, rdP, okParts, eqCells, okEqCells, fillA, okFill, setAt, implies_true, forall_const, forall_eq, ne_eq, exists_eq_right_right, exists_eq_right, exists_eq_left, exists_eq_left', rootL, eAttr, eInt, eNode, eDoc])
    all_goals exact ⟨Sub.refl _, by simp_all⟩
  · simp -dsimp -implicitDefEqProofs (disch := omega) only [↓vcOps_sp 5, ↓vcD_sp 5, VCA, pg_gl, ↓upd_none, Nat.reduceEqDiff, Nat.reduceBEq, Nat.reduceAdd, Nat.reduceSub, Nat.reduceMul, Nat.reduceLT, Nat.reduceLeDiff, ↓reduceIte, reduceCtorEq, rsOf, rootsOf, SOp.rd, SI.rd, SX.rd, rdL, rdO, rdP, okParts, eqCells, okEqCells, fillA, okFill, setAt, implies_true, forall_const, forall_eq, ne_eq, exists_eq_right_right, exists_eq_right, exists_eq_left, exists_eq_left', rootL, eAttr, eInt, eNode, eDoc, c86]
    repeat' (first | ((with_reducible refine brC (fun _ => ?_) fun _ => ?_) <;> try (exfalso; omega)) | (with_reducible refine And.intro ?_ ?_; · omega) | simp -dsimp -implicitDefEqProofs (disch := omega) only [↓vcOps_sp 5, ↓vcD_sp 5, VCA, pg_gl, ↓upd_none, Nat.reduceEqDiff, Nat.reduceBEq, Nat.reduceAdd, Nat.reduceSub, Nat.reduceMul, Nat.reduceLT, Nat.reduceLeDiff, ↓reduceIte, reduceCtorEq, rsOf, rootsOf, SOp.rd, SI.rd, SX.rd, rdL, rdO, rdP, okParts, eqCells, okEqCells, fillA, okFill, setAt, implies_true, forall_const, forall_eq, ne_eq, exists_eq_right_right, exists_eq_right, exists_eq_left, exists_eq_left', rootL, eAttr, eInt, eNode, eDoc])
    all_goals first | (exfalso; omega) | exact ⟨Sub.refl _, by rw [Bool.eq_iff_iff]; simp [h1]⟩
theorem len0 {α : Type} (l : List α) : ((l.length : Int) = 0) = (l = []) := by rw [← List.length_eq_zero_iff]; exact propext (by omega)
theorem len0b {α : Type} (l : List α) [DecidableEq α] : ((l.length : Int) == 0) = decide (l = []) := by
  rw [Bool.eq_iff_iff, beq_iff_eq, decide_eq_true_iff, len0]
def c62 : SFun := ⟨.seq (.reg [⟨some 1, .boxF 53 6 (.t 0), none⟩, ⟨some 2, .mv (.c (.bool false)), none⟩]) (.seq (.dreg [(⟨some 5, .fldA 0 (.t 1), none⟩, none), (⟨some 6, .ld 1 false (.t 5), none⟩, none), (⟨some 7, .bin .eql (.t 6) (.c (.int .i64 2)), none⟩, none), (⟨some 8, .fldA 0 (.t 1), none⟩, none), (⟨some 9, .ld 1 false (.t 8), none⟩, none), (⟨some 10, .bin .eql (.t 9) (.c (.int .i64 3)), none⟩, none), (⟨some 11, .mv (.t 10), none⟩, none), (⟨some 12, .fldA 0 (.t 1), some (11, false)⟩, none), (⟨some 13, .ld 1 false (.t 12), some (11, false)⟩, none), (⟨some 14, .bin .eql (.t 13) (.c (.int .i64 4)), some (11, false)⟩, none), (⟨some 15, .pick (.t 11) (.c (.bool true)) (.t 14), none⟩, none), (⟨some 3, .mv (.t 7), none⟩, none), (⟨some 4, .mv (.t 15), none⟩, none)]) (.seq (.reg [⟨some 16, .mv (.t 3), none⟩, ⟨some 17, .mv (.t 16), none⟩, ⟨some 18, .fldA 0 (.t 1), some (17, false)⟩, ⟨some 19, .ld 1 false (.t 18), some (17, false)⟩, ⟨some 20, .bin .eql (.t 19) (.c (.int .i64 5)), some (17, false)⟩, ⟨some 21, .pick (.t 17) (.c (.bool true)) (.t 20), none⟩, ⟨some 22, .mv (.t 21), none⟩, ⟨some 23, .fldA 1 (.t 1), some (22, false)⟩, ⟨some 24, .ld 1 false (.t 23), some (22, false)⟩, ⟨some 25, .bin .eql (.t 24) (.c (.str [])), some (22, false)⟩, ⟨some 26, .pick (.t 22) (.c (.bool true)) (.t 25), none⟩, ⟨some 27, .mv (.t 26), none⟩, ⟨some 28, .mv (.t 3), some (27, true)⟩, ⟨some 29, .mv (.t 28), some (27, true)⟩, ⟨some 30, .fldA 2 (.t 1), some (29, false)⟩, ⟨some 31, .ld 1 false (.t 30), some (29, false)⟩, ⟨some 32, .len (.t 31), some (29, false)⟩, ⟨some 33, .bin .eql (.t 32) (.c (.int .i64 0)), some (29, false)⟩, ⟨some 34, .pick (.t 29) (.c (.bool true)) (.t 33), some (27, true)⟩, ⟨some 35, .pick (.t 27) (.t 34) (.c (.bool false)), none⟩, ⟨some 36, .mv (.t 35), none⟩, ⟨some 37, .mv (.t 4), some (36, true)⟩, ⟨some 38, .mv (.t 37), some (36, true)⟩, ⟨some 39, .fldA 3 (.t 1), some (38, false)⟩, ⟨some 40, .ld 1 false (.t 39), some (38, false)⟩, ⟨some 41, .bin .eql (.t 40) (.c (.str [])), some (38, false)⟩, ⟨some 42, .pick (.t 38) (.c (.bool true)) (.t 41), some (36, true)⟩, ⟨some 43, .pick (.t 36) (.t 42) (.c (.bool false)), none⟩, ⟨some 44, .mv (.t 43), none⟩, ⟨some 45, .fldA 0 (.t 1), some (44, true)⟩, ⟨some 46, .ld 1 false (.t 45), some (44, true)⟩, ⟨some 47, .pcall 86 [.t 46], some (44, true)⟩, ⟨some 48, .mv (.t 47), some (44, true)⟩, ⟨some 49, .fldA 5 (.t 1), some (48, false)⟩, ⟨some 50, .ld 1 false (.t 49), some (48, false)⟩, ⟨some 51, .len (.t 50), some (48, false)⟩, ⟨some 52, .bin .eql (.t 51) (.c (.int .i64 0)), some (48, false)⟩, ⟨some 53, .pick (.t 48) (.c (.bool true)) (.t 52), some (44, true)⟩, ⟨some 54, .pick (.t 44) (.t 53) (.c (.bool false)), none⟩, ⟨some 2, .mv (.t 54), none⟩]) .ret)), [.tmp 2]⟩
theorem hc62 : toSF Tryd.prog {pure := [86]} Tryd.f62 = some c62 := by kernel_rfl
theorem hn62 : (Tryd.f62.name == "runtime.NumGoroutine") = false := by kernel_rfl
theorem bare_ok (x : HNode) : PCalls (Pg G) 62 [.agg (eNode x)] (.bool (bareM x)) := fun h => by
  refine dcalls_of_vc Tryd.func62 hn62 hc62 (by rw [Tryd.ntmps62]; simp) (by rw [Tryd.ntmps62]; decide) ?_
  simp -dsimp -implicitDefEqProofs (disch := omega) only [↓vcOps_sp 11, ↓vcD_sp 11, ↓vcOps_sp 17, ↓vcD_sp 17, ↓vcOps_sp 22, ↓vcD_sp 22, ↓vcOps_sp 27, ↓vcD_sp 27, ↓vcOps_sp 29, ↓vcD_sp 29, ↓vcOps_sp 36, ↓vcD_sp 36, ↓vcOps_sp 38, ↓vcD_sp 38, ↓vcOps_sp 44, ↓vcD_sp 44, ↓vcOps_sp 48, ↓vcD_sp 48, VCA, pg_gl, ↓upd_none, Nat.reduceEqDiff, Nat.reduceBEq, Nat.reduceAdd, Nat.reduceSub, Nat.reduceMul, Nat.reduceLT, Nat.reduceLeDiff, ↓reduceIte, reduceCtorEq, rsOf, rootsOf, SOp.rd, SI.rd, SX.rd, rdL, rdO, rdP, okParts, eqCells, okEqCells, fillA, okFill, setAt, implies_true, forall_const, forall_eq, ne_eq, exists_eq_right_right, exists_eq_right, exists_eq_left, exists_eq_left', rootL, eAttr, eInt, eNode, eDoc, c62, eNode]
  repeat' (first | ((with_reducible refine brC (fun _ => ?_) fun _ => ?_) <;> try (exfalso; omega)) | (with_reducible apply pcallE.of; · exact parent_ok x.kind) | (with_reducible refine And.intro ?_ ?_; · omega) | simp -dsimp -implicitDefEqProofs (disch := omega) only [↓vcOps_sp 11, ↓vcD_sp 11, ↓vcOps_sp 17, ↓vcD_sp 17, ↓vcOps_sp 22, ↓vcD_sp 22, ↓vcOps_sp 27, ↓vcD_sp 27, ↓vcOps_sp 29, ↓vcD_sp 29, ↓vcOps_sp 36, ↓vcD_sp 36, ↓vcOps_sp 38, ↓vcD_sp 38, ↓vcOps_sp 44, ↓vcD_sp 44, ↓vcOps_sp 48, ↓vcD_sp 48, VCA, pg_gl, ↓upd_none, Nat.reduceEqDiff, Nat.reduceBEq, Nat.reduceAdd, Nat.reduceSub, Nat.reduceMul, Nat.reduceLT, Nat.reduceLeDiff, ↓reduceIte, reduceCtorEq, rsOf, rootsOf, SOp.rd, SI.rd, SX.rd, rdL, rdO, rdP, okParts, eqCells, okEqCells, fillA, okFill, setAt, implies_true, forall_const, forall_eq, ne_eq, exists_eq_right_right, exists_eq_right, exists_eq_left, exists_eq_left', rootL, eAttr, eInt, eNode, eDoc])
  all_goals (refine ⟨Sub.refl _, ?_⟩; simp_all [bareM, len0, len0b])
theorem lt400 (n : Nat) : ((400 : Int) < (n : Int)) = (400 < n) := propext (by omega)
def c38 : SFun := ⟨.seq (.reg [⟨some 1, .boxF 53 6 (.t 0), none⟩, ⟨some 2, .mv (.c (.int .i64 0)), none⟩]) (.seq (.block 0 (.seq (.reg [⟨some 5, .fldA 0 (.t 1), none⟩, ⟨some 6, .ld 1 false (.t 5), none⟩, ⟨some 7, .bin .lss (.t 6) (.c (.int .i64 1)), none⟩, ⟨some 8, .mv (.t 7), none⟩, ⟨some 9, .fldA 0 (.t 1), some (8, false)⟩, ⟨some 10, .ld 1 false (.t 9), some (8, false)⟩, ⟨some 11, .bin .gtr (.t 10) (.c (.int .i64 5)), some (8, false)⟩, ⟨some 12, .pick (.t 8) (.c (.bool true)) (.t 11), none⟩, ⟨some 13, .mv (.t 12), none⟩, ⟨some 14, .ld 6 true (.t 1), some (13, false)⟩, ⟨some 15, .pcall 62 [.t 14], some (13, false)⟩, ⟨some 16, .un .not (.t 15), some (13, false)⟩, ⟨some 17, .pick (.t 13) (.c (.bool true)) (.t 16), none⟩, ⟨some 4, .mv (.t 17), none⟩]) (.cond (.t 4) (.seq (.reg [⟨some 2, .mv (.c (.int .i64 7)), none⟩]) .ret) (.seq (.reg [⟨some 19, .fldA 0 (.t 1), none⟩, ⟨some 20, .ld 1 false (.t 19), none⟩, ⟨some 21, .bin .eql (.t 20) (.c (.int .i64 2)), none⟩, ⟨some 22, .mv (.t 21), none⟩, ⟨some 23, .fldA 1 (.t 1), some (22, true)⟩, ⟨some 24, .ld 1 false (.t 23), some (22, true)⟩, ⟨some 25, .pcall 63 [.t 24], some (22, true)⟩, ⟨some 26, .un .not (.t 25), some (22, true)⟩, ⟨some 27, .pick (.t 22) (.t 26) (.c (.bool false)), none⟩, ⟨some 18, .mv (.t 27), none⟩]) (.cond (.t 18) (.seq (.reg [⟨some 2, .mv (.c (.int .i64 3)), none⟩]) .ret) .skip))))) (.seq (.seq (.reg [⟨some 28, .fldA 2 (.t 1), none⟩, ⟨some 29, .ld 1 false (.t 28), none⟩, ⟨some 30, .pcall 64 [.t 29], none⟩, ⟨some 3, .mv (.t 30), none⟩]) (.seq (.reg [⟨some 31, .mv (.t 3), none⟩, ⟨some 32, .bin .neq (.t 31) (.c (.int .i64 0)), none⟩]) (.cond (.t 32) (.seq (.reg [⟨some 33, .mv (.t 3), none⟩, ⟨some 2, .mv (.t 33), none⟩]) .ret) .skip))) (.seq (.seq (.reg [⟨some 34, .fldA 3 (.t 1), none⟩, ⟨some 35, .ld 1 false (.t 34), none⟩, ⟨some 36, .lenS (.t 35), none⟩, ⟨some 37, .bin .gtr (.t 36) (.c (.int .i64 400)), none⟩, ⟨some 38, .mv (.t 37), none⟩, ⟨some 39, .fldA 1 (.t 1), some (38, false)⟩, ⟨some 40, .ld 1 false (.t 39), some (38, false)⟩, ⟨some 41, .lenS (.t 40), some (38, false)⟩, ⟨some 42, .bin .gtr (.t 41) (.c (.int .i64 400)), some (38, false)⟩, ⟨some 43, .pick (.t 38) (.c (.bool true)) (.t 42), none⟩]) (.cond (.t 43) (.seq (.reg [⟨some 2, .mv (.c (.int .i64 2)), none⟩]) .ret) .skip)) (.seq (.reg [⟨some 2, .mv (.c (.int .i64 0)), none⟩]) .ret)))), [.tmp 2]⟩
theorem hc38 : toSF Tryd.prog {pure := [62, 63, 64]} Tryd.f38 = some c38 := by kernel_rfl
theorem hn38 : (Tryd.f38.name == "runtime.NumGoroutine") = false := by kernel_rfl
theorem one_ok' (x : HNode) (hx : NodeSm x) : PCalls (Pg G) 38 [.agg (eNode x)] (aInt (nodeE x)) := fun h => by
  refine dcalls_of_vc Tryd.func38 hn38 hc38 (by rw [Tryd.ntmps38]; simp) (by rw [Tryd.ntmps38]; decide) ?_
  simp -dsimp -implicitDefEqProofs (disch := omega) only [↓vcOps_sp 8, ↓vcD_sp 8, ↓vcOps_sp 13, ↓vcD_sp 13, ↓vcOps_sp 22, ↓vcD_sp 22, ↓vcOps_sp 38, ↓vcD_sp 38, VCA, pg_gl, ↓upd_none, Nat.reduceEqDiff, Nat.reduceBEq, Nat.reduceAdd, Nat.reduceSub, Nat.reduceMul, Nat.reduceLT, Nat.reduceLeDiff, ↓reduceIte, reduceCtorEq, rsOf, rootsOf, SOp.rd, SI.rd, SX.rd, rdL, rdO, rdP, okParts, eqCells, okEqCells, fillA, okFill, setAt, implies_true, forall_const, forall_eq, ne_eq, exists_eq_right_right, exists_eq_right, exists_eq_left, exists_eq_left', rootL, eAttr, eInt, eNode, eDoc, c38, eNode]
  have hb : PCalls (Pg G) 62 [.agg [aInt x.kind, .str x.name, sl eAttr x.attrs, .str x.text, aInt x.parent, sl eInt x.kids]] (.bool (bareM x)) := bare_ok x
  repeat' (first | ((with_reducible refine brC (fun _ => ?_) fun _ => ?_) <;> try (exfalso; omega)) | (with_reducible apply pcallE.of; · exact hb) | (with_reducible apply pcallE.of; · exact name_ok x.name hx.name) | (with_reducible apply pcallE.of; · exact attrs_ok x.attrs hx.attrs (fun a ha => (hx.each a ha).1)) | (with_reducible refine And.intro ?_ ?_; · omega) | simp -dsimp -implicitDefEqProofs (disch := omega) only [↓vcOps_sp 8, ↓vcD_sp 8, ↓vcOps_sp 13, ↓vcD_sp 13, ↓vcOps_sp 22, ↓vcD_sp 22, ↓vcOps_sp 38, ↓vcD_sp 38, VCA, pg_gl, ↓upd_none, Nat.reduceEqDiff, Nat.reduceBEq, Nat.reduceAdd, Nat.reduceSub, Nat.reduceMul, Nat.reduceLT, Nat.reduceLeDiff, ↓reduceIte, reduceCtorEq, rsOf, rootsOf, SOp.rd, SI.rd, SX.rd, rdL, rdO, rdP, okParts, eqCells, okEqCells, fillA, okFill, setAt, implies_true, forall_const, forall_eq, ne_eq, exists_eq_right_right, exists_eq_right, exists_eq_left, exists_eq_left', rootL, eAttr, eInt, eNode, eDoc])
  all_goals (clear hb hx; refine ⟨Sub.refl _, ?_⟩; simp_all [nodeE, lt400]; try (first | omega | (intro hh; omega) | (rw [if_neg (by omega), if_neg (by omega)])))
end Go.Proofs.K
end
section
set_option linter.unusedSimpArgs false
set_option linter.unusedVariables false
namespace Go.Proofs.K
open Go Go.Sim Go.Proofs
variable {G : Glob}
def eBool (b : Bool) : List AVal := [.bool b]
instance : LenE eBool 1 := ⟨fun _ => rfl⟩
theorem upF_top {d : HDoc} {n : Int} (h : ¬ 0 ≤ (nd d n).parent) (f : Nat) : upF f d n = 0 := by cases f <;> simp [upF, h]
def c40 : SFun := ⟨.seq (.reg [⟨some 2, .boxF 29 2 (.t 0), none⟩, ⟨some 4, .mv (.c (.int .i64 0)), none⟩]) (.seq (.block 0 (.loop (.seq (.seq (.reg [⟨some 5, .fldA 0 (.t 2), none⟩, ⟨some 6, .ld 1 false (.t 5), none⟩, ⟨some 7, .mv (.t 1), none⟩, ⟨some 8, .idxA 6 (.t 6) (.t 7), none⟩, ⟨some 9, .fldA 4 (.t 8), none⟩, ⟨some 10, .ld 1 false (.t 9), none⟩, ⟨some 11, .bin .geq (.t 10) (.c (.int .i64 0)), none⟩, ⟨some 12, .mv (.t 11), none⟩, ⟨some 13, .mv (.t 4), some (12, true)⟩, ⟨some 14, .fldA 0 (.t 2), some (12, true)⟩, ⟨some 15, .ld 1 false (.t 14), some (12, true)⟩, ⟨some 16, .len (.t 15), some (12, true)⟩, ⟨some 17, .bin .leq (.t 13) (.t 16), some (12, true)⟩, ⟨some 18, .pick (.t 12) (.t 17) (.c (.bool false)), none⟩]) (.cond (.t 18) .skip (.exit 0))) (.seq (.block 1 (.reg [⟨some 25, .mv (.t 4), none⟩, ⟨some 26, .bin .add (.t 25) (.c (.int .i64 1)), none⟩, ⟨some 4, .mv (.t 26), none⟩])) (.reg [⟨some 19, .fldA 0 (.t 2), none⟩, ⟨some 20, .ld 1 false (.t 19), none⟩, ⟨some 21, .mv (.t 1), none⟩, ⟨some 22, .idxA 6 (.t 20) (.t 21), none⟩, ⟨some 23, .fldA 4 (.t 22), none⟩, ⟨some 24, .ld 1 false (.t 23), none⟩, ⟨some 1, .mv (.t 24), none⟩]))))) (.seq (.reg [⟨some 27, .mv (.t 4), none⟩, ⟨some 4, .mv (.t 27), none⟩]) .ret)), [.tmp 4]⟩
theorem hc40 : toSF Tryd.prog {} Tryd.f40 = some c40 := by kernel_rfl
theorem hn40 : (Tryd.f40.name == "runtime.NumGoroutine") = false := by kernel_rfl
theorem up_ok (d : HDoc) (sm : DocSm d) (hP : ∀ n, inD d n → 0 ≤ (nd d n).parent → inD d (nd d n).parent) (n : Int) (hn : inD d n) : PCalls (Pg G) 40 [.agg (eDoc d), aInt n] (aInt (up d n)) := fun h => by
  have hl := sm.len
  refine dcalls_of_vc Tryd.func40 hn40 hc40 (by rw [Tryd.ntmps40]; simp) (by rw [Tryd.ntmps40]; decide) ?_
  simp -dsimp -implicitDefEqProofs (disch := omega) only [↓vcOps_sp 12, ↓vcD_sp 12, VCA, pg_gl, ↓upd_none, Nat.reduceEqDiff, Nat.reduceBEq, Nat.reduceAdd, Nat.reduceSub, Nat.reduceMul, Nat.reduceLT, Nat.reduceLeDiff, ↓reduceIte, reduceCtorEq, rsOf, rootsOf, SOp.rd, SI.rd, SX.rd, rdL, rdO, rdP, okParts, eqCells, okEqCells, fillA, okFill, setAt, implies_true, forall_const, forall_eq, ne_eq, exists_eq_right_right, exists_eq_right, exists_eq_left, exists_eq_left', rootL, eAttr, eInt, eNode, eDoc, eBool, c40, eDoc]
  refine LoopVC.intro (fun m e h' => ∃ (c : Int) (k : Nat), k ≤ d.nodes.length + 1 ∧ m = d.nodes.length + 1 - k ∧ inD d c ∧ e 1 = aInt c ∧ e 2 = .pin (eDoc d) ∧ e 4 = aInt k ∧ h' = h ∧ k + upF (d.nodes.length + 1 - k) d c = up d n) (d.nodes.length + 1) ⟨n, 0, by omega, rfl, hn, rfl, rfl, rfl, rfl, by simp [up]⟩ ?_
  rintro m e h' ⟨c, k, hk, rfl, hc, he1, he2, he4, rfl, hu⟩
  have hc0 := hc.1
  have hc1 := hc.2
  simp -dsimp -implicitDefEqProofs (disch := omega) only [↓vcOps_sp 12, ↓vcD_sp 12, VCA, pg_gl, ↓upd_none, Nat.reduceEqDiff, Nat.reduceBEq, Nat.reduceAdd, Nat.reduceSub, Nat.reduceMul, Nat.reduceLT, Nat.reduceLeDiff, ↓reduceIte, reduceCtorEq, rsOf, rootsOf, SOp.rd, SI.rd, SX.rd, rdL, rdO, rdP, okParts, eqCells, okEqCells, fillA, okFill, setAt, implies_true, forall_const, forall_eq, ne_eq, exists_eq_right_right, exists_eq_right, exists_eq_left, exists_eq_left', rootL, eAttr, eInt, eNode, eDoc, eBool, he1, he2, he4, eDoc]
  refine ⟨by omega, ?_⟩
  have e0 : nth d.nodes c.toNat = nd d c := rfl
  rw [e0]
  refine Br.dec (fun h1 => ?_) (fun h1 => ?_)
  · simp -dsimp -implicitDefEqProofs (disch := omega) only [↓vcOps_sp 12, ↓vcD_sp 12, VCA, pg_gl, ↓upd_none, Nat.reduceEqDiff, Nat.reduceBEq, Nat.reduceAdd, Nat.reduceSub, Nat.reduceMul, Nat.reduceLT, Nat.reduceLeDiff, ↓reduceIte, reduceCtorEq, rsOf, rootsOf, SOp.rd, SI.rd, SX.rd, rdL, rdO, rdP, okParts, eqCells, okEqCells, fillA, okFill, setAt, implies_true, forall_const, forall_eq, ne_eq, exists_eq_right_right, exists_eq_right, exists_eq_left, exists_eq_left', rootL, eAttr, eInt, eNode, eDoc, eBool, he1, he2, he4, eDoc]
    refine Br.dec (fun h2 => ?_) (fun h2 => ?_)
    · simp -dsimp -implicitDefEqProofs (disch := omega) only [↓vcOps_sp 12, ↓vcD_sp 12, VCA, pg_gl, ↓upd_none, Nat.reduceEqDiff, Nat.reduceBEq, Nat.reduceAdd, Nat.reduceSub, Nat.reduceMul, Nat.reduceLT, Nat.reduceLeDiff, ↓reduceIte, reduceCtorEq, rsOf, rootsOf, SOp.rd, SI.rd, SX.rd, rdL, rdO, rdP, okParts, eqCells, okEqCells, fillA, okFill, setAt, implies_true, forall_const, forall_eq, ne_eq, exists_eq_right_right, exists_eq_right, exists_eq_left, exists_eq_left', rootL, eAttr, eInt, eNode, eDoc, eBool, he1, he2, he4, eDoc]
      refine ⟨by omega, _, ?_, (nd d c).parent, k + 1, by omega, rfl, hP c hc h1, rfl, by omega, ?_⟩
      · omega
      · obtain ⟨f, hf⟩ : ∃ f, d.nodes.length + 1 - k = f + 1 := ⟨d.nodes.length - k, by omega⟩
        rw [hf, upF, if_pos h1] at hu
        have e2 : d.nodes.length + 1 - (k + 1) = f := by omega
        rw [e2]; omega
    · simp -dsimp -implicitDefEqProofs (disch := omega) only [↓vcOps_sp 12, ↓vcD_sp 12, VCA, pg_gl, ↓upd_none, Nat.reduceEqDiff, Nat.reduceBEq, Nat.reduceAdd, Nat.reduceSub, Nat.reduceMul, Nat.reduceLT, Nat.reduceLeDiff, ↓reduceIte, reduceCtorEq, rsOf, rootsOf, SOp.rd, SI.rd, SX.rd, rdL, rdO, rdP, okParts, eqCells, okEqCells, fillA, okFill, setAt, implies_true, forall_const, forall_eq, ne_eq, exists_eq_right_right, exists_eq_right, exists_eq_left, exists_eq_left', rootL, eAttr, eInt, eNode, eDoc, eBool, he4]
      have hk' : k = d.nodes.length + 1 := by omega
      subst hk'
      rw [Nat.sub_self, upF] at hu
      exact ⟨Sub.refl _, by omega⟩
  · simp -dsimp -implicitDefEqProofs (disch := omega) only [↓vcOps_sp 12, ↓vcD_sp 12, VCA, pg_gl, ↓upd_none, Nat.reduceEqDiff, Nat.reduceBEq, Nat.reduceAdd, Nat.reduceSub, Nat.reduceMul, Nat.reduceLT, Nat.reduceLeDiff, ↓reduceIte, reduceCtorEq, rsOf, rootsOf, SOp.rd, SI.rd, SX.rd, rdL, rdO, rdP, okParts, eqCells, okEqCells, fillA, okFill, setAt, implies_true, forall_const, forall_eq, ne_eq, exists_eq_right_right, exists_eq_right, exists_eq_left, exists_eq_left', rootL, eAttr, eInt, eNode, eDoc, eBool, he4]
    rw [upF_top h1] at hu
    exact ⟨Sub.refl _, by omega⟩
def SeenI (d : HDoc) (i k : Nat) (sn : List Bool) : Prop := sn.length = d.nodes.length ∧ ∀ j, j < d.nodes.length → (nth sn j = true ↔ (∃ i', i' < i ∧ (j : Int) ∈ (nth d.nodes i').kids) ∨ (j : Int) ∈ (nth d.nodes i).kids.take k)
def kidsAll (d : HDoc) : Int :=
  if fe d.nodes.length (kidsE d) ≠ 0 then fe d.nodes.length (kidsE d)
  else if fe d.nodes.length (parE d) ≠ 0 then fe d.nodes.length (parE d)
  else if (nd d 0).parent ≠ -1 then 3 else 0
theorem seen_zero (d : HDoc) : SeenI d 0 0 (List.replicate d.nodes.length false) := by
  refine ⟨by simp, fun j hj => ?_⟩
  have : nth (List.replicate d.nodes.length false) j = false := by simp [nth, List.getD_eq_getElem?_getD, List.getElem?_replicate, hj]
  rw [this]
  simp
theorem seen_next {d : HDoc} {i : Nat} {sn : List Bool} (h : SeenI d i (nth d.nodes i).kids.length sn) : SeenI d (i + 1) 0 sn := by
  refine ⟨h.1, fun j hj => ?_⟩
  rw [h.2 j hj, List.take_length]
  constructor
  · rintro (⟨i', h1, h2⟩ | h1)
    · exact .inl ⟨i', by omega, h2⟩
    · exact .inl ⟨i, by omega, h1⟩
  · rintro (⟨i', h1, h2⟩ | h1)
    · by_cases hi : i' = i
      · subst hi; exact .inr h2
      · exact .inl ⟨i', by omega, h2⟩
    · simp at h1
theorem seen_kid {d : HDoc} {i k : Nat} {sn : List Bool} (h : SeenI d i k sn) (hk : k < (nth d.nodes i).kids.length) (hd : inD d (nth (nth d.nodes i).kids k)) : SeenI d i (k + 1) (sn.set (nth (nth d.nodes i).kids k).toNat true) := by
  have hn := hd.nat
  refine ⟨by rw [List.length_set]; exact h.1, fun j hj => ?_⟩
  rw [nth_set _ _ _ _ (by rw [h.1]; exact hn.1), take_snoc hk, List.mem_append, List.mem_singleton]
  split
  · rename_i hj'
    subst hj'
    rw [hn.2]
    simp
  · rename_i hj'
    rw [h.2 j hj]
    constructor
    · rintro (h1 | h1)
      · exact .inl h1
      · exact .inr (.inl h1)
    · rintro (h1 | h1 | h1)
      · exact .inl h1
      · exact .inr h1
      · exact absurd (by omega) hj'
theorem seen_is {d : HDoc} {i k : Nat} {sn : List Bool} (h : SeenI d i k sn) (hi : i < d.nodes.length) (h0 : ∀ j, j < i → kidsE d j = 0) {c : Int} (hc : inD d c) (hp : (nd d c).parent = i) : nth sn c.toNat = true ↔ c ∈ (nth d.nodes i).kids.take k := by
  rw [h.2 _ hc.nat.1, hc.nat.2]
  constructor
  · rintro (⟨i', h1, h2⟩ | h1)
    · obtain ⟨q, hq, rfl⟩ := mem_nth h2
      have := fe_zero (h0 i' h1) q hq
      unfold kidE at this
      simp only at this
      split at this
      · omega
      · rename_i hn
        simp only [not_or, Classical.not_not] at hn
        omega
    · exact h1
  · exact .inr
theorem seen_end {d : HDoc} {sn : List Bool} (h : SeenI d d.nodes.length 0 sn) (h0 : ∀ j, j < d.nodes.length → kidsE d j = 0) {i : Nat} (hi : i < d.nodes.length) : nth sn i = true ↔ (inD d (nth d.nodes i).parent ∧ (i : Int) ∈ (nd d (nth d.nodes i).parent).kids) := by
  rw [h.2 _ hi]
  constructor
  · rintro (⟨i', h1, h2⟩ | h1)
    · obtain ⟨q, hq, he⟩ := mem_nth h2
      have := fe_zero (h0 i' h1) q hq
      unfold kidE at this
      simp only [he] at this
      split at this
      · omega
      · rename_i hn
        simp only [not_or, Classical.not_not] at hn
        rw [nd_nat] at hn
        rw [hn.2.1, nd_nat]
        exact ⟨inD_nat.2 h1, h2⟩
    · simp at h1
  · intro ⟨h1, h2⟩
    exact .inl ⟨_, h1.nat.1, h2⟩
theorem eBool_set (sn : List Bool) (k : Nat) (b : Bool) : (sn.map eBool).set k [.bool b] = (sn.set k b).map eBool := by
  rw [List.map_set]; rfl
def c39 : SFun := ⟨.seq (.reg [⟨some 1, .boxF 29 2 (.t 0), none⟩, ⟨some 2, .mv (.c (.int .i64 0)), none⟩]) (.seq (.reg [⟨some 10, .fldA 0 (.t 1), none⟩, ⟨some 11, .ld 1 false (.t 10), none⟩, ⟨some 12, .len (.t 11), none⟩, ⟨some 13, .mks 4 1 1 [.bool false] (.t 12) (.t 12), none⟩, ⟨some 3, .mv (.t 13), none⟩]) (.seq (.seq (.reg [⟨some 14, .fldA 0 (.t 1), none⟩, ⟨some 15, .ld 1 false (.t 14), none⟩, ⟨some 16, .len (.t 15), none⟩, ⟨some 17, .mv (.c (.int .i64 0)), none⟩]) (.block 0 (.loop (.seq (.reg [⟨some 18, .bin .lss (.t 17) (.t 16), none⟩]) (.seq (.cond (.t 18) .skip (.exit 0)) (.seq (.block 1 (.seq (.reg [⟨some 19, .mv (.t 17), none⟩, ⟨some 20, .idxA 6 (.t 15) (.t 17), none⟩, ⟨some 21, .ld 6 true (.t 20), none⟩, ⟨some 5, .new 53 6 [.int .i64 0, .str [], .emp, .str [], .int .i64 0, .emp], none⟩, ⟨some 4, .mv (.t 19), none⟩, ⟨none, .st 6 (.t 5) (.t 21), none⟩]) (.seq (.reg [⟨some 22, .fldA 5 (.t 5), none⟩, ⟨some 23, .ld 1 false (.t 22), none⟩, ⟨some 24, .len (.t 23), none⟩, ⟨some 25, .mv (.c (.int .i64 0)), none⟩]) (.block 2 (.loop (.seq (.reg [⟨some 26, .bin .lss (.t 25) (.t 24), none⟩]) (.seq (.cond (.t 26) .skip (.exit 2)) (.seq (.block 3 (.seq (.reg [⟨some 27, .idxA 1 (.t 23) (.t 25), none⟩, ⟨some 28, .ld 1 false (.t 27), none⟩, ⟨some 7, .mv (.t 28), none⟩]) (.seq (.block 4 (.seq (.reg [⟨some 30, .mv (.t 7), none⟩, ⟨some 31, .bin .lss (.t 30) (.c (.int .i64 0)), none⟩, ⟨some 32, .mv (.t 31), none⟩, ⟨some 33, .mv (.t 7), some (32, false)⟩, ⟨some 34, .mv (.t 3), some (32, false)⟩, ⟨some 35, .len (.t 34), some (32, false)⟩, ⟨some 36, .bin .geq (.t 33) (.t 35), some (32, false)⟩, ⟨some 37, .pick (.t 32) (.c (.bool true)) (.t 36), none⟩, ⟨some 38, .mv (.t 37), none⟩, ⟨some 39, .fldA 0 (.t 1), some (38, false)⟩, ⟨some 40, .ld 1 false (.t 39), some (38, false)⟩, ⟨some 41, .mv (.t 7), some (38, false)⟩, ⟨some 42, .idxA 6 (.t 40) (.t 41), some (38, false)⟩, ⟨some 43, .fldA 4 (.t 42), some (38, false)⟩, ⟨some 44, .ld 1 false (.t 43), some (38, false)⟩, ⟨some 45, .mv (.t 4), some (38, false)⟩, ⟨some 46, .bin .neq (.t 44) (.t 45), some (38, false)⟩, ⟨some 47, .pick (.t 38) (.c (.bool true)) (.t 46), none⟩, ⟨some 48, .mv (.t 47), none⟩, ⟨some 49, .mv (.t 3), some (48, false)⟩, ⟨some 50, .mv (.t 7), some (48, false)⟩, ⟨some 51, .idxA 1 (.t 49) (.t 50), some (48, false)⟩, ⟨some 52, .ld 1 false (.t 51), some (48, false)⟩, ⟨some 53, .pick (.t 48) (.c (.bool true)) (.t 52), none⟩, ⟨some 29, .mv (.t 53), none⟩]) (.cond (.t 29) (.seq (.reg [⟨some 2, .mv (.c (.int .i64 3)), none⟩]) .ret) (.seq (.reg [⟨some 55, .mv (.t 4), none⟩, ⟨some 56, .bin .eql (.t 55) (.c (.int .i64 0)), none⟩, ⟨some 57, .mv (.t 56), none⟩, ⟨some 58, .fldA 0 (.t 1), some (57, true)⟩, ⟨some 59, .ld 1 false (.t 58), some (57, true)⟩, ⟨some 60, .mv (.t 7), some (57, true)⟩, ⟨some 61, .idxA 6 (.t 59) (.t 60), some (57, true)⟩, ⟨some 62, .fldA 0 (.t 61), some (57, true)⟩, ⟨some 63, .ld 1 false (.t 62), some (57, true)⟩, ⟨some 64, .bin .eql (.t 63) (.c (.int .i64 3)), some (57, true)⟩, ⟨some 65, .pick (.t 57) (.t 64) (.c (.bool false)), none⟩, ⟨some 54, .mv (.t 65), none⟩]) (.cond (.t 54) (.seq (.reg [⟨some 2, .mv (.c (.int .i64 7)), none⟩]) .ret) .skip))))) (.reg [⟨some 66, .mv (.t 3), none⟩, ⟨some 67, .mv (.t 7), none⟩, ⟨some 68, .idxA 1 (.t 66) (.t 67), none⟩, ⟨none, .st 1 (.t 68) (.c (.bool true)), none⟩])))) (.reg [⟨some 69, .bin .add (.t 25) (.c (.int .i64 1)), none⟩, ⟨some 25, .mv (.t 69), none⟩]))))))))) (.reg [⟨some 70, .bin .add (.t 17) (.c (.int .i64 1)), none⟩, ⟨some 17, .mv (.t 70), none⟩]))))))) (.seq (.seq (.reg [⟨some 71, .fldA 0 (.t 1), none⟩, ⟨some 72, .ld 1 false (.t 71), none⟩, ⟨some 73, .len (.t 72), none⟩, ⟨some 74, .mv (.c (.int .i64 0)), none⟩]) (.block 5 (.loop (.seq (.reg [⟨some 75, .bin .lss (.t 74) (.t 73), none⟩]) (.seq (.cond (.t 75) .skip (.exit 5)) (.seq (.block 6 (.seq (.reg [⟨some 76, .mv (.t 74), none⟩, ⟨some 77, .idxA 6 (.t 72) (.t 74), none⟩, ⟨some 78, .ld 6 true (.t 77), none⟩, ⟨some 9, .new 53 6 [.int .i64 0, .str [], .emp, .str [], .int .i64 0, .emp], none⟩, ⟨some 8, .mv (.t 76), none⟩, ⟨none, .st 6 (.t 9) (.t 78), none⟩]) (.seq (.reg [⟨some 79, .fldA 4 (.t 9), none⟩, ⟨some 80, .ld 1 false (.t 79), none⟩, ⟨some 81, .bin .neq (.t 80) (.c (.int .i64 (-1))), none⟩, ⟨some 82, .mv (.t 81), none⟩, ⟨some 83, .mv (.t 3), some (82, true)⟩, ⟨some 84, .mv (.t 8), some (82, true)⟩, ⟨some 85, .idxA 1 (.t 83) (.t 84), some (82, true)⟩, ⟨some 86, .ld 1 false (.t 85), some (82, true)⟩, ⟨some 87, .un .not (.t 86), some (82, true)⟩, ⟨some 88, .pick (.t 82) (.t 87) (.c (.bool false)), none⟩]) (.cond (.t 88) (.seq (.reg [⟨some 2, .mv (.c (.int .i64 3)), none⟩]) .ret) .skip)))) (.reg [⟨some 89, .bin .add (.t 74) (.c (.int .i64 1)), none⟩, ⟨some 74, .mv (.t 89), none⟩]))))))) (.seq (.seq (.reg [⟨some 90, .fldA 0 (.t 1), none⟩, ⟨some 91, .ld 1 false (.t 90), none⟩, ⟨some 92, .idxA 6 (.t 91) (.c (.int .i64 0)), none⟩, ⟨some 93, .fldA 4 (.t 92), none⟩, ⟨some 94, .ld 1 false (.t 93), none⟩, ⟨some 95, .bin .neq (.t 94) (.c (.int .i64 (-1))), none⟩]) (.cond (.t 95) (.seq (.reg [⟨some 2, .mv (.c (.int .i64 3)), none⟩]) .ret) .skip)) (.seq (.reg [⟨some 2, .mv (.c (.int .i64 0)), none⟩]) .ret))))), [.tmp 2]⟩
theorem hc39 : toSF Tryd.prog {} Tryd.f39 = some c39 := by kernel_rfl
theorem hn39 : (Tryd.f39.name == "runtime.NumGoroutine") = false := by kernel_rfl
theorem kids_ok (d : HDoc) (sm : DocSm d) (hp : 0 < d.nodes.length) : PCalls (Pg G) 39 [.agg (eDoc d)] (aInt (kidsAll d)) := fun h => by
  have hl := sm.len
  refine dcalls_of_vc Tryd.func39 hn39 hc39 (by rw [Tryd.ntmps39]; simp) (by rw [Tryd.ntmps39]; decide) ?_
  simp -dsimp -implicitDefEqProofs (disch := omega) only [↓vcOps_sp 32, ↓vcD_sp 32, ↓vcOps_sp 38, ↓vcD_sp 38, ↓vcOps_sp 48, ↓vcD_sp 48, ↓vcOps_sp 57, ↓vcD_sp 57, ↓vcOps_sp 82, ↓vcD_sp 82, VCA, pg_gl, ↓upd_none, Nat.reduceEqDiff, Nat.reduceBEq, Nat.reduceAdd, Nat.reduceSub, Nat.reduceMul, Nat.reduceLT, Nat.reduceLeDiff, ↓reduceIte, reduceCtorEq, rsOf, rootsOf, SOp.rd, SI.rd, SX.rd, rdL, rdO, rdP, okParts, eqCells, okEqCells, fillA, okFill, setAt, implies_true, forall_const, forall_eq, ne_eq, exists_eq_right_right, exists_eq_right, exists_eq_left, exists_eq_left', rootL, eAttr, eInt, eNode, eDoc, eBool, c39, eDoc]
  refine ⟨by omega, by omega, by omega, by omega, fun r hr => ?_⟩
  have S0 : Sim.Sub h (upd h r (some ⟨.t 4, 1, List.replicate d.nodes.length [.bool false]⟩)) := (Sub.refl h).upd hr
  refine LoopVC.intro (fun m e h' => ∃ (i : Nat) (sn : List Bool), i ≤ d.nodes.length ∧ m = d.nodes.length - i ∧ e 1 = .pin (eDoc d) ∧ e 3 = .osl r 1 0 d.nodes.length ∧ e 15 = sl eNode d.nodes ∧ e 16 = aInt d.nodes.length ∧ e 17 = aInt i ∧ Sim.Sub h h' ∧
      h' r = some ⟨.t 4, 1, sn.map eBool⟩ ∧ SeenI d i 0 sn ∧ ∀ j, j < i → kidsE d j = 0) d.nodes.length ⟨0, List.replicate d.nodes.length false, by omega, by omega, rfl, rfl, rfl, rfl, rfl, S0, by simp [eBool], seen_zero d, by omega⟩ ?_
  rintro m e h' ⟨i, sn, hi, rfl, he1, he3, he15, he16, he17, S, hr', hS, hj⟩
  simp -dsimp -implicitDefEqProofs (disch := omega) only [↓vcOps_sp 32, ↓vcD_sp 32, ↓vcOps_sp 38, ↓vcD_sp 38, ↓vcOps_sp 48, ↓vcD_sp 48, ↓vcOps_sp 57, ↓vcD_sp 57, ↓vcOps_sp 82, ↓vcD_sp 82, VCA, pg_gl, ↓upd_none, Nat.reduceEqDiff, Nat.reduceBEq, Nat.reduceAdd, Nat.reduceSub, Nat.reduceMul, Nat.reduceLT, Nat.reduceLeDiff, ↓reduceIte, reduceCtorEq, rsOf, rootsOf, SOp.rd, SI.rd, SX.rd, rdL, rdO, rdP, okParts, eqCells, okEqCells, fillA, okFill, setAt, implies_true, forall_const, forall_eq, ne_eq, exists_eq_right_right, exists_eq_right, exists_eq_left, exists_eq_left', rootL, eAttr, eInt, eNode, eDoc, eBool, he1, he3, he15, he16, he17]
  refine Br.dec (fun hlt => ?_) (fun hge => ?_)
  · have hi' : i < d.nodes.length := by omega
    have smi := sm.nth i
    simp -dsimp -implicitDefEqProofs (disch := omega) only [↓vcOps_sp 32, ↓vcD_sp 32, ↓vcOps_sp 38, ↓vcD_sp 38, ↓vcOps_sp 48, ↓vcD_sp 48, ↓vcOps_sp 57, ↓vcD_sp 57, ↓vcOps_sp 82, ↓vcD_sp 82, VCA, pg_gl, ↓upd_none, Nat.reduceEqDiff, Nat.reduceBEq, Nat.reduceAdd, Nat.reduceSub, Nat.reduceMul, Nat.reduceLT, Nat.reduceLeDiff, ↓reduceIte, reduceCtorEq, rsOf, rootsOf, SOp.rd, SI.rd, SX.rd, rdL, rdO, rdP, okParts, eqCells, okEqCells, fillA, okFill, setAt, implies_true, forall_const, forall_eq, ne_eq, exists_eq_right_right, exists_eq_right, exists_eq_left, exists_eq_left', rootL, eAttr, eInt, eNode, eDoc, eBool, he1, he3, he15, he16, he17]
    refine ⟨by omega, fun rx hrx => ?_⟩
    have hne : r ≠ rx := fun e => by subst e; rw [hr'] at hrx; cases hrx
    have S1 := S.upd (x := some ⟨.t 53, 6, [eNode (nth d.nodes i)]⟩) (S.none hrx)
    have hr1 : upd h' rx (some ⟨.t 53, 6, [eNode (nth d.nodes i)]⟩) r = some ⟨.t 4, 1, sn.map eBool⟩ := by rw [upd_ne _ _ hne]; exact hr'
    have kl := smi.kids
    refine LoopVC.intro (fun m e h' => ∃ (k : Nat) (sn : List Bool), k ≤ (nth d.nodes i).kids.length ∧ m = (nth d.nodes i).kids.length - k ∧ e 1 = .pin (eDoc d) ∧ e 3 = .osl r 1 0 d.nodes.length ∧ e 4 = aInt i ∧ e 15 = sl eNode d.nodes ∧ e 16 = aInt d.nodes.length ∧ e 17 = aInt i ∧
      e 23 = sl eInt (nth d.nodes i).kids ∧ e 24 = aInt (nth d.nodes i).kids.length ∧ e 25 = aInt k ∧ Sim.Sub h h' ∧ h' r = some ⟨.t 4, 1, sn.map eBool⟩ ∧ SeenI d i k sn ∧ ∀ j, j < k → kidE d i j = 0) (nth d.nodes i).kids.length ⟨0, sn, by omega, by omega, he1, he3, rfl, he15, he16, he17, rfl, rfl, rfl, S1, hr1, hS, by omega⟩ ?_
    rintro m e h' ⟨k, sn, hk, rfl, he1, he3, he4, he15, he16, he17, he23, he24, he25, S, hr', hS, hk0⟩
    have hsl := hS.1
    simp -dsimp -implicitDefEqProofs (disch := omega) only [↓vcOps_sp 32, ↓vcD_sp 32, ↓vcOps_sp 38, ↓vcD_sp 38, ↓vcOps_sp 48, ↓vcD_sp 48, ↓vcOps_sp 57, ↓vcD_sp 57, ↓vcOps_sp 82, ↓vcD_sp 82, VCA, pg_gl, ↓upd_none, Nat.reduceEqDiff, Nat.reduceBEq, Nat.reduceAdd, Nat.reduceSub, Nat.reduceMul, Nat.reduceLT, Nat.reduceLeDiff, ↓reduceIte, reduceCtorEq, rsOf, rootsOf, SOp.rd, SI.rd, SX.rd, rdL, rdO, rdP, okParts, eqCells, okEqCells, fillA, okFill, setAt, implies_true, forall_const, forall_eq, ne_eq, exists_eq_right_right, exists_eq_right, exists_eq_left, exists_eq_left', rootL, eAttr, eInt, eNode, eDoc, eBool, he1, he3, he4, he15, he16, he17, he23, he24, he25]
    refine Br.dec (fun hlt => ?_) (fun hge => ?_)
    · have hk' : k < (nth d.nodes i).kids.length := by omega
      have bad : ∀ x : Int, x ≠ 0 → kidE d i k = x → kidsAll d = x := fun x hx he => by
        have h1 : kidsE d i = x := by unfold kidsE; rw [fe_some hk' hk0 (by rw [he]; exact hx), he]
        have h2 : fe d.nodes.length (kidsE d) = x := by rw [fe_some hi' hj (by rw [h1]; exact hx), h1]
        unfold kidsAll; rw [h2, if_pos hx]
      have ks : ∀ hc : inD d (nth (nth d.nodes i).kids k), (nd d (nth (nth d.nodes i).kids k)).parent = i → (nth sn (nth (nth d.nodes i).kids k).toNat = true ↔ nth (nth d.nodes i).kids k ∈ (nth d.nodes i).kids.take k) := fun hc hp => seen_is hS hi' hj hc hp
      have hsk := fun hc => seen_kid hS hk' hc
      have kdef : kidE d i k = if ¬ inD d (nth (nth d.nodes i).kids k) ∨ (nd d (nth (nth d.nodes i).kids k)).parent ≠ i ∨ nth (nth d.nodes i).kids k ∈ (nth d.nodes i).kids.take k then 3 else if i = 0 ∧ (nd d (nth (nth d.nodes i).kids k)).kind = 3 then 7 else 0 := rfl
      have inC : inD d (nth (nth d.nodes i).kids k) ↔ ¬ nth (nth d.nodes i).kids k < 0 ∧ ¬ (d.nodes.length : Int) ≤ nth (nth d.nodes i).kids k := by unfold inD; omega
      have ok0 : ∀ j, kidE d i k = 0 → j < k + 1 → kidE d i j = 0 := fun j h0 hj' => by
        by_cases hjk : j = k
        · subst hjk; exact h0
        · exact hk0 j (by omega)
      simp -dsimp -implicitDefEqProofs (disch := omega) only [↓vcOps_sp 32, ↓vcD_sp 32, ↓vcOps_sp 38, ↓vcD_sp 38, ↓vcOps_sp 48, ↓vcD_sp 48, ↓vcOps_sp 57, ↓vcD_sp 57, ↓vcOps_sp 82, ↓vcD_sp 82, VCA, pg_gl, ↓upd_none, Nat.reduceEqDiff, Nat.reduceBEq, Nat.reduceAdd, Nat.reduceSub, Nat.reduceMul, Nat.reduceLT, Nat.reduceLeDiff, ↓reduceIte, reduceCtorEq, rsOf, rootsOf, SOp.rd, SI.rd, SX.rd, rdL, rdO, rdP, okParts, eqCells, okEqCells, fillA, okFill, setAt, implies_true, forall_const, forall_eq, ne_eq, exists_eq_right_right, exists_eq_right, exists_eq_left, exists_eq_left', rootL, eAttr, eInt, eNode, eDoc, eBool, he1, he3, he4, he15, he16, he17, he23, he24, he25, eDoc, eNode, hr']
      repeat' (first | ((with_reducible refine brC (fun _ => ?_) fun _ => ?_) <;> try (exfalso; omega)) | (with_reducible refine And.intro ?_ ?_; · omega) | simp -dsimp -implicitDefEqProofs (disch := omega) only [↓vcOps_sp 32, ↓vcD_sp 32, ↓vcOps_sp 38, ↓vcD_sp 38, ↓vcOps_sp 48, ↓vcD_sp 48, ↓vcOps_sp 57, ↓vcD_sp 57, ↓vcOps_sp 82, ↓vcD_sp 82, VCA, pg_gl, ↓upd_none, Nat.reduceEqDiff, Nat.reduceBEq, Nat.reduceAdd, Nat.reduceSub, Nat.reduceMul, Nat.reduceLT, Nat.reduceLeDiff, ↓reduceIte, reduceCtorEq, rsOf, rootsOf, SOp.rd, SI.rd, SX.rd, rdL, rdO, rdP, okParts, eqCells, okEqCells, fillA, okFill, setAt, implies_true, forall_const, forall_eq, ne_eq, exists_eq_right_right, exists_eq_right, exists_eq_left, exists_eq_left', rootL, eAttr, eInt, eNode, eDoc, eBool, he1, he3, he4, he15, he16, he17, he23, he24, he25, eDoc, eNode, hr', eBool])
      · rename_i q
        exact (bad 3 (by decide) (by rw [kdef, if_pos (.inl fun hc => (inC.1 hc).1 q)])).symm
      · rename_i q
        exact (bad 3 (by decide) (by rw [kdef, if_pos (.inl fun hc => (inC.1 hc).2 q)])).symm
      · rename_i q
        exact (bad 3 (by decide) (by rw [kdef, if_pos (.inr (.inl q))])).symm
      · rename_i q3 q2 q1 q
        exact (bad 3 (by decide) (by rw [kdef, if_pos (.inr (.inr ((ks (inC.2 ⟨q3, q2⟩) q1).1 q)))])).symm
      · rename_i q5 q4 q3 q2 q1 q
        refine (bad 7 (by decide) ?_).symm
        rw [kdef, if_neg, if_pos ⟨by omega, q⟩]
        rintro (hh | hh | hh)
        · exact hh (inC.2 ⟨q5, q4⟩)
        · exact hh q3
        · rw [(ks (inC.2 ⟨q5, q4⟩) q3).2 hh] at q2; cases q2
      · rename_i q5 q4 q3 q2 q1 q
        have k0 : kidE d i k = 0 := by
          rw [kdef, if_neg, if_neg (fun hh => q hh.2)]
          rintro (hh | hh | hh)
          · exact hh (inC.2 ⟨q5, q4⟩)
          · exact hh q3
          · rw [(ks (inC.2 ⟨q5, q4⟩) q3).2 hh] at q2; cases q2
        refine ⟨_, by omega, k + 1, sn.set (nth (nth d.nodes i).kids k).toNat true, by omega, rfl, by omega, S.upd hr, ?_, hsk (inC.2 ⟨q5, q4⟩), fun j => ok0 j k0⟩
        rw [eBool_set]
      · rename_i q4 q3 q2 q1 q
        have k0 : kidE d i k = 0 := by
          rw [kdef, if_neg, if_neg (fun hh => q (by omega))]
          rintro (hh | hh | hh)
          · exact hh (inC.2 ⟨q4, q3⟩)
          · exact hh q2
          · rw [(ks (inC.2 ⟨q4, q3⟩) q2).2 hh] at q1; cases q1
        refine ⟨_, by omega, k + 1, sn.set (nth (nth d.nodes i).kids k).toNat true, by omega, rfl, by omega, S.upd hr, ?_, hsk (inC.2 ⟨q4, q3⟩), fun j => ok0 j k0⟩
        rw [eBool_set]
    · simp -dsimp -implicitDefEqProofs (disch := omega) only [↓vcOps_sp 32, ↓vcD_sp 32, ↓vcOps_sp 38, ↓vcD_sp 38, ↓vcOps_sp 48, ↓vcD_sp 48, ↓vcOps_sp 57, ↓vcD_sp 57, ↓vcOps_sp 82, ↓vcD_sp 82, VCA, pg_gl, ↓upd_none, Nat.reduceEqDiff, Nat.reduceBEq, Nat.reduceAdd, Nat.reduceSub, Nat.reduceMul, Nat.reduceLT, Nat.reduceLeDiff, ↓reduceIte, reduceCtorEq, rsOf, rootsOf, SOp.rd, SI.rd, SX.rd, rdL, rdO, rdP, okParts, eqCells, okEqCells, fillA, okFill, setAt, implies_true, forall_const, forall_eq, ne_eq, exists_eq_right_right, exists_eq_right, exists_eq_left, exists_eq_left', rootL, eAttr, eInt, eNode, eDoc, eBool, he1, he3, he4, he15, he16, he17, he23, he24, he25]
      obtain rfl : k = (nth d.nodes i).kids.length := by omega
      refine ⟨_, by omega, i + 1, sn, by omega, rfl, by omega, S, hr', seen_next hS, fun j hj' => ?_⟩
      by_cases hji : j = i
      · subst hji; exact fe_none hk0
      · exact hj j (by omega)
  · obtain rfl : i = d.nodes.length := by omega
    have hk0 : fe d.nodes.length (kidsE d) = 0 := fe_none hj
    have hsl := hS.1
    simp -dsimp -implicitDefEqProofs (disch := omega) only [↓vcOps_sp 32, ↓vcD_sp 32, ↓vcOps_sp 38, ↓vcD_sp 38, ↓vcOps_sp 48, ↓vcD_sp 48, ↓vcOps_sp 57, ↓vcD_sp 57, ↓vcOps_sp 82, ↓vcD_sp 82, VCA, pg_gl, ↓upd_none, Nat.reduceEqDiff, Nat.reduceBEq, Nat.reduceAdd, Nat.reduceSub, Nat.reduceMul, Nat.reduceLT, Nat.reduceLeDiff, ↓reduceIte, reduceCtorEq, rsOf, rootsOf, SOp.rd, SI.rd, SX.rd, rdL, rdO, rdP, okParts, eqCells, okEqCells, fillA, okFill, setAt, implies_true, forall_const, forall_eq, ne_eq, exists_eq_right_right, exists_eq_right, exists_eq_left, exists_eq_left', rootL, eAttr, eInt, eNode, eDoc, eBool, he1, he3, eDoc]
    refine LoopVC.intro (fun m e h' => ∃ i : Nat, i ≤ d.nodes.length ∧ m = d.nodes.length - i ∧ e 1 = .pin (eDoc d) ∧ e 3 = .osl r 1 0 d.nodes.length ∧ e 72 = sl eNode d.nodes ∧ e 73 = aInt d.nodes.length ∧ e 74 = aInt i ∧ Sim.Sub h h' ∧
      h' r = some ⟨.t 4, 1, sn.map eBool⟩ ∧ ∀ j, j < i → parE d j = 0) d.nodes.length ⟨0, by omega, by omega, he1, he3, rfl, rfl, rfl, S, hr', by omega⟩ ?_
    rintro m e h' ⟨i, hi, rfl, he1, he3, he72, he73, he74, S, hr', hp0⟩
    simp -dsimp -implicitDefEqProofs (disch := omega) only [↓vcOps_sp 32, ↓vcD_sp 32, ↓vcOps_sp 38, ↓vcD_sp 38, ↓vcOps_sp 48, ↓vcD_sp 48, ↓vcOps_sp 57, ↓vcD_sp 57, ↓vcOps_sp 82, ↓vcD_sp 82, VCA, pg_gl, ↓upd_none, Nat.reduceEqDiff, Nat.reduceBEq, Nat.reduceAdd, Nat.reduceSub, Nat.reduceMul, Nat.reduceLT, Nat.reduceLeDiff, ↓reduceIte, reduceCtorEq, rsOf, rootsOf, SOp.rd, SI.rd, SX.rd, rdL, rdO, rdP, okParts, eqCells, okEqCells, fillA, okFill, setAt, implies_true, forall_const, forall_eq, ne_eq, exists_eq_right_right, exists_eq_right, exists_eq_left, exists_eq_left', rootL, eAttr, eInt, eNode, eDoc, eBool, he1, he3, he72, he73, he74]
    refine Br.dec (fun hlt => ?_) (fun hge => ?_)
    · have hi' : i < d.nodes.length := by omega
      have se := seen_end hS hj hi'
      have bad : parE d i = 3 → kidsAll d = 3 := fun h3 => by
        have h2 : fe d.nodes.length (parE d) = 3 := by rw [fe_some hi' hp0 (by rw [h3]; decide), h3]
        unfold kidsAll; rw [hk0, if_neg (by simp), h2]; rfl
      simp -dsimp -implicitDefEqProofs (disch := omega) only [↓vcOps_sp 32, ↓vcD_sp 32, ↓vcOps_sp 38, ↓vcD_sp 38, ↓vcOps_sp 48, ↓vcD_sp 48, ↓vcOps_sp 57, ↓vcD_sp 57, ↓vcOps_sp 82, ↓vcD_sp 82, VCA, pg_gl, ↓upd_none, Nat.reduceEqDiff, Nat.reduceBEq, Nat.reduceAdd, Nat.reduceSub, Nat.reduceMul, Nat.reduceLT, Nat.reduceLeDiff, ↓reduceIte, reduceCtorEq, rsOf, rootsOf, SOp.rd, SI.rd, SX.rd, rdL, rdO, rdP, okParts, eqCells, okEqCells, fillA, okFill, setAt, implies_true, forall_const, forall_eq, ne_eq, exists_eq_right_right, exists_eq_right, exists_eq_left, exists_eq_left', rootL, eAttr, eInt, eNode, eDoc, eBool, he1, he3, he72, he73, he74, eNode]
      refine ⟨by omega, fun rx hrx => ?_⟩
      have hne : r ≠ rx := fun e => by subst e; rw [hr'] at hrx; cases hrx
      have S1 := S.upd (x := some ⟨.t 53, 6, [eNode (nth d.nodes i)]⟩) (S.none hrx)
      have hr1 : ∀ x, upd h' rx (some x) r = some ⟨.t 4, 1, sn.map eBool⟩ := fun x => by rw [upd_ne _ _ hne]; exact hr'
      have pdef : parE d i = if (nth d.nodes i).parent ≠ -1 ∧ (¬ inD d (nth d.nodes i).parent ∨ (i : Int) ∉ (nd d (nth d.nodes i).parent).kids) then 3 else 0 := rfl
      have ok0 : parE d i = 0 → ∀ j, j < i + 1 → parE d j = 0 := fun h0 j hj' => by
        by_cases hji : j = i
        · subst hji; exact h0
        · exact hp0 j (by omega)
      repeat' (first | ((with_reducible refine brC (fun _ => ?_) fun _ => ?_) <;> try (exfalso; omega)) | (with_reducible refine And.intro ?_ ?_; · omega) | simp -dsimp -implicitDefEqProofs (disch := omega) only [↓vcOps_sp 32, ↓vcD_sp 32, ↓vcOps_sp 38, ↓vcD_sp 38, ↓vcOps_sp 48, ↓vcD_sp 48, ↓vcOps_sp 57, ↓vcD_sp 57, ↓vcOps_sp 82, ↓vcD_sp 82, VCA, pg_gl, ↓upd_none, Nat.reduceEqDiff, Nat.reduceBEq, Nat.reduceAdd, Nat.reduceSub, Nat.reduceMul, Nat.reduceLT, Nat.reduceLeDiff, ↓reduceIte, reduceCtorEq, rsOf, rootsOf, SOp.rd, SI.rd, SX.rd, rdL, rdO, rdP, okParts, eqCells, okEqCells, fillA, okFill, setAt, implies_true, forall_const, forall_eq, ne_eq, exists_eq_right_right, exists_eq_right, exists_eq_left, exists_eq_left', rootL, eAttr, eInt, eNode, eDoc, eBool, he1, he3, he72, he73, he74, eNode, hne, hr', eBool])
      · rename_i q1 q
        have hb := bad (by
          rw [pdef, if_pos]
          refine ⟨q1, ?_⟩
          rw [← Classical.not_and_iff_not_or_not, ← se]
          simpa using q)
        exact ⟨S1, by rw [hb]⟩
      · rename_i q1 q
        refine ⟨_, by omega, i + 1, by omega, rfl, by omega, S1, ok0 ?_⟩
        rw [pdef, if_neg]
        rintro ⟨_, hh⟩
        rw [← Classical.not_and_iff_not_or_not, ← se] at hh
        simp [hh] at q
      · rename_i q
        refine ⟨_, by omega, i + 1, by omega, rfl, by omega, S1, ok0 ?_⟩
        rw [pdef, if_neg (fun hh => hh.1 q)]
    · obtain rfl : i = d.nodes.length := by omega
      have hp1 : fe d.nodes.length (parE d) = 0 := fe_none hp0
      have e0 : nd d 0 = nth d.nodes 0 := nd_nat d 0
      have kd : kidsAll d = if (nth d.nodes 0).parent ≠ -1 then 3 else 0 := by
        unfold kidsAll; rw [hk0, if_neg (by simp), hp1, if_neg (by simp), e0]
      repeat' (first | ((with_reducible refine brC (fun _ => ?_) fun _ => ?_) <;> try (exfalso; omega)) | (with_reducible refine And.intro ?_ ?_; · omega) | simp -dsimp -implicitDefEqProofs (disch := omega) only [↓vcOps_sp 32, ↓vcD_sp 32, ↓vcOps_sp 38, ↓vcD_sp 38, ↓vcOps_sp 48, ↓vcD_sp 48, ↓vcOps_sp 57, ↓vcD_sp 57, ↓vcOps_sp 82, ↓vcD_sp 82, VCA, pg_gl, ↓upd_none, Nat.reduceEqDiff, Nat.reduceBEq, Nat.reduceAdd, Nat.reduceSub, Nat.reduceMul, Nat.reduceLT, Nat.reduceLeDiff, ↓reduceIte, reduceCtorEq, rsOf, rootsOf, SOp.rd, SI.rd, SX.rd, rdL, rdO, rdP, okParts, eqCells, okEqCells, fillA, okFill, setAt, implies_true, forall_const, forall_eq, ne_eq, exists_eq_right_right, exists_eq_right, exists_eq_left, exists_eq_left', rootL, eAttr, eInt, eNode, eDoc, eBool, he1, he3, he72, he73, he74, eDoc, eNode])
      · rename_i q
        rw [kd, if_pos q]
      · rename_i q
        rw [kd, if_neg (by simpa using q)]
theorem docE_kids (d : HDoc) : docE d = if 200 < d.nodes.length then 2 else if d.nodes.length = 0 then 3 else if fe d.nodes.length (headE d) ≠ 0 then fe d.nodes.length (headE d) else if kidsAll d ≠ 0 then kidsAll d else fe d.nodes.length (deepE d) := by
  unfold docE kidsAll
  by_cases h1 : fe d.nodes.length (kidsE d) ≠ 0
  · simp [h1]
  · by_cases h2 : fe d.nodes.length (parE d) ≠ 0
    · simp [h1, h2]
    · by_cases h3 : (nd d 0).parent ≠ -1 <;> simp [h1, h2, h3]
theorem kids_par {d : HDoc} (h : kidsAll d = 0) : ∀ n, inD d n → 0 ≤ (nd d n).parent → inD d (nd d n).parent := by
  intro n hn hp
  have h2 : fe d.nodes.length (parE d) = 0 := by
    unfold kidsAll at h
    split at h
    · contradiction
    · split at h
      · contradiction
      · rename_i hh; simpa using hh
  have := fe_zero h2 n.toNat hn.nat.1
  unfold parE at this
  simp only at this
  split at this
  · omega
  · rename_i hh
    have e : (nth d.nodes n.toNat) = nd d n := rfl
    rw [e] at hh
    simp only [not_and, not_or, Classical.not_not] at hh
    exact (hh (by omega)).1
def c22 : SFun := ⟨.seq (.reg [⟨some 1, .boxF 29 2 (.t 0), none⟩, ⟨some 2, .mv (.c (.int .i64 0)), none⟩]) (.seq (.block 0 (.seq (.reg [⟨some 10, .fldA 0 (.t 1), none⟩, ⟨some 11, .ld 1 false (.t 10), none⟩, ⟨some 12, .len (.t 11), none⟩, ⟨some 13, .bin .gtr (.t 12) (.c (.int .i64 200)), none⟩, ⟨some 9, .mv (.t 13), none⟩]) (.cond (.t 9) (.seq (.reg [⟨some 2, .mv (.c (.int .i64 2)), none⟩]) .ret) (.seq (.reg [⟨some 15, .fldA 0 (.t 1), none⟩, ⟨some 16, .ld 1 false (.t 15), none⟩, ⟨some 17, .len (.t 16), none⟩, ⟨some 18, .bin .eql (.t 17) (.c (.int .i64 0)), none⟩, ⟨some 14, .mv (.t 18), none⟩]) (.cond (.t 14) (.seq (.reg [⟨some 2, .mv (.c (.int .i64 3)), none⟩]) .ret) .skip))))) (.seq (.seq (.reg [⟨some 19, .fldA 0 (.t 1), none⟩, ⟨some 20, .ld 1 false (.t 19), none⟩, ⟨some 21, .len (.t 20), none⟩, ⟨some 22, .mv (.c (.int .i64 0)), none⟩]) (.block 1 (.loop (.seq (.reg [⟨some 23, .bin .lss (.t 22) (.t 21), none⟩]) (.seq (.cond (.t 23) .skip (.exit 1)) (.seq (.block 2 (.seq (.reg [⟨some 24, .mv (.t 22), none⟩, ⟨some 25, .idxA 6 (.t 20) (.t 22), none⟩, ⟨some 26, .ld 6 true (.t 25), none⟩, ⟨some 4, .new 53 6 [.int .i64 0, .str [], .emp, .str [], .int .i64 0, .emp], none⟩, ⟨some 3, .mv (.t 24), none⟩, ⟨none, .st 6 (.t 4) (.t 26), none⟩]) (.seq (.seq (.reg [⟨some 27, .fldA 0 (.t 4), none⟩, ⟨some 28, .ld 1 false (.t 27), none⟩, ⟨some 29, .bin .eql (.t 28) (.c (.int .i64 1)), none⟩, ⟨some 30, .mv (.t 3), none⟩, ⟨some 31, .bin .eql (.t 30) (.c (.int .i64 0)), none⟩, ⟨some 32, .eqb true (.t 29) (.t 31), none⟩]) (.cond (.t 32) (.seq (.reg [⟨some 2, .mv (.c (.int .i64 3)), none⟩]) .ret) .skip)) (.seq (.reg [⟨some 33, .ld 6 true (.t 4), none⟩, ⟨some 34, .pcall 38 [.t 33], none⟩, ⟨some 5, .mv (.t 34), none⟩]) (.seq (.reg [⟨some 35, .mv (.t 5), none⟩, ⟨some 36, .bin .neq (.t 35) (.c (.int .i64 0)), none⟩]) (.cond (.t 36) (.seq (.reg [⟨some 37, .mv (.t 5), none⟩, ⟨some 2, .mv (.t 37), none⟩]) .ret) .skip)))))) (.reg [⟨some 38, .bin .add (.t 22) (.c (.int .i64 1)), none⟩, ⟨some 22, .mv (.t 38), none⟩]))))))) (.seq (.seq (.reg [⟨some 39, .ld 2 true (.t 1), none⟩, ⟨some 40, .pcall 39 [.t 39], none⟩, ⟨some 6, .mv (.t 40), none⟩]) (.seq (.reg [⟨some 41, .mv (.t 6), none⟩, ⟨some 42, .bin .neq (.t 41) (.c (.int .i64 0)), none⟩]) (.cond (.t 42) (.seq (.reg [⟨some 43, .mv (.t 6), none⟩, ⟨some 2, .mv (.t 43), none⟩]) .ret) .skip))) (.seq (.seq (.reg [⟨some 44, .fldA 0 (.t 1), none⟩, ⟨some 45, .ld 1 false (.t 44), none⟩, ⟨some 46, .len (.t 45), none⟩, ⟨some 47, .mv (.c (.int .i64 0)), none⟩]) (.block 3 (.loop (.seq (.reg [⟨some 48, .bin .lss (.t 47) (.t 46), none⟩]) (.seq (.cond (.t 48) .skip (.exit 3)) (.seq (.block 4 (.seq (.reg [⟨some 49, .mv (.t 47), none⟩, ⟨some 7, .mv (.t 49), none⟩]) (.seq (.reg [⟨some 50, .ld 2 true (.t 1), none⟩, ⟨some 51, .mv (.t 7), none⟩, ⟨some 52, .pcall 40 [.t 50, .t 51], none⟩, ⟨some 8, .mv (.t 52), none⟩]) (.block 5 (.seq (.reg [⟨some 54, .mv (.t 8), none⟩, ⟨some 55, .fldA 0 (.t 1), none⟩, ⟨some 56, .ld 1 false (.t 55), none⟩, ⟨some 57, .len (.t 56), none⟩, ⟨some 58, .bin .gtr (.t 54) (.t 57), none⟩, ⟨some 53, .mv (.t 58), none⟩]) (.cond (.t 53) (.seq (.reg [⟨some 2, .mv (.c (.int .i64 8)), none⟩]) .ret) (.seq (.reg [⟨some 60, .mv (.t 8), none⟩, ⟨some 61, .bin .gtr (.t 60) (.c (.int .i64 40)), none⟩, ⟨some 59, .mv (.t 61), none⟩]) (.cond (.t 59) (.seq (.reg [⟨some 2, .mv (.c (.int .i64 2)), none⟩]) .ret) .skip)))))))) (.reg [⟨some 62, .bin .add (.t 47) (.c (.int .i64 1)), none⟩, ⟨some 47, .mv (.t 62), none⟩]))))))) (.seq (.reg [⟨some 2, .mv (.c (.int .i64 0)), none⟩]) .ret))))), [.tmp 2]⟩
theorem hc22 : toSF Tryd.prog {pure := [38, 39, 40]} Tryd.f22 = some c22 := by kernel_rfl
theorem hn22 : (Tryd.f22.name == "runtime.NumGoroutine") = false := by kernel_rfl
theorem check_ok (d : HDoc) (sm : DocSm d) : PCalls (Pg G) 22 [.agg (eDoc d)] (aInt (docE d)) := fun h => by
  have hl := sm.len
  rw [docE_kids]
  refine dcalls_of_vc Tryd.func22 hn22 hc22 (by rw [Tryd.ntmps22]; simp) (by rw [Tryd.ntmps22]; decide) ?_
  simp -dsimp -implicitDefEqProofs (disch := omega) only [VCA, pg_gl, ↓upd_none, Nat.reduceEqDiff, Nat.reduceBEq, Nat.reduceAdd, Nat.reduceSub, Nat.reduceMul, Nat.reduceLT, Nat.reduceLeDiff, ↓reduceIte, reduceCtorEq, rsOf, rootsOf, SOp.rd, SI.rd, SX.rd, rdL, rdO, rdP, okParts, eqCells, okEqCells, fillA, okFill, setAt, implies_true, forall_const, forall_eq, ne_eq, exists_eq_right_right, exists_eq_right, exists_eq_left, exists_eq_left', rootL, eAttr, eInt, eNode, eDoc, eBool, c22, eDoc]
  refine Br.dec (fun h1 => ?_) (fun h1 => ?_)
  · rw [if_pos (by omega)]
    simp -dsimp -implicitDefEqProofs (disch := omega) only [VCA, pg_gl, ↓upd_none, Nat.reduceEqDiff, Nat.reduceBEq, Nat.reduceAdd, Nat.reduceSub, Nat.reduceMul, Nat.reduceLT, Nat.reduceLeDiff, ↓reduceIte, reduceCtorEq, rsOf, rootsOf, SOp.rd, SI.rd, SX.rd, rdL, rdO, rdP, okParts, eqCells, okEqCells, fillA, okFill, setAt, implies_true, forall_const, forall_eq, ne_eq, exists_eq_right_right, exists_eq_right, exists_eq_left, exists_eq_left', rootL, eAttr, eInt, eNode, eDoc, eBool]
    exact Sub.refl _
  · rw [if_neg (by omega)]
    simp -dsimp -implicitDefEqProofs (disch := omega) only [VCA, pg_gl, ↓upd_none, Nat.reduceEqDiff, Nat.reduceBEq, Nat.reduceAdd, Nat.reduceSub, Nat.reduceMul, Nat.reduceLT, Nat.reduceLeDiff, ↓reduceIte, reduceCtorEq, rsOf, rootsOf, SOp.rd, SI.rd, SX.rd, rdL, rdO, rdP, okParts, eqCells, okEqCells, fillA, okFill, setAt, implies_true, forall_const, forall_eq, ne_eq, exists_eq_right_right, exists_eq_right, exists_eq_left, exists_eq_left', rootL, eAttr, eInt, eNode, eDoc, eBool]
    refine Br.eq (fun h2 => ?_) (fun h2 => ?_)
    · rw [if_pos (by omega)]
      simp -dsimp -implicitDefEqProofs (disch := omega) only [VCA, pg_gl, ↓upd_none, Nat.reduceEqDiff, Nat.reduceBEq, Nat.reduceAdd, Nat.reduceSub, Nat.reduceMul, Nat.reduceLT, Nat.reduceLeDiff, ↓reduceIte, reduceCtorEq, rsOf, rootsOf, SOp.rd, SI.rd, SX.rd, rdL, rdO, rdP, okParts, eqCells, okEqCells, fillA, okFill, setAt, implies_true, forall_const, forall_eq, ne_eq, exists_eq_right_right, exists_eq_right, exists_eq_left, exists_eq_left', rootL, eAttr, eInt, eNode, eDoc, eBool]
      exact Sub.refl _
    · rw [if_neg (by omega)]
      simp -dsimp -implicitDefEqProofs (disch := omega) only [VCA, pg_gl, ↓upd_none, Nat.reduceEqDiff, Nat.reduceBEq, Nat.reduceAdd, Nat.reduceSub, Nat.reduceMul, Nat.reduceLT, Nat.reduceLeDiff, ↓reduceIte, reduceCtorEq, rsOf, rootsOf, SOp.rd, SI.rd, SX.rd, rdL, rdO, rdP, okParts, eqCells, okEqCells, fillA, okFill, setAt, implies_true, forall_const, forall_eq, ne_eq, exists_eq_right_right, exists_eq_right, exists_eq_left, exists_eq_left', rootL, eAttr, eInt, eNode, eDoc, eBool]
      refine LoopVC.intro (fun m e h' => ∃ i : Nat, i ≤ d.nodes.length ∧ m = d.nodes.length - i ∧ e 1 = .pin (eDoc d) ∧ e 20 = sl eNode d.nodes ∧ e 21 = aInt d.nodes.length ∧ e 22 = aInt i ∧ Sim.Sub h h' ∧ ∀ j, j < i → headE d j = 0) d.nodes.length ⟨0, by omega, by omega, rfl, rfl, rfl, rfl, Sub.refl _, by omega⟩ ?_
      rintro m e h' ⟨i, hi, rfl, he1, he20, he21, he22, S, hj⟩
      simp -dsimp -implicitDefEqProofs (disch := omega) only [VCA, pg_gl, ↓upd_none, Nat.reduceEqDiff, Nat.reduceBEq, Nat.reduceAdd, Nat.reduceSub, Nat.reduceMul, Nat.reduceLT, Nat.reduceLeDiff, ↓reduceIte, reduceCtorEq, rsOf, rootsOf, SOp.rd, SI.rd, SX.rd, rdL, rdO, rdP, okParts, eqCells, okEqCells, fillA, okFill, setAt, implies_true, forall_const, forall_eq, ne_eq, exists_eq_right_right, exists_eq_right, exists_eq_left, exists_eq_left', rootL, eAttr, eInt, eNode, eDoc, eBool, he1, he20, he21, he22]
      refine Br.dec (fun hlt => ?_) (fun hge => ?_)
      · have hi' : i < d.nodes.length := by omega
        have hO : PCalls (Pg G) 38 [.agg [aInt (nth d.nodes i).kind, .str (nth d.nodes i).name, sl eAttr (nth d.nodes i).attrs, .str (nth d.nodes i).text, aInt (nth d.nodes i).parent, sl eInt (nth d.nodes i).kids]] (aInt (nodeE (nth d.nodes i))) := one_ok' _ (sm.nth i)
        simp -dsimp -implicitDefEqProofs (disch := omega) only [VCA, pg_gl, ↓upd_none, Nat.reduceEqDiff, Nat.reduceBEq, Nat.reduceAdd, Nat.reduceSub, Nat.reduceMul, Nat.reduceLT, Nat.reduceLeDiff, ↓reduceIte, reduceCtorEq, rsOf, rootsOf, SOp.rd, SI.rd, SX.rd, rdL, rdO, rdP, okParts, eqCells, okEqCells, fillA, okFill, setAt, implies_true, forall_const, forall_eq, ne_eq, exists_eq_right_right, exists_eq_right, exists_eq_left, exists_eq_left', rootL, eAttr, eInt, eNode, eDoc, eBool, he1, he20, he21, he22, eNode]
        refine ⟨by omega, fun rx hrx => ?_⟩
        have S1 := S.upd (x := some ⟨.t 53, 6, [eNode (nth d.nodes i)]⟩) (S.none hrx)
        have hdef : headE d i = if ¬ ((nth d.nodes i).kind = 1 ↔ i = 0) then 3 else nodeE (nth d.nodes i) := rfl
        have bad : ∀ x : Int, x ≠ 0 → headE d i = x → fe d.nodes.length (headE d) = x := fun x hx he => by rw [fe_some hi' hj (by rw [he]; exact hx), he]
        have bq : (((nth d.nodes i).kind == 1) == ((i : Int) == 0)) = true ↔ ((nth d.nodes i).kind = 1 ↔ i = 0) := by
          rw [beq_iff_eq, Bool.eq_iff_iff, beq_iff_eq, beq_iff_eq]; omega
        repeat' (first | ((with_reducible refine brC (fun _ => ?_) fun _ => ?_) <;> try (exfalso; omega)) | (with_reducible apply pcallE.of; · exact hO) | (with_reducible refine And.intro ?_ ?_; · omega) | simp -dsimp -implicitDefEqProofs (disch := omega) only [VCA, pg_gl, ↓upd_none, Nat.reduceEqDiff, Nat.reduceBEq, Nat.reduceAdd, Nat.reduceSub, Nat.reduceMul, Nat.reduceLT, Nat.reduceLeDiff, ↓reduceIte, reduceCtorEq, rsOf, rootsOf, SOp.rd, SI.rd, SX.rd, rdL, rdO, rdP, okParts, eqCells, okEqCells, fillA, okFill, setAt, implies_true, forall_const, forall_eq, ne_eq, exists_eq_right_right, exists_eq_right, exists_eq_left, exists_eq_left', rootL, eAttr, eInt, eNode, eDoc, eBool, he1, he20, he21, he22, eNode])
        · rename_i q
          have q : ¬ ((nth d.nodes i).kind = 1 ↔ i = 0) := fun hh => q (beq_iff_eq.1 (bq.2 hh))
          have := bad 3 (by decide) (by rw [hdef, if_pos q])
          exact ⟨S1, by rw [this]; rfl⟩
        · rename_i q1 q
          have q1 : ¬ ¬ ((nth d.nodes i).kind = 1 ↔ i = 0) := fun hh => hh (bq.1 (beq_iff_eq.2 q1))
          have := bad _ q (by rw [hdef, if_neg q1])
          exact ⟨S1, by rw [this, if_pos q]⟩
        · rename_i q1 q
          have q1 : ¬ ¬ ((nth d.nodes i).kind = 1 ↔ i = 0) := fun hh => hh (bq.1 (beq_iff_eq.2 q1))
          refine ⟨_, by omega, i + 1, by omega, rfl, by omega, S1, fun j hj' => ?_⟩
          by_cases hji : j = i
          · subst hji; rw [hdef, if_neg q1, q]
          · exact hj j (by omega)
      · obtain rfl : i = d.nodes.length := by omega
        rw [if_neg (by rw [fe_none hj]; simp)]
        have hK : PCalls (Pg G) 39 [.agg [sl eNode d.nodes, .bool d.quirks]] (aInt (kidsAll d)) := kids_ok d sm (by omega)
        simp -dsimp -implicitDefEqProofs (disch := omega) only [VCA, pg_gl, ↓upd_none, Nat.reduceEqDiff, Nat.reduceBEq, Nat.reduceAdd, Nat.reduceSub, Nat.reduceMul, Nat.reduceLT, Nat.reduceLeDiff, ↓reduceIte, reduceCtorEq, rsOf, rootsOf, SOp.rd, SI.rd, SX.rd, rdL, rdO, rdP, okParts, eqCells, okEqCells, fillA, okFill, setAt, implies_true, forall_const, forall_eq, ne_eq, exists_eq_right_right, exists_eq_right, exists_eq_left, exists_eq_left', rootL, eAttr, eInt, eNode, eDoc, eBool, he1, eDoc]
        refine pcallE.of (hK) ?_; simp -dsimp -implicitDefEqProofs (disch := omega) only [VCA, pg_gl, ↓upd_none, Nat.reduceEqDiff, Nat.reduceBEq, Nat.reduceAdd, Nat.reduceSub, Nat.reduceMul, Nat.reduceLT, Nat.reduceLeDiff, ↓reduceIte, reduceCtorEq, rsOf, rootsOf, SOp.rd, SI.rd, SX.rd, rdL, rdO, rdP, okParts, eqCells, okEqCells, fillA, okFill, setAt, implies_true, forall_const, forall_eq, ne_eq, exists_eq_right_right, exists_eq_right, exists_eq_left, exists_eq_left', rootL, eAttr, eInt, eNode, eDoc, eBool, he1, eDoc]
        refine Br.ne (fun h3 => ?_) (fun h3 => ?_)
        · simp -dsimp -implicitDefEqProofs (disch := omega) only [VCA, pg_gl, ↓upd_none, Nat.reduceEqDiff, Nat.reduceBEq, Nat.reduceAdd, Nat.reduceSub, Nat.reduceMul, Nat.reduceLT, Nat.reduceLeDiff, ↓reduceIte, reduceCtorEq, rsOf, rootsOf, SOp.rd, SI.rd, SX.rd, rdL, rdO, rdP, okParts, eqCells, okEqCells, fillA, okFill, setAt, implies_true, forall_const, forall_eq, ne_eq, exists_eq_right_right, exists_eq_right, exists_eq_left, exists_eq_left', rootL, eAttr, eInt, eNode, eDoc, eBool]
          exact ⟨S, by rw [if_pos h3]⟩
        · rw [if_neg (by simpa using h3)]
          have hP := kids_par h3
          simp -dsimp -implicitDefEqProofs (disch := omega) only [VCA, pg_gl, ↓upd_none, Nat.reduceEqDiff, Nat.reduceBEq, Nat.reduceAdd, Nat.reduceSub, Nat.reduceMul, Nat.reduceLT, Nat.reduceLeDiff, ↓reduceIte, reduceCtorEq, rsOf, rootsOf, SOp.rd, SI.rd, SX.rd, rdL, rdO, rdP, okParts, eqCells, okEqCells, fillA, okFill, setAt, implies_true, forall_const, forall_eq, ne_eq, exists_eq_right_right, exists_eq_right, exists_eq_left, exists_eq_left', rootL, eAttr, eInt, eNode, eDoc, eBool, he1, eDoc]
          refine LoopVC.intro (fun m e h' => ∃ i : Nat, i ≤ d.nodes.length ∧ m = d.nodes.length - i ∧ e 1 = .pin (eDoc d) ∧ e 46 = aInt d.nodes.length ∧ e 47 = aInt i ∧ Sim.Sub h h' ∧ ∀ j, j < i → deepE d j = 0) d.nodes.length ⟨0, by omega, by omega, he1, rfl, rfl, S, by omega⟩ ?_
          rintro m e h' ⟨i, hi, rfl, he1, he46, he47, S, hj⟩
          simp -dsimp -implicitDefEqProofs (disch := omega) only [VCA, pg_gl, ↓upd_none, Nat.reduceEqDiff, Nat.reduceBEq, Nat.reduceAdd, Nat.reduceSub, Nat.reduceMul, Nat.reduceLT, Nat.reduceLeDiff, ↓reduceIte, reduceCtorEq, rsOf, rootsOf, SOp.rd, SI.rd, SX.rd, rdL, rdO, rdP, okParts, eqCells, okEqCells, fillA, okFill, setAt, implies_true, forall_const, forall_eq, ne_eq, exists_eq_right_right, exists_eq_right, exists_eq_left, exists_eq_left', rootL, eAttr, eInt, eNode, eDoc, eBool, he1, he46, he47]
          refine Br.dec (fun hlt => ?_) (fun hge => ?_)
          · have hi' : i < d.nodes.length := by omega
            have hU : PCalls (Pg G) 40 [.agg [sl eNode d.nodes, .bool d.quirks], aInt i] (aInt (up d i)) := up_ok d sm hP i (inD_nat.2 hi')
            have bad : ∀ x : Int, x ≠ 0 → deepE d i = x → fe d.nodes.length (deepE d) = x := fun x hx he => by rw [fe_some hi' hj (by rw [he]; exact hx), he]
            have ddef : deepE d i = if d.nodes.length < up d i then 8 else if 40 < up d i then 2 else 0 := rfl
            simp -dsimp -implicitDefEqProofs (disch := omega) only [VCA, pg_gl, ↓upd_none, Nat.reduceEqDiff, Nat.reduceBEq, Nat.reduceAdd, Nat.reduceSub, Nat.reduceMul, Nat.reduceLT, Nat.reduceLeDiff, ↓reduceIte, reduceCtorEq, rsOf, rootsOf, SOp.rd, SI.rd, SX.rd, rdL, rdO, rdP, okParts, eqCells, okEqCells, fillA, okFill, setAt, implies_true, forall_const, forall_eq, ne_eq, exists_eq_right_right, exists_eq_right, exists_eq_left, exists_eq_left', rootL, eAttr, eInt, eNode, eDoc, eBool, he1, he46, he47, eDoc]
            repeat' (first | ((with_reducible refine brC (fun _ => ?_) fun _ => ?_) <;> try (exfalso; omega)) | (with_reducible apply pcallE.of; · exact hU) | (with_reducible refine And.intro ?_ ?_; · omega) | simp -dsimp -implicitDefEqProofs (disch := omega) only [VCA, pg_gl, ↓upd_none, Nat.reduceEqDiff, Nat.reduceBEq, Nat.reduceAdd, Nat.reduceSub, Nat.reduceMul, Nat.reduceLT, Nat.reduceLeDiff, ↓reduceIte, reduceCtorEq, rsOf, rootsOf, SOp.rd, SI.rd, SX.rd, rdL, rdO, rdP, okParts, eqCells, okEqCells, fillA, okFill, setAt, implies_true, forall_const, forall_eq, ne_eq, exists_eq_right_right, exists_eq_right, exists_eq_left, exists_eq_left', rootL, eAttr, eInt, eNode, eDoc, eBool, he1, he46, he47, eDoc])
            · exact (bad 8 (by decide) (by rw [ddef, if_pos (by omega)])).symm
            · exact (bad 2 (by decide) (by rw [ddef, if_neg (by omega), if_pos (by omega)])).symm
            · refine ⟨_, by omega, i + 1, by omega, rfl, by omega, S, fun j hj' => ?_⟩
              by_cases hji : j = i
              · subst hji; rw [ddef, if_neg (by omega), if_neg (by omega)]
              · exact hj j (by omega)
          · obtain rfl : i = d.nodes.length := by omega
            simp -dsimp -implicitDefEqProofs (disch := omega) only [VCA, pg_gl, ↓upd_none, Nat.reduceEqDiff, Nat.reduceBEq, Nat.reduceAdd, Nat.reduceSub, Nat.reduceMul, Nat.reduceLT, Nat.reduceLeDiff, ↓reduceIte, reduceCtorEq, rsOf, rootsOf, SOp.rd, SI.rd, SX.rd, rdL, rdO, rdP, okParts, eqCells, okEqCells, fillA, okFill, setAt, implies_true, forall_const, forall_eq, ne_eq, exists_eq_right_right, exists_eq_right, exists_eq_left, exists_eq_left', rootL, eAttr, eInt, eNode, eDoc, eBool]
            exact ⟨S, (fe_none hj).symm⟩
end Go.Proofs.K
end
